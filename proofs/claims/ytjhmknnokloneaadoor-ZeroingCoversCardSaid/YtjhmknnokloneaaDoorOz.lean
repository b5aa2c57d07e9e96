/-
  The law's acts.
-/
import Derived.Test.YtjhmknnokloneaaDoorOa
set_option linter.unusedSimpArgs false
set_option linter.unusedVariables false
namespace Go.Pol
abbrev ZAct := Nat × Nat × Nat
def zoneN (x : ZAct) : Zn := (x.2.1 % 1024, min (x.2.2 % 100) (1024 - x.2.1 % 1024))
theorem zoneN_le (x : ZAct) : (zoneN x).1 + (zoneN x).2 ≤ 1024 := by unfold zoneN; dsimp only; omega
end Go.Pol
namespace Go.Proofs.YtjhmknnokloneaaDoor
open Go Go.Am Go.Pol
def actA (x : ZAct) : List AV := [.int .u8 (x.1 : Nat), .int .u16 (x.2.1 : Nat), .int .u8 (x.2.2 : Nat)]
def actsA (l : List ZAct) : AV := .isl (l.map actA)
theorem act_len (x : ZAct) : (actA x).length = 3 := rfl
theorem act_plain (x : ZAct) : ∀ y ∈ actA x, Plain y := fun y hy => by
  simp only [actA, List.mem_cons, List.not_mem_nil, or_false] at hy
  rcases hy with rfl | rfl | rfl <;> exact plain_int
theorem plain_acts {l : List ZAct} : Plain (actsA l) := plain_isl fun e he y hy => by obtain ⟨x, _, rfl⟩ := List.mem_map.1 he; exact act_plain x y hy
theorem plain_actsI {l : List ZAct} : Plain (.isl (l.map actA)) := plain_acts
theorem zone_eqs {x : ZAct} (h1 : x.2.1 < 65536) (h2 : x.2.2 < 256) : IntKind.i64.wrap ((x.2.1 : Int).tmod 1024) = ((zoneN x).1 : Nat) ∧ IntKind.i64.wrap ((x.2.2 : Int).tmod 100) = ((x.2.2 % 100 : Nat) : Int) ∧ min ((x.2.2 % 100 : Nat) : Int) (1024 - ((zoneN x).1 : Nat)) = ((zoneN x).2 : Nat) := by
  refine ⟨?_, ?_, ?_⟩
  · rw [Int.tmod_eq_emod_of_nonneg (by omega), IntWalk.i64_in _ (by omega)]; unfold zoneN; dsimp only; omega
  · rw [Int.tmod_eq_emod_of_nonneg (by omega), IntWalk.i64_in _ (by omega)]; omega
  · unfold zoneN; dsimp only; omega
end Go.Proofs.YtjhmknnokloneaaDoor
