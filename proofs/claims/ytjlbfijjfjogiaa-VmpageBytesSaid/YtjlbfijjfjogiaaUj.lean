/-
  VmpageBack.
-/
import Derived.Test.YtjlbfijjfjogiaaUi
import Derived.Test.YtjlbfijjfjogiaaTj
set_option linter.unusedSimpArgs false
set_option linter.unusedVariables false
namespace Go.Pol
open Go.Am
theorem isR_nil {C : Nat → Int} {k : Nat} : isR [] C k = false := by
  unfold isR
  split
  · rfl
  · rfl
/-- A change of one page, where nothing is refused. -/
theorem chg_one {s : Sy} {p : Nat} {v w : Int} {k : Nat} (hl : s.l = []) (hp : p < 1024) (hv : s.K p = v) (hm : s.M p = false) : ∃ s', s.chg (p : Nat) 1 v w k = (0, s') ∧ s'.l = [] ∧ s'.K p = w ∧ (∀ j, j ≠ p → s'.K j = s.K j) ∧ s'.G = s.G := by
  refine ⟨{ s.ref k with K := setR s.K p 1 w, B := setP s.B p 1 }, ?_, hl, ?_, fun j hj => ?_, rfl⟩
  · unfold Sy.chg
    rw [if_neg (by omega), Int.toNat_natCast, show (1 : Int).toNat = 1 from rfl, if_pos, hl, isR_nil]
    · rfl
    · intro i hi
      obtain rfl : i = 0 := by omega
      exact ⟨hv, hm⟩
  · show setR s.K p 1 w p = w
    unfold setR; rw [if_pos (by omega)]
  · show setR s.K p 1 w j = _
    unfold setR; rw [if_neg (by omega)]
theorem plan_nil {s : Sy} : ∃ s', s.plan [] = (0, s') ∧ s'.l = [] := ⟨_, rfl, rfl⟩
end Go.Pol
namespace Go.Proofs.Ytjlbfijjfjogiaa
open Go Go.Am Go.Pol
section
variable {l : List Ac}
end
end Go.Proofs.Ytjlbfijjfjogiaa
