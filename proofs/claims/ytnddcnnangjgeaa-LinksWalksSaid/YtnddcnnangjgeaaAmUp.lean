/-
  Loops told of by what turns in the frame: the other live slots stay, the dead ones are forgotten. No program in sight.
-/
import Derived.Test.YtnddcnnangjgeaaAmRow
set_option linter.unusedSimpArgs false
set_option linter.unusedVariables false
namespace Go.Am
def sets : List AV → List (Nat × AV) → List AV
  | fr, [] => fr
  | fr, (t, v) :: r => sets (fr.set t v) r
def killA (live : List Nat) : Nat → List AV → List AV
  | _, [] => []
  | k, x :: r => (if live.contains k then x else .undef) :: killA live (k + 1) r
section
variable {P : Program} {G : Gl} {ι : Type}
theorem loop_up {rd : Option Nat} {N : Nat} {c : ACode} {Q : Exit → List AV → Hp → Prop} {fr : List AV} {h : Hp} (live : List Nat) (ups : ι → List (Nat × AV)) (H : ι → Hp) (ok : ι → Prop) (m : ι → Nat) (i0 : ι) (l : List (Nat × Nat)) (hk : keepsB N l = true) (hN : ∀ i, N ≤ (H i).next) (h0 : ok i0) (hw : Weak P (rn l) fr h (killA live 0 (sets fr (ups i0))) (H i0))
    (hr : ∀ i, ok i → wpc P G rd N c (lpQ P (fun i => killA live 0 (sets fr (ups i))) H ok m N i Q) (killA live 0 (sets fr (ups i))) (H i)) : wpc P G rd N (.loop c) Q fr h :=
  loop_ix (fun i => killA live 0 (sets fr (ups i))) H ok m i0 l hk hN h0 hw hr
end
theorem simK : (∀ live k, killA live k [] = []) ∧ (∀ live k x r, killA live k (x :: r) = (if live.contains k then x else .undef) :: killA live (k + 1) r) ∧ (∀ fr, sets fr [] = fr) ∧ (∀ fr t v q, sets fr ((t, v) :: q) = sets (fr.set t v) q) := ⟨fun _ _ => rfl, fun _ _ _ _ => rfl, fun _ => rfl, fun _ _ _ _ => rfl⟩
theorem plain_all2 {x : AV} {xs : List AV} (h : Plain x) (h' : ∀ y ∈ xs, Plain y) : ∀ y ∈ x :: xs, Plain y := fun y hy => by
  rcases List.mem_cons.1 hy with rfl | hy
  · exact h
  · exact h' y hy
theorem plain_all0 : ∀ y ∈ ([] : List AV), Plain y := fun y hy => by cases hy
/-- A table of the same kind of cells. -/
theorem plain_map {α : Type} {f : α → AV} (hf : ∀ a, Plain (f a)) {l : List α} : ∀ y ∈ l.map f, Plain y := fun y hy => by
  obtain ⟨a, _, rfl⟩ := List.mem_map.1 hy
  exact hf a
end Go.Am
