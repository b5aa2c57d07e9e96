/-
  Loops told of by what turns in the frame: the other live slots stay, the dead ones are forgotten. No program in sight.
-/
import Derived.Test.YtnddcnnangjgeaaAmRow
set_option linter.unusedSimpArgs false
set_option linter.unusedVariables false
namespace Go.Am
def sets : List AV → List (Nat × AV) → List AV
  | fr, [] => fr
  | fr, (t, v) :: r => sets (fr.set t v) r
def killA (live : List Nat) : Nat → List AV → List AV
  | _, [] => []
  | k, x :: r => (if live.contains k then x else .undef) :: killA live (k + 1) r
section
variable {P : Program} {G : Gl} {ι : Type}
end
theorem plain_all2 {x : AV} {xs : List AV} (h : Plain x) (h' : ∀ y ∈ xs, Plain y) : ∀ y ∈ x :: xs, Plain y := fun y hy => by
  rcases List.mem_cons.1 hy with rfl | hy
  · exact h
  · exact h' y hy
theorem plain_all0 : ∀ y ∈ ([] : List AV), Plain y := fun y hy => by cases hy
/-- A table of the same kind of cells. -/
theorem plain_map {α : Type} {f : α → AV} (hf : ∀ a, Plain (f a)) {l : List α} : ∀ y ∈ l.map f, Plain y := fun y hy => by
  obtain ⟨a, _, rfl⟩ := List.mem_map.1 hy
  exact hf a
end Go.Am
