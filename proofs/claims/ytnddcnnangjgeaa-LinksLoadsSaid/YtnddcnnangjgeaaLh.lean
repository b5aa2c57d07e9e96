/-
  The document's lists of slots: free, put, cut.
-/
import Derived.Test.YtnddcnnangjgeaaLg
set_option linter.unusedSimpArgs false
set_option linter.unusedVariables false
namespace Go.Am
section
variable {P : Program} {l : List (Nat × AObj)} {nx sz bytes d n m : Nat} {x : AV} {cs src : List AV} {rd : List Nat} {k : AV → Up → List Nat → Prop}
theorem wkl_get {σ : Nat → Nat} {h h' : Hp} : ∀ {xs ys : List AV}, xs.length = ys.length → (∀ (j : Nat) x y, xs[j]? = some x → ys[j]? = some y → WkV P σ h h' x y) → WkL P σ h h' xs ys
  | [], [], _, _ => trivial
  | x :: xs, y :: ys, he, hw => ⟨hw 0 x y rfl rfl, wkl_get (by simpa using he) fun j x' y' hx hy => hw (j + 1) x' y' hx hy⟩
  | [], _ :: _, he, _ => by simp at he
  | _ :: _, [], he, _ => by simp at he
end
end Go.Am
namespace Go.Proofs.Ytnddcnnangjgeaa
open Go Go.Am Go.Pol
section
variable {n m : Nat} {V : Nat → Int} {Q : Nat → List Nat}
theorem ref_not {d : Nat} (h3 : 3 ≤ d) : ∀ j o, lk (Hp.l ⟨refB n m V Q, 3⟩) j = some o → rn [] j ≠ d := fun j o hj => by
  simp only [refB, lk] at hj
  show j ≠ d
  split at hj
  · omega
  · split at hj
    · omega
    · split at hj
      · omega
      · cases hj
end
end Go.Proofs.Ytnddcnnangjgeaa
