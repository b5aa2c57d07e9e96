/-
  Are two states equal? (SamePlan, SameState, Same of the document.)
-/
import Derived.Test.YtjlbfijjfjogiaaVmD
set_option linter.unusedSimpArgs false
set_option linter.unusedVariables false
namespace Go.Pol
open Go.Am
theorem el_row {α : Type} {f : α → List AV} {l : List α} {j sz : Nat} {K : List AV → Prop} {d : α} {row : List AV} (hf : ∀ x, (f x).length = sz) (hj : j < l.length) (hx : f (Go.Pol.nth d l j) = row) (hk : K row) : ElX (l.map f) j sz K := el_mapE hf hj rfl (by rw [hx]; exact hk)
def sameSt (l : List Rl) (C H : Nat → Int) (l' : List Rl) (C' H' : Nat → Int) : Prop := l.map rlA = l'.map rlA ∧ arr7 C = arr7 C' ∧ arr7 H = arr7 H'
/-- Equal states. -/
def sameV (x y : Vs) : Prop := (x.R.map rnA = y.R.map rnA ∧ x.U.map inA = y.U.map inA ∧ x.D.map dtA = y.D.map dtA) ∧ sameSt x.l x.C x.H y.l y.C y.H
def dRn : Rn := ⟨0, 0, 0⟩
def dDt : Dt := ⟨0, fun _ => 0⟩
end Go.Pol
namespace Go.Proofs.Ytjlbfijjfjogiaa
open Go Go.Am Go.Pol
section
variable {l m : List Rl} {C H C' H' : Nat → Int}
end
end Go.Proofs.Ytjlbfijjfjogiaa
