/-
  The law's walked: All's slots, in their order.
-/
import Derived.Test.YtnddcnnangjgeaaLt
set_option linter.unusedSimpArgs false
set_option linter.unusedVariables false
namespace Go.Pol
/-- The order in which a list's slots are yielded. -/
def ord (Q : Nat → List Nat) (i : Nat) (b : Bool) : List Nat := if b = true then (Q i).reverse else Q i
theorem hd_rev {X : List Nat} : hd X.reverse = lst X := by
  rcases List.eq_nil_or_concat X with rfl | ⟨R, x, rfl⟩
  · rfl
  · rw [List.concat_eq_append, lst_snoc, List.reverse_append]; rfl
/-- Who comes behind. -/
theorem ord_next {n m : Nat} {L N P A B C : Nat → Int} {Q : Nat → List Nat} (h : St n m L N P A B C Q) {i k : Nat} {b : Bool} (hk : k < (ord Q i b).length) : (if b = true then P else N) (nth 0 (ord Q i b) k) = hd ((ord Q i b).drop (k + 1)) := by
  have hx : (ord Q i b)[k]? = some (nth 0 (ord Q i b) k) := by rw [nth_get hk, List.getElem?_eq_getElem]
  have he := at_k hx
  generalize nth 0 (ord Q i b) k = x at *
  generalize hX : (ord Q i b).take k = X at *
  generalize hY : (ord Q i b).drop (k + 1) = Y at *
  cases b
  · exact (h.ch i X x Y he).1
  · have he2 : Q i = Y.reverse ++ x :: X.reverse := by
      have : (ord Q i true).reverse = (X ++ x :: Y).reverse := by rw [he]
      simpa [ord] using this
    have := (h.ch i _ x _ he2).2
    rw [if_pos rfl, this, ← hd_rev, List.reverse_reverse]
end Go.Pol
namespace Go.Proofs.Ytnddcnnangjgeaa
open Go Go.Am Go.Pol
section
variable {n m : Nat} {V : Nat → Int} {Q : Nat → List Nat} {S : PS}
end
end Go.Proofs.Ytnddcnnangjgeaa
