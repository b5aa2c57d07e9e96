/-
  The law's walked: All's slots, in their order.
-/
import Derived.Test.YtnddcnnangjgeaaLt
set_option linter.unusedSimpArgs false
set_option linter.unusedVariables false
namespace Go.Pol
/-- The order in which a list's slots are yielded. -/
def ord (Q : Nat → List Nat) (i : Nat) (b : Bool) : List Nat := if b = true then (Q i).reverse else Q i
theorem hd_rev {X : List Nat} : hd X.reverse = lst X := by
  rcases List.eq_nil_or_concat X with rfl | ⟨R, x, rfl⟩
  · rfl
  · rw [List.concat_eq_append, lst_snoc, List.reverse_append]; rfl
/-- Who comes behind. -/
theorem ord_next {n m : Nat} {L N P A B C : Nat → Int} {Q : Nat → List Nat} (h : St n m L N P A B C Q) {i k : Nat} {b : Bool} (hk : k < (ord Q i b).length) : (if b = true then P else N) (nth 0 (ord Q i b) k) = hd ((ord Q i b).drop (k + 1)) := by
  have hx : (ord Q i b)[k]? = some (nth 0 (ord Q i b) k) := by rw [nth_get hk, List.getElem?_eq_getElem]
  have he := at_k hx
  generalize nth 0 (ord Q i b) k = x at *
  generalize hX : (ord Q i b).take k = X at *
  generalize hY : (ord Q i b).drop (k + 1) = Y at *
  cases b
  · exact (h.ch i X x Y he).1
  · have he2 : Q i = Y.reverse ++ x :: X.reverse := by
      have : (ord Q i true).reverse = (X ++ x :: Y).reverse := by rw [he]
      simpa [ord] using this
    have := (h.ch i _ x _ he2).2
    rw [if_pos rfl, this, ← hd_rev, List.reverse_reverse]
end Go.Pol
namespace Go.Proofs.Ytnddcnnangjgeaa
open Go Go.Am Go.Pol
section
variable {n m : Nat} {V : Nat → Int} {Q : Nat → List Nat} {S : PS}
theorem wk_frzOS {σ : Nat → Nat} {h h' : Hp} {d : Nat} {L : List Nat} (hi : L.length ≠ 0 → lk h.l d = some (.cells (flat slotA L))) (hi' : ∀ j o, lk h'.l j = some o → σ j ≠ d) (hs : SubH σ h h') : WkV Try.prog σ h h' (ownV d 1 L.length) (slotsA L) := by
  by_cases hz : L.length = 0
  · rw [hz, own_z, List.eq_nil_of_length_eq_zero hz]; exact wk_nils
  · rw [own_s hz]
    refine wk_frz (hi hz) hi' hs (by simp) (fun e he => ?_) ?_ fun e he x hx => ?_
    · obtain ⟨s, _, rfl⟩ := List.mem_map.1 he; rfl
    · rw [List.drop_zero, List.take_of_length_le (by rw [flat_len slot_len]; exact Nat.le_refl _)]; rfl
    · obtain ⟨s, _, rfl⟩ := List.mem_map.1 he; exact slot_plain s x hx
end
end Go.Proofs.Ytnddcnnangjgeaa
