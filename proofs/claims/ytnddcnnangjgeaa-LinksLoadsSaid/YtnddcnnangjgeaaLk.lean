/-
  A call on both: they answer alike, and stay alike.
-/
import Derived.Test.YtnddcnnangjgeaaLj
set_option linter.unusedSimpArgs false
set_option linter.unusedVariables false
namespace Go.Pol
open Go.Am
def refC (a b c n m : Nat) (V : Nat → Int) (Q : Nat → List Nat) : List (Nat × AObj) := [(a, .cells [.int .i64 (n : Nat), .sl b 0 m m 1, .sl c 0 n n 1]), (b, .cells (ofB m Q)), (c, .cells (memI n V))]
def bothB (n m : Nat) (V : Nat → Int) (Q : Nat → List Nat) (S : PS) : List (Nat × AObj) := poolS n m V S ++ refC 3 4 5 n m V Q
/-- A pool that has the lists, of sizes that are allowed. -/
structure GoodP (n m : Nat) (V : Nat → Int) (Q : Nat → List Nat) (S : PS) : Prop where
  inv : Inv n m V Q S
  m_le : m ≤ 64
  n_le : n ≤ 8000
  n_pos : 0 < n
theorem GoodP.q {n m : Nat} {V : Nat → Int} {Q : Nat → List Nat} {S : PS} (h : GoodP n m V Q S) : Qok n m Q := h.inv.st.qok h.m_le h.n_le h.n_pos
theorem GoodP.up {n m : Nat} {V V' : Nat → Int} {Q Q' : Nat → List Nat} {S S' : PS} (h : GoodP n m V Q S) (hi : Inv n m V' Q' S') : GoodP n m V' Q' S' := ⟨hi, h.m_le, h.n_le, h.n_pos⟩
theorem least_of {P : Nat → Prop} : ∀ (n : Nat), (∃ s, s < n ∧ P s) → ∃ s, s < n ∧ P s ∧ ∀ t, t < s → ¬ P t
  | 0, ⟨s, h, _⟩ => by omega
  | n + 1, ⟨s, h, hp⟩ => by
    by_cases hx : ∃ s, s < n ∧ P s
    · obtain ⟨t, h1, h2, h3⟩ := least_of n hx
      exact ⟨t, by omega, h2, h3⟩
    · have e : s = n := Nat.le_antisymm (by omega) (Nat.le_of_not_lt fun hlt => hx ⟨s, hlt, hp⟩)
      subst e
      exact ⟨s, h, hp, fun t ht hpt => hx ⟨t, ht, hpt⟩⟩
end Go.Pol
namespace Go.Proofs.Ytnddcnnangjgeaa
open Go Go.Am Go.Pol
section
variable {n m : Nat} {V : Nat → Int} {Q : Nat → List Nat} {S : PS}
/-- A call that may change both, and answers alike. -/
def Both (f g : Nat) (avs : List AV) (n m : Nat) (V : Nat → Int) (Q : Nat → List Nat) (S : PS) (T : AV → Prop) : Prop := ∃ V' Q' S' r, T r ∧ GoodP n m V' Q' S' ∧ LocP f avs n m (poolS n m V S) r (poolS n m V' S') ∧ LocR g avs n m (refB n m V Q) r (refB n m V' Q')
def isPair (r : AV) : Prop := ∃ a b : Int, r = .tup [.int .i64 a, .int .i64 b]
def isInt (r : AV) : Prop := ∃ a : Int, r = .int .i64 a
/-- A look at both. -/
def Look (f g : Nat) (avs : List AV) (n m : Nat) (V : Nat → Int) (Q : Nat → List Nat) (S : PS) : Prop := ∃ r, isPair r ∧ LocP f avs n m (poolS n m V S) r (poolS n m V S) ∧ LocR g avs n m (refB n m V Q) r (refB n m V Q)
end
end Go.Proofs.Ytnddcnnangjgeaa
