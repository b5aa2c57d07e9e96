/-
  The calls of a pool, told of lists of slots.
-/
import Derived.Test.YtnddcnnangjgeaaLe
set_option linter.unusedSimpArgs false
set_option linter.unusedVariables false
namespace Go.Pol
structure PS where
  fr : Nat
  L : Nat → Int
  N : Nat → Int
  P : Nat → Int
  A : Nat → Int
  B : Nat → Int
  C : Nat → Int
def poolS (n m : Nat) (V : Nat → Int) (S : PS) : List (Nat × Go.Am.AObj) := poolB n m (S.fr : Nat) V S.L S.N S.P S.A S.B S.C
structure Inv (n m : Nat) (V : Nat → Int) (Q : Nat → List Nat) (S : PS) : Prop where
  st : St n m S.L S.N S.P S.A S.B S.C Q
  val : ∀ s, s < n → S.L s = -1 → V s = 0
  frn : S.fr ≤ n
  fru : ∀ t, t < S.fr → S.L t ≠ -1
def freeAt (n : Nat) (Q : Nat → List Nat) (s : Nat) : Prop := s < n ∧ (∀ i, s ∉ Q i) ∧ ∀ t, t < s → ∃ i, t ∈ Q i
def fullAt (n : Nat) (Q : Nat → List Nat) : Prop := ∀ t, t < n → ∃ i, t ∈ Q i
def noSlot (n : Nat) (Q : Nat → List Nat) (s : Int) : Prop := ∀ k : Nat, s = (k : Int) → k < n → ∀ i, k ∉ Q i
/-- A slot of a list, with what stands before and behind it. -/
structure AtQ (m : Nat) (Q : Nat → List Nat) (s i : Nat) (X Y : List Nat) : Prop where
  i_lt : i < m
  eq : Q i = X ++ s :: Y
theorem updQ_at (Q : Nat → List Nat) (i : Nat) (l : List Nat) : updQ Q i l i = l := by simp [updQ]
section
variable {n m : Nat} {V : Nat → Int} {Q : Nat → List Nat} {S : PS}
theorem Inv.len (h : Inv n m V Q S) (i : Nat) : (Q i).length ≤ n := len_le n _ (h.st.nd i) fun x hx => (h.st.us i x hx).1
theorem lst_lt (h : Inv n m V Q S) {i : Nat} {X Y : List Nat} (hQ : Q i = X ++ Y) : lst X = -1 ∨ ∃ a : Nat, a < n ∧ lst X = (a : Int) := by
  rcases lst_ge (X := X) with h1 | ⟨a, h1, h2⟩
  · exact .inl h1
  · exact .inr ⟨a, (h.st.us i a (by rw [hQ]; exact List.mem_append_left _ h1)).1, h2⟩
end
end Go.Pol
namespace Go.Proofs.Ytnddcnnangjgeaa
open Go Go.Am Go.Pol
section
variable {n m : Nat} {V : Nat → Int} {Q : Nat → List Nat} {S : PS}
/-- What a look at a slot that may be none answers. -/
def orErr (p : Int) (e : Int) : AV := .tup [.int .i64 (if p = -1 then 0 else p), .int .i64 (if p = -1 then e else 0)]
end
end Go.Proofs.Ytnddcnnangjgeaa
