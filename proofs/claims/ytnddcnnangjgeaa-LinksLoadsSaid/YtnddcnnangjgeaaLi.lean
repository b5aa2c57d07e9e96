/-
  The calls of the document's lists of slots.
-/
import Derived.Test.YtnddcnnangjgeaaLh
set_option linter.unusedSimpArgs false
set_option linter.unusedVariables false
namespace Go.Pol
/-- The lists hold each slot once. -/
structure Qok (n m : Nat) (Q : Nat → List Nat) : Prop where
  m_le : m ≤ 64
  n_le : n ≤ 8000
  n_pos : 0 < n
  out : ∀ i, m ≤ i → Q i = []
  us : ∀ i s, s ∈ Q i → s < n
  nd : ∀ i, (Q i).Nodup
  one : ∀ i j s, s ∈ Q i → s ∈ Q j → i = j
theorem Qok.len {n m : Nat} {Q : Nat → List Nat} (h : Qok n m Q) (i : Nat) : (Q i).length ≤ 8000 := Nat.le_trans (len_le n _ (h.nd i) (h.us i)) h.n_le
theorem St.qok {n m : Nat} {L N P A B C : Nat → Int} {Q : Nat → List Nat} (h : St n m L N P A B C Q) (hm : m ≤ 64) (hn : n ≤ 8000) (h0 : 0 < n) : Qok n m Q := ⟨hm, hn, h0, h.out, fun i s hs => (h.us i s hs).1, h.nd, fun _ _ _ h1 h2 => h.one h1 h2⟩
theorem nth_mid {X Y : List Nat} {s : Nat} : nth 0 (X ++ s :: Y) X.length = s := by simp [nth]
end Go.Pol
namespace Go.Proofs.Ytnddcnnangjgeaa
open Go Go.Am Go.Pol
section
variable {n m : Nat} {V : Nat → Int} {Q : Nat → List Nat}
end
end Go.Proofs.Ytnddcnnangjgeaa
