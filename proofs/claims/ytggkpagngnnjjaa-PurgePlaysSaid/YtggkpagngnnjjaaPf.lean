/-
  The calls of a pool, told of lists of slots.
-/
import Derived.Test.YtggkpagngnnjjaaPe
set_option linter.unusedSimpArgs false
set_option linter.unusedVariables false
namespace Go.Pol
structure PS where
  fr : Nat
  L : Nat → Int
  N : Nat → Int
  P : Nat → Int
  A : Nat → Int
  B : Nat → Int
  C : Nat → Int
def poolS (n m : Nat) (V W : Nat → Int) (S : PS) : List (Nat × Go.Am.AObj) := poolB n m (S.fr : Nat) V W S.L S.N S.P S.A S.B S.C
structure Inv (n m : Nat) (V W : Nat → Int) (Q : Nat → List Nat) (S : PS) : Prop where
  st : St n m S.L S.N S.P S.A S.B S.C Q
  val : ∀ s, s < n → S.L s = -1 → V s = 0 ∧ W s = 0
  frn : S.fr ≤ n
  fru : ∀ t, t < S.fr → S.L t ≠ -1
def freeAt (n : Nat) (Q : Nat → List Nat) (s : Nat) : Prop := s < n ∧ (∀ i, s ∉ Q i) ∧ ∀ t, t < s → ∃ i, t ∈ Q i
def fullAt (n : Nat) (Q : Nat → List Nat) : Prop := ∀ t, t < n → ∃ i, t ∈ Q i
def noSlot (n : Nat) (Q : Nat → List Nat) (s : Int) : Prop := ∀ k : Nat, s = (k : Int) → k < n → ∀ i, k ∉ Q i
/-- A slot of a list, with what stands before and behind it. -/
structure AtQ (m : Nat) (Q : Nat → List Nat) (s i : Nat) (X Y : List Nat) : Prop where
  i_lt : i < m
  eq : Q i = X ++ s :: Y
theorem updQ_at (Q : Nat → List Nat) (i : Nat) (l : List Nat) : updQ Q i l i = l := by simp [updQ]
section
variable {n m : Nat} {V W : Nat → Int} {Q : Nat → List Nat} {S : PS}
theorem St.usedI {n m : Nat} {L N P A B C : Nat → Int} {Q : Nat → List Nat} (h : St n m L N P A B C Q) {t : Nat} (ht : ∃ i, t ∈ Q i) : L t ≠ -1 := fun e => by
  obtain ⟨i, hi⟩ := ht
  exact h.free e i hi
theorem Inv.len (h : Inv n m V W Q S) (i : Nat) : (Q i).length ≤ n := len_le n _ (h.st.nd i) fun x hx => (h.st.us i x hx).1
theorem lst_lt (h : Inv n m V W Q S) {i : Nat} {X Y : List Nat} (hQ : Q i = X ++ Y) : lst X = -1 ∨ ∃ a : Nat, a < n ∧ lst X = (a : Int) := by
  rcases lst_ge (X := X) with h1 | ⟨a, h1, h2⟩
  · exact .inl h1
  · exact .inr ⟨a, (h.st.us i a (by rw [hQ]; exact List.mem_append_left _ h1)).1, h2⟩
theorem hd_lt (h : Inv n m V W Q S) {i : Nat} {X Y : List Nat} (hQ : Q i = X ++ Y) : hd Y = -1 ∨ ∃ a : Nat, a < n ∧ hd Y = (a : Int) := by
  rcases hd_ge (X := Y) with h1 | ⟨a, h1, h2⟩
  · exact .inl h1
  · exact .inr ⟨a, (h.st.us i a (by rw [hQ]; exact List.mem_append_right _ h1)).1, h2⟩
theorem Inv.tied (h : Inv n m V W Q S) {x i : Nat} {X Y : List Nat} (v w : Int) (hx : freeAt n Q x) (hi : i < m) (hQ : Q i = X ++ Y) :
    Inv n m (updI V x v) (updI W x w) (updQ Q i (X ++ x :: Y)) ⟨x, updI S.L x i, tieN S.N x (lst X) (hd Y), tieP S.P x (lst X) (hd Y), tieA S.A i x (lst X), tieA S.B i x (hd Y), updI S.C i (S.C i + 1)⟩ := by
  have hL := h.st.unused hx.1 hx.2.1
  refine ⟨h.st.tie hx.1 hL hi hQ, fun s hs hl => ?_, Nat.le_of_lt hx.1, fun t ht => ?_⟩
  · dsimp only at hl
    by_cases e : s = x
    · subst e; rw [updI_at] at hl; omega
    · simp only [updI_ne e] at hl ⊢; exact h.val s hs hl
  · dsimp only at ht ⊢
    rw [updI_ne (by omega)]
    exact h.st.usedI (hx.2.2 t ht)
end
end Go.Pol
namespace Go.Proofs.Ytggkpagngnnjjaa
open Go Go.Am Go.Pol
section
variable {n m : Nat} {V W : Nat → Int} {Q : Nat → List Nat} {S : PS}
theorem p_push (h : Inv n m V W Q S) (hn : n ≤ 8000) {s i : Nat} (hs : freeAt n Q s) (hi : i < m) (v w : Int) (b : Bool) :
    ∃ S', Inv n m (updI V s v) (updI W s w) (updQ Q i (if b = true then s :: Q i else Q i ++ [s])) S' ∧ LocP 59 [.int .i64 (i : Nat), .agg [.int .i64 v, .int .i64 w], .bool b] n m (poolS n m V W S) (.tup [.int .i64 (s : Nat), .int .i64 0]) (poolS n m (updI V s v) (updI W s w) S') := by
  have hlen := h.len i
  have hen := h.st.en i hi
  have hL := h.st.unused hs.1 hs.2.1
  have hf : S.fr ≤ s := Nat.le_of_not_lt fun hlt => h.fru s hlt hL
  have hu : ∀ t, S.fr ≤ t → t < s → S.L t ≠ -1 := fun t _ ht => h.st.usedI (hs.2.2 t ht)
  cases b
  · have hQ : Q i = Q i ++ [] := by simp
    have h1 := h.tied v w hs hi hQ
    exact ⟨_, h1, l_push S.fr s i v w false (lst (Q i)) (hd []) hf hs.1 (by omega) hu hL hi (.inr ⟨rfl, hen.2.1.symm, rfl⟩) (lst_lt h hQ) (.inl rfl) (by rw [hen.2.2]; omega)⟩
  · have hQ : Q i = [] ++ Q i := by simp
    have h1 := h.tied v w hs hi hQ
    exact ⟨_, h1, l_push S.fr s i v w true (lst []) (hd (Q i)) hf hs.1 (by omega) hu hL hi (.inl ⟨rfl, rfl, hen.1.symm⟩) (.inl rfl) (hd_lt h hQ) (by rw [hen.2.2]; omega)⟩
theorem p_after (h : Inv n m V W Q S) (hn : n ≤ 8000) {s x i : Nat} {X Y : List Nat} (hs : freeAt n Q s) (hx : AtQ m Q x i X Y) (v w : Int) :
    ∃ S', Inv n m (updI V s v) (updI W s w) (updQ Q i (X ++ x :: s :: Y)) S' ∧ LocP 58 [.int .i64 (x : Nat), .agg [.int .i64 v, .int .i64 w]] n m (poolS n m V W S) (.tup [.int .i64 (s : Nat), .int .i64 0]) (poolS n m (updI V s v) (updI W s w) S') := by
  have hlen := h.len i
  have hen := h.st.en i hx.i_lt
  have hL := h.st.unused hs.1 hs.2.1
  have hf : S.fr ≤ s := Nat.le_of_not_lt fun hlt => h.fru s hlt hL
  have hu : ∀ t, S.fr ≤ t → t < s → S.L t ≠ -1 := fun t _ ht => h.st.usedI (hs.2.2 t ht)
  have hxm : x ∈ Q i := by rw [hx.eq]; simp
  have hxu := h.st.us i x hxm
  have hQ : Q i = (X ++ [x]) ++ Y := by rw [hx.eq]; simp
  have h1 := h.tied v w hs hx.i_lt hQ
  have hc := h.st.ch i X x Y hx.eq
  rw [show (X ++ [x]) ++ s :: Y = X ++ x :: s :: Y by simp, lst_snoc] at h1
  exact ⟨_, h1, l_after S.fr s x i v w (hd Y) hf hs.1 (by omega) hu hL hxu.1 hx.i_lt hxu.2 hc.1 (hd_lt h hQ) (by rw [hen.2.2]; omega)⟩
theorem un_facts (h : Inv n m V W Q S) {s i : Nat} {X Y : List Nat} (hx : AtQ m Q s i X Y) : s < n ∧ S.L s = (i : Nat) ∧ S.N s = hd Y ∧ S.P s = lst X ∧ (lst X = -1 ∨ ∃ a : Nat, a < n ∧ a ≠ s ∧ lst X = (a : Int)) ∧ (hd Y = -1 ∨ ∃ a : Nat, a < n ∧ hd Y = (a : Int)) ∧ 0 < S.C i ∧ S.C i ≤ n := by
  have hu := h.st.us i s (by rw [hx.eq]; simp)
  have hc := h.st.ch i X s Y hx.eq
  have hnd := h.st.nd i
  have hlen := h.len i
  have hen := (h.st.en i hx.i_lt).2.2
  rw [hx.eq] at hnd hen hlen
  refine ⟨hu.1, hu.2, hc.1, hc.2, ?_, hd_lt h (X := X ++ [s]) (by rw [hx.eq]; simp), by rw [hen]; simp; omega, by rw [hen]; omega⟩
  rcases lst_ge (X := X) with h1 | ⟨a, h1, h2⟩
  · exact .inl h1
  · exact .inr ⟨a, (h.st.us i a (by rw [hx.eq]; simp [h1])).1, fun e => (List.nodup_append.1 hnd).2.2 a h1 s (List.mem_cons_self ..) e, h2⟩
theorem p_take (h : Inv n m V W Q S) (hn : n ≤ 8000) {s i : Nat} {X Y : List Nat} (hx : AtQ m Q s i X Y) :
    ∃ S', Inv n m (updI V s 0) (updI W s 0) (updQ Q i (X ++ Y)) S' ∧ LocP 41 [.int .i64 (s : Nat)] n m (poolS n m V W S) (.tup [.agg [.int .i64 (V s), .int .i64 (W s)], .int .i64 0]) (poolS n m (updI V s 0) (updI W s 0) S') := by
  obtain ⟨h1, h2, h3, h4, h5, h6, h7, h8⟩ := un_facts h hx
  have hst := h.st.untie hx.i_lt hx.eq
  refine ⟨⟨min S.fr s, updI S.L s (-1), unN S.N s (lst X) (hd Y), unP S.P s (lst X) (hd Y), unA S.A i (lst X) (hd Y), unA S.B i (hd Y) (lst X), updI S.C i (S.C i - 1)⟩, ⟨hst, fun t ht hl => ?_, by have := h.frn; dsimp only; omega, fun t ht => ?_⟩, l_take S.fr s i (lst X) (hd Y) h1 hx.i_lt h2 h3 h4 h5 h6 ⟨h7, by omega⟩⟩
  · dsimp only at hl
    by_cases e : t = s
    · subst e; rw [updI_at, updI_at]; exact ⟨rfl, rfl⟩
    · simp only [updI_ne e] at hl ⊢; exact h.val t ht hl
  · dsimp only at ht ⊢
    rw [updI_ne (by omega)]
    exact h.fru t (by omega)
theorem p_get (h : Inv n m V W Q S) {s i : Nat} {X Y : List Nat} (hx : AtQ m Q s i X Y) : LocP 56 [.int .i64 (s : Nat)] n m (poolS n m V W S) (.tup [.agg [.int .i64 (V s), .int .i64 (W s)], .int .i64 0]) (poolS n m V W S) := by
  obtain ⟨h1, h2, _⟩ := un_facts h hx
  exact l_get s h1 (by omega)
def orErr (p : Int) (e : Int) : AV := .tup [.int .i64 (if p = -1 then 0 else p), .int .i64 (if p = -1 then e else 0)]
theorem p_step (h : Inv n m V W Q S) {s i : Nat} {X Y : List Nat} (hx : AtQ m Q s i X Y) (b : Bool) : LocP 57 [.int .i64 (s : Nat), .bool b] n m (poolS n m V W S) (orErr (if b = true then lst X else hd Y) 9) (poolS n m V W S) := by
  obtain ⟨h1, h2, h3, h4, _⟩ := un_facts h hx
  have := l_step (m := m) (fr := S.fr) (V := V) (W := W) (P := S.P) (N := S.N) (A := S.A) (B := S.B) (C := S.C) s b h1 (by omega : S.L s ≠ -1)
  rw [h3, h4] at this
  exact this
theorem p_end (h : Inv n m V W Q S) (hn0 : 0 < n) {i : Nat} (hi : i < m) (b : Bool) : LocP 55 [.int .i64 (i : Nat), .bool b] n m (poolS n m V W S) (orErr (if b = true then hd (Q i) else lst (Q i)) 4) (poolS n m V W S) := by
  have he := h.st.en i hi
  have := l_end (n := n) (m := m) (fr := S.fr) (V := V) (W := W) (L := S.L) (P := S.P) (N := S.N) (A := S.A) (B := S.B) (C := S.C) i b hn0 hi
  rw [he.1, he.2.1] at this
  exact this
end
end Go.Proofs.Ytggkpagngnnjjaa
