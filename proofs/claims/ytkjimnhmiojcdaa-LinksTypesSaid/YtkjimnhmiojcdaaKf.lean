/-
  The calls of a pool, told of lists of slots.
-/
import Derived.Test.YtkjimnhmiojcdaaKd
set_option linter.unusedSimpArgs false
set_option linter.unusedVariables false
namespace Go.Proofs.Ytkjimnhmiojcdaa.Rt
open Go Go.Am Go.Pol
section
variable {n m : Nat} {V : Nat → PV} {Q : Nat → List Nat} {S : PS}
def poolS (n m : Nat) (V : Nat → PV) (S : PS) : List (Nat × Go.Am.AObj) := poolB n m (S.fr : Nat) V S.L S.N S.P S.A S.B S.C
structure Inv (n m : Nat) (V : Nat → PV) (Q : Nat → List Nat) (S : PS) : Prop where
  st : St n m S.L S.N S.P S.A S.B S.C Q
  val : ∀ s, s < n → S.L s = -1 → V s = z0
  frn : S.fr ≤ n
  fru : ∀ t, t < S.fr → S.L t ≠ -1
theorem Inv.len (h : Inv n m V Q S) (i : Nat) : (Q i).length ≤ n := len_le n _ (h.st.nd i) fun x hx => (h.st.us i x hx).1
theorem lst_lt (h : Inv n m V Q S) {i : Nat} {X Y : List Nat} (hQ : Q i = X ++ Y) : lst X = -1 ∨ ∃ a : Nat, a < n ∧ lst X = (a : Int) := by
  rcases lst_ge (X := X) with h1 | ⟨a, h1, h2⟩
  · exact .inl h1
  · exact .inr ⟨a, (h.st.us i a (by rw [hQ]; exact List.mem_append_left _ h1)).1, h2⟩
theorem hd_lt (h : Inv n m V Q S) {i : Nat} {X Y : List Nat} (hQ : Q i = X ++ Y) : hd Y = -1 ∨ ∃ a : Nat, a < n ∧ hd Y = (a : Int) := by
  rcases hd_ge (X := Y) with h1 | ⟨a, h1, h2⟩
  · exact .inl h1
  · exact .inr ⟨a, (h.st.us i a (by rw [hQ]; exact List.mem_append_right _ h1)).1, h2⟩
theorem Inv.tied (h : Inv n m V Q S) {x i : Nat} {X Y : List Nat} (v : IP) (hx : freeAt n Q x) (hi : i < m) (hQ : Q i = X ++ Y) :
    Inv n m (updV V x (ip v)) (updQ Q i (X ++ x :: Y)) ⟨x, updI S.L x i, tieN S.N x (lst X) (hd Y), tieP S.P x (lst X) (hd Y), tieA S.A i x (lst X), tieA S.B i x (hd Y), updI S.C i (S.C i + 1)⟩ := by
  have hL := h.st.unused hx.1 hx.2.1
  refine ⟨h.st.tie hx.1 hL hi hQ, fun s hs hl => ?_, Nat.le_of_lt hx.1, fun t ht => ?_⟩
  · dsimp only at hl
    by_cases e : s = x
    · subst e; rw [updI_at] at hl; omega
    · rw [updI_ne e] at hl; rw [updV_ne e]; exact h.val s hs hl
  · dsimp only at ht ⊢
    rw [updI_ne (by omega)]
    exact h.st.usedI (hx.2.2 t ht)
theorem noSlot_L (h : Inv n m V Q S) {s : Int} (hs : noSlot n Q s) : ∀ k : Nat, s = (k : Int) → k < n → S.L k = -1 := fun k e hk => h.st.unused hk (hs k e hk)
theorem p_push (h : Inv n m V Q S) (hn : n ≤ 8000) {s i : Nat} (hs : freeAt n Q s) (hi : i < m) (v : IP) (b : Bool) :
    ∃ S', Inv n m (updV V s (ip v)) (updQ Q i (if b = true then s :: Q i else Q i ++ [s])) S' ∧ LocP 9 [.int .i64 (i : Nat), .iptr v.1, .bool b] n m (poolS n m V S) (.tup [.int .i64 (s : Nat), .int .i64 0]) (poolS n m (updV V s (ip v)) S') := by
  have hlen := h.len i
  have hen := h.st.en i hi
  have hL := h.st.unused hs.1 hs.2.1
  have hf : S.fr ≤ s := Nat.le_of_not_lt fun hlt => h.fru s hlt hL
  have hu : ∀ t, S.fr ≤ t → t < s → S.L t ≠ -1 := fun t _ ht => h.st.usedI (hs.2.2 t ht)
  cases b
  · have hQ : Q i = Q i ++ [] := by simp
    have h1 := h.tied v hs hi hQ
    exact ⟨_, h1, l_push S.fr s i v false (lst (Q i)) (hd []) hf hs.1 (by omega) hu hL hi (.inr ⟨rfl, hen.2.1.symm, rfl⟩) (lst_lt h hQ) (.inl rfl) (by rw [hen.2.2]; omega)⟩
  · have hQ : Q i = [] ++ Q i := by simp
    have h1 := h.tied v hs hi hQ
    exact ⟨_, h1, l_push S.fr s i v true (lst []) (hd (Q i)) hf hs.1 (by omega) hu hL hi (.inl ⟨rfl, rfl, hen.1.symm⟩) (.inl rfl) (hd_lt h hQ) (by rw [hen.2.2]; omega)⟩
theorem p_full (h : Inv n m V Q S) (hs : fullAt n Q) : Inv n m V Q ⟨n, S.L, S.N, S.P, S.A, S.B, S.C⟩ := ⟨h.st, h.val, Nat.le_refl _, fun t ht => h.st.usedI (hs t ht)⟩
theorem p_push_full (h : Inv n m V Q S) (hn0 : 0 < n) (hn : n ≤ 8000) {i : Nat} (hs : fullAt n Q) (hi : i < m) (v : IP) (b : Bool) :
    ∃ S', Inv n m V Q S' ∧ LocP 9 [.int .i64 (i : Nat), .iptr v.1, .bool b] n m (poolS n m V S) (.tup [.int .i64 0, .int .i64 5]) (poolS n m V S') :=
  ⟨_, p_full h hs, l_push_full S.fr i v b h.frn hn0 (by omega) (fun t _ ht => h.st.usedI (hs t ht)) hi⟩
theorem p_push_no (hn0 : 0 < n) (i : Int) (hi : i < 0 ∨ (m : Int) ≤ i) (v : IP) (b : Bool) :
    LocP 9 [.int .i64 i, .iptr v.1, .bool b] n m (poolS n m V S) (.tup [.int .i64 0, .int .i64 7]) (poolS n m V S) := l_push_no i v b hn0 hi
theorem p_after (h : Inv n m V Q S) (hn : n ≤ 8000) {s x i : Nat} {X Y : List Nat} (hs : freeAt n Q s) (hx : AtQ m Q x i X Y) (v : IP) :
    ∃ S', Inv n m (updV V s (ip v)) (updQ Q i (X ++ x :: s :: Y)) S' ∧ LocP 11 [.int .i64 (x : Nat), .iptr v.1] n m (poolS n m V S) (.tup [.int .i64 (s : Nat), .int .i64 0]) (poolS n m (updV V s (ip v)) S') := by
  have hlen := h.len i
  have hen := h.st.en i hx.i_lt
  have hL := h.st.unused hs.1 hs.2.1
  have hf : S.fr ≤ s := Nat.le_of_not_lt fun hlt => h.fru s hlt hL
  have hu : ∀ t, S.fr ≤ t → t < s → S.L t ≠ -1 := fun t _ ht => h.st.usedI (hs.2.2 t ht)
  have hxm : x ∈ Q i := by rw [hx.eq]; simp
  have hxu := h.st.us i x hxm
  have hQ : Q i = (X ++ [x]) ++ Y := by rw [hx.eq]; simp
  have h1 := h.tied v hs hx.i_lt hQ
  have hc := h.st.ch i X x Y hx.eq
  rw [show (X ++ [x]) ++ s :: Y = X ++ x :: s :: Y by simp, lst_snoc] at h1
  exact ⟨_, h1, l_after S.fr s x i v (hd Y) hf hs.1 (by omega) hu hL hxu.1 hx.i_lt hxu.2 hc.1 (hd_lt h hQ) (by rw [hen.2.2]; omega)⟩
theorem p_after_full (h : Inv n m V Q S) (hn : n ≤ 8000) {x i : Nat} {X Y : List Nat} (hs : fullAt n Q) (hx : AtQ m Q x i X Y) (v : IP) :
    ∃ S', Inv n m V Q S' ∧ LocP 11 [.int .i64 (x : Nat), .iptr v.1] n m (poolS n m V S) (.tup [.int .i64 0, .int .i64 5]) (poolS n m V S') := by
  have hxu := h.st.us i x (by rw [hx.eq]; simp)
  exact ⟨_, p_full h hs, l_after_full S.fr x v h.frn (by omega) (fun t _ ht => h.st.usedI (hs t ht)) hxu.1 (by rw [hxu.2]; omega)⟩
theorem p_after_no (h : Inv n m V Q S) (hn0 : 0 < n) (s : Int) (hs : noSlot n Q s) (v : IP) :
    LocP 11 [.int .i64 s, .iptr v.1] n m (poolS n m V S) (.tup [.int .i64 0, .int .i64 4]) (poolS n m V S) := l_after_no s v hn0 (noSlot_L h hs)
theorem un_facts (h : Inv n m V Q S) {s i : Nat} {X Y : List Nat} (hx : AtQ m Q s i X Y) : s < n ∧ S.L s = (i : Nat) ∧ S.N s = hd Y ∧ S.P s = lst X ∧ (lst X = -1 ∨ ∃ a : Nat, a < n ∧ a ≠ s ∧ lst X = (a : Int)) ∧ (hd Y = -1 ∨ ∃ a : Nat, a < n ∧ hd Y = (a : Int)) ∧ 0 < S.C i ∧ S.C i ≤ n := by
  have hu := h.st.us i s (by rw [hx.eq]; simp)
  have hc := h.st.ch i X s Y hx.eq
  have hnd := h.st.nd i
  have hlen := h.len i
  have hen := (h.st.en i hx.i_lt).2.2
  rw [hx.eq] at hnd hen hlen
  refine ⟨hu.1, hu.2, hc.1, hc.2, ?_, hd_lt h (X := X ++ [s]) (by rw [hx.eq]; simp), by rw [hen]; simp; omega, by rw [hen]; omega⟩
  rcases lst_ge (X := X) with h1 | ⟨a, h1, h2⟩
  · exact .inl h1
  · exact .inr ⟨a, (h.st.us i a (by rw [hx.eq]; simp [h1])).1, fun e => (List.nodup_append.1 hnd).2.2 a h1 s (List.mem_cons_self ..) e, h2⟩
theorem p_take (h : Inv n m V Q S) (hn : n ≤ 8000) {s i : Nat} {X Y : List Nat} (hx : AtQ m Q s i X Y) :
    ∃ S', Inv n m (updV V s z0) (updQ Q i (X ++ Y)) S' ∧ LocP 13 [.int .i64 (s : Nat)] n m (poolS n m V S) (.tup [(V s).1, .int .i64 0]) (poolS n m (updV V s z0) S') := by
  obtain ⟨h1, h2, h3, h4, h5, h6, h7, h8⟩ := un_facts h hx
  have hst := h.st.untie hx.i_lt hx.eq
  refine ⟨⟨min S.fr s, updI S.L s (-1), unN S.N s (lst X) (hd Y), unP S.P s (lst X) (hd Y), unA S.A i (lst X) (hd Y), unA S.B i (hd Y) (lst X), updI S.C i (S.C i - 1)⟩, ⟨hst, fun t ht hl => ?_, by have := h.frn; dsimp only; omega, fun t ht => ?_⟩, l_take S.fr s i (lst X) (hd Y) h1 hx.i_lt h2 h3 h4 h5 h6 ⟨h7, by omega⟩⟩
  · dsimp only at hl
    by_cases e : t = s
    · subst e; rw [updV_at]
    · rw [updI_ne e] at hl; rw [updV_ne e]; exact h.val t ht hl
  · dsimp only at ht ⊢
    rw [updI_ne (by omega)]
    exact h.fru t (by omega)
theorem p_take_no (h : Inv n m V Q S) (hn0 : 0 < n) (s : Int) (hs : noSlot n Q s) :
    LocP 13 [.int .i64 s] n m (poolS n m V S) (.tup [.nilp, .int .i64 4]) (poolS n m V S) := l_take_no s hn0 (noSlot_L h hs)
theorem p_move (h : Inv n m V Q S) (hn : n ≤ 8000) {s i j : Nat} {X Y : List Nat} (hx : AtQ m Q s i X Y) (hj : j < m) (b : Bool) :
    ∃ S', Inv n m V (updQ (updQ Q i (X ++ Y)) j (if b = true then s :: updQ Q i (X ++ Y) j else updQ Q i (X ++ Y) j ++ [s])) S' ∧ LocP 15 [.int .i64 (s : Nat), .int .i64 (j : Nat), .bool b] n m (poolS n m V S) (.int .i64 0) (poolS n m V S') := by
  obtain ⟨h1, h2, h3, h4, h5, h6, h7, h8⟩ := un_facts h hx
  have hst := h.st.untie hx.i_lt hx.eq
  have hi := hx.i_lt
  have hen := hst.en j hj
  have hlen : (updQ Q i (X ++ Y) j).length ≤ n := len_le n _ (hst.nd j) fun x hx => (hst.us j x hx).1
  have hL : updI S.L s (-1) s = -1 := updI_at ..
  have fin : ∀ {X' Y' : List Nat}, updQ Q i (X ++ Y) j = X' ++ Y' → Inv n m V (updQ (updQ Q i (X ++ Y)) j (X' ++ s :: Y')) ⟨S.fr, updI (updI S.L s (-1)) s j, tieN (unN S.N s (lst X) (hd Y)) s (lst X') (hd Y'), tieP (unP S.P s (lst X) (hd Y)) s (lst X') (hd Y'), tieA (unA S.A i (lst X) (hd Y)) j s (lst X'), tieA (unA S.B i (hd Y) (lst X)) j s (hd Y'), updI (updI S.C i (S.C i - 1)) j (updI S.C i (S.C i - 1) j + 1)⟩ := fun {X' Y'} hQ => by
    refine ⟨hst.tie h1 hL hj hQ, fun t ht hl => ?_, h.frn, fun t ht => ?_⟩
    · dsimp only at hl
      by_cases e : t = s
      · subst e; rw [updI_at] at hl; omega
      · rw [updI_ne e, updI_ne e] at hl; exact h.val t ht hl
    · dsimp only at ht ⊢
      by_cases e : t = s
      · subst e; rw [updI_at]; omega
      · rw [updI_ne e, updI_ne e]; exact h.fru t ht
  have pl : ∀ {X' Y' : List Nat}, updQ Q i (X ++ Y) j = X' ++ Y' → (lst X' = -1 ∨ ∃ a : Nat, a < n ∧ lst X' = (a : Int)) ∧ (hd Y' = -1 ∨ ∃ a : Nat, a < n ∧ hd Y' = (a : Int)) := fun {X' Y'} hQ => by
    constructor
    · rcases lst_ge (X := X') with k1 | ⟨a, k1, k2⟩
      · exact .inl k1
      · exact .inr ⟨a, (hst.us j a (by rw [hQ]; exact List.mem_append_left _ k1)).1, k2⟩
    · rcases hd_ge (X := Y') with k1 | ⟨a, k1, k2⟩
      · exact .inl k1
      · exact .inr ⟨a, (hst.us j a (by rw [hQ]; exact List.mem_append_right _ k1)).1, k2⟩
  have hC : 0 ≤ updI S.C i (S.C i - 1) j ∧ updI S.C i (S.C i - 1) j < 9000 := by rw [hen.2.2]; omega
  cases b
  · have hQ : updQ Q i (X ++ Y) j = updQ Q i (X ++ Y) j ++ [] := by simp
    exact ⟨_, fin hQ, l_move s i j false (lst X) (hd Y) _ _ h1 hi hj h2 h3 h4 h5 h6 ⟨h7, by omega⟩ (.inr ⟨rfl, hen.2.1.symm, rfl⟩) (pl hQ).1 (.inl rfl) hC⟩
  · have hQ : updQ Q i (X ++ Y) j = [] ++ updQ Q i (X ++ Y) j := by simp
    exact ⟨_, fin hQ, l_move s i j true (lst X) (hd Y) _ _ h1 hi hj h2 h3 h4 h5 h6 ⟨h7, by omega⟩ (.inl ⟨rfl, rfl, hen.1.symm⟩) (.inl rfl) (pl hQ).2 hC⟩
theorem p_move_no (h : Inv n m V Q S) (hn0 : 0 < n) (s j : Int) (b : Bool) (hs : noSlot n Q s) :
    LocP 15 [.int .i64 s, .int .i64 j, .bool b] n m (poolS n m V S) (.int .i64 4) (poolS n m V S) := l_move_no s j b hn0 (noSlot_L h hs)
theorem p_move_bad (h : Inv n m V Q S) {s i : Nat} {X Y : List Nat} (hx : AtQ m Q s i X Y) (j : Int) (b : Bool) (hj : j < 0 ∨ (m : Int) ≤ j) :
    LocP 15 [.int .i64 (s : Nat), .int .i64 j, .bool b] n m (poolS n m V S) (.int .i64 7) (poolS n m V S) := by
  obtain ⟨h1, h2, _⟩ := un_facts h hx
  exact l_move_bad s j b h1 (by omega) hj
theorem p_put (h : Inv n m V Q S) {s i : Nat} {X Y : List Nat} (hx : AtQ m Q s i X Y) (v : IP) :
    Inv n m (updV V s (ip v)) Q S ∧ LocP 17 [.int .i64 (s : Nat), .iptr v.1] n m (poolS n m V S) (.int .i64 0) (poolS n m (updV V s (ip v)) S) := by
  obtain ⟨h1, h2, _⟩ := un_facts h hx
  refine ⟨⟨h.st, fun t ht hl => ?_, h.frn, h.fru⟩, l_put s v h1 (by omega)⟩
  by_cases e : t = s
  · subst e; omega
  · rw [updV_ne e]; exact h.val t ht hl
theorem p_put_no (h : Inv n m V Q S) (hn0 : 0 < n) (s : Int) (v : IP) (hs : noSlot n Q s) : LocP 17 [.int .i64 s, .iptr v.1] n m (poolS n m V S) (.int .i64 4) (poolS n m V S) := l_put_no s v hn0 (noSlot_L h hs)
end
end Go.Proofs.Ytkjimnhmiojcdaa.Rt
