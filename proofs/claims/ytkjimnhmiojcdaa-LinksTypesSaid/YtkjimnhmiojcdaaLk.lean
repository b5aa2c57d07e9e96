/-
  A call on both: they answer alike, and stay alike.
-/
import Derived.Test.YtkjimnhmiojcdaaLiC
set_option linter.unusedSimpArgs false
set_option linter.unusedVariables false
namespace Go.Pol
open Go.Am
def refC (a b c n m : Nat) (V : Nat → Int) (Q : Nat → List Nat) : List (Nat × AObj) := [(a, .cells [.int .i64 (n : Nat), .sl b 0 m m 1, .sl c 0 n n 1]), (b, .cells (ofB m Q)), (c, .cells (memI n V))]
def bothB (n m : Nat) (V : Nat → Int) (Q : Nat → List Nat) (S : PS) : List (Nat × AObj) := poolS n m V S ++ refC 3 4 5 n m V Q
/-- A pool that has the lists, of sizes that are allowed. -/
structure GoodP (n m : Nat) (V : Nat → Int) (Q : Nat → List Nat) (S : PS) : Prop where
  inv : Inv n m V Q S
  m_le : m ≤ 64
  n_le : n ≤ 8000
  n_pos : 0 < n
theorem GoodP.q {n m : Nat} {V : Nat → Int} {Q : Nat → List Nat} {S : PS} (h : GoodP n m V Q S) : Qok n m Q := h.inv.st.qok h.m_le h.n_le h.n_pos
theorem GoodP.up {n m : Nat} {V V' : Nat → Int} {Q Q' : Nat → List Nat} {S S' : PS} (h : GoodP n m V Q S) (hi : Inv n m V' Q' S') : GoodP n m V' Q' S' := ⟨hi, h.m_le, h.n_le, h.n_pos⟩
theorem least_of {P : Nat → Prop} : ∀ (n : Nat), (∃ s, s < n ∧ P s) → ∃ s, s < n ∧ P s ∧ ∀ t, t < s → ¬ P t
  | 0, ⟨s, h, _⟩ => by omega
  | n + 1, ⟨s, h, hp⟩ => by
    by_cases hx : ∃ s, s < n ∧ P s
    · obtain ⟨t, h1, h2, h3⟩ := least_of n hx
      exact ⟨t, by omega, h2, h3⟩
    · have e : s = n := Nat.le_antisymm (by omega) (Nat.le_of_not_lt fun hlt => hx ⟨s, hlt, hp⟩)
      subst e
      exact ⟨s, h, hp, fun t ht hpt => hx ⟨t, ht, hpt⟩⟩
theorem free_or (n : Nat) (Q : Nat → List Nat) : (∃ s, freeAt n Q s) ∨ fullAt n Q := by
  by_cases h : ∃ s, s < n ∧ ∀ i, s ∉ Q i
  · obtain ⟨s, h1, h2, h3⟩ := least_of n h
    exact .inl ⟨s, h1, h2, fun t ht => Classical.byContradiction fun hn => h3 t ht fun i hi => hn ⟨i, hi⟩⟩
  · exact .inr fun t ht => Classical.byContradiction fun hn => h ⟨t, ht, fun i hi => hn ⟨i, hi⟩⟩
theorem slot_or {n m : Nat} {Q : Nat → List Nat} (hq : Qok n m Q) (s : Int) : noSlot n Q s ∨ ∃ (k i : Nat) (X Y : List Nat), s = (k : Int) ∧ AtQ m Q k i X Y := by
  by_cases h : ∃ k i : Nat, s = (k : Int) ∧ k ∈ Q i
  · obtain ⟨k, i, h1, h2⟩ := h
    obtain ⟨X, Y, ha⟩ := at_of hq.out h2
    exact .inr ⟨k, i, X, Y, h1, ha⟩
  · exact .inl fun k e _ i hi => h ⟨k, i, e, hi⟩
theorem list_or (m : Nat) (i : Int) : (i < 0 ∨ (m : Int) ≤ i) ∨ ∃ k : Nat, i = (k : Int) ∧ k < m := by
  by_cases h : i < 0 ∨ (m : Int) ≤ i
  · exact .inl h
  · exact .inr ⟨i.toNat, by omega, by omega⟩
/-- What a call does to the values and the lists: 0 Push, 3 After, 4 Take, 5 Move, 6 Put, 7 looks. -/
inductive TrR (n m : Nat) (V : Nat → Int) (Q : Nat → List Nat) (o : Nat) (s i v : Int) (b : Bool) : (Nat → Int) → (Nat → List Nat) → Prop
  | push {t k : Nat} (ho : o = 0) (hi : i = (k : Int)) (hk : k < m) (ht : freeAt n Q t) : TrR n m V Q o s i v b (updI V t v) (updQ Q k (if b = true then t :: Q k else Q k ++ [t]))
  | pushFull {k : Nat} (ho : o = 0) (hi : i = (k : Int)) (hk : k < m) (ht : fullAt n Q) : TrR n m V Q o s i v b V Q
  | pushNo (ho : o = 0) (hi : i < 0 ∨ (m : Int) ≤ i) : TrR n m V Q o s i v b V Q
  | after {t k j : Nat} {X Y : List Nat} (ho : o = 3) (hs : s = (k : Int)) (hx : AtQ m Q k j X Y) (ht : freeAt n Q t) : TrR n m V Q o s i v b (updI V t v) (updQ Q j (X ++ k :: t :: Y))
  | afterFull {k j : Nat} {X Y : List Nat} (ho : o = 3) (hs : s = (k : Int)) (hx : AtQ m Q k j X Y) (ht : fullAt n Q) : TrR n m V Q o s i v b V Q
  | afterNo (ho : o = 3) (hs : noSlot n Q s) : TrR n m V Q o s i v b V Q
  | take {k j : Nat} {X Y : List Nat} (ho : o = 4) (hs : s = (k : Int)) (hx : AtQ m Q k j X Y) : TrR n m V Q o s i v b (updI V k 0) (updQ Q j (X ++ Y))
  | takeNo (ho : o = 4) (hs : noSlot n Q s) : TrR n m V Q o s i v b V Q
  | move {k j l : Nat} {X Y : List Nat} (ho : o = 5) (hs : s = (k : Int)) (hx : AtQ m Q k j X Y) (hi : i = (l : Int)) (hl : l < m) : TrR n m V Q o s i v b V (updQ (updQ Q j (X ++ Y)) l (if b = true then k :: updQ Q j (X ++ Y) l else updQ Q j (X ++ Y) l ++ [k]))
  | moveBad {k j : Nat} {X Y : List Nat} (ho : o = 5) (hs : s = (k : Int)) (hx : AtQ m Q k j X Y) (hi : i < 0 ∨ (m : Int) ≤ i) : TrR n m V Q o s i v b V Q
  | moveNo (ho : o = 5) (hs : noSlot n Q s) : TrR n m V Q o s i v b V Q
  | put {k j : Nat} {X Y : List Nat} (ho : o = 6) (hs : s = (k : Int)) (hx : AtQ m Q k j X Y) : TrR n m V Q o s i v b (updI V k v) Q
  | putNo (ho : o = 6) (hs : noSlot n Q s) : TrR n m V Q o s i v b V Q
  | look (ho : o = 7) : TrR n m V Q o s i v b V Q
def opC (k : Nat) : Nat := if k < 3 then 0 else if k < 7 then k else 7
end Go.Pol
namespace Go.Proofs.Ytkjimnhmiojcdaa
open Go Go.Am Go.Pol
section
variable {n m : Nat} {V : Nat → Int} {Q : Nat → List Nat} {S : PS}
/-- A call that may change both, and answers alike. -/
def Both (f g : Nat) (avs : List AV) (n m : Nat) (V : Nat → Int) (Q : Nat → List Nat) (S : PS) (T : AV → Prop) (R : (Nat → Int) → (Nat → List Nat) → Prop) : Prop := ∃ V' Q' S' r, T r ∧ R V' Q' ∧ GoodP n m V' Q' S' ∧ LocP f avs n m (poolS n m V S) r (poolS n m V' S') ∧ LocR g avs n m (refB n m V Q) r (refB n m V' Q')
def isPair (r : AV) : Prop := ∃ a b : Int, r = .tup [.int .i64 a, .int .i64 b]
def isInt (r : AV) : Prop := ∃ a : Int, r = .int .i64 a
theorem b_push (h : GoodP n m V Q S) (i v : Int) (b : Bool) : Both 24 69 [.int .i64 i, .int .i64 v, .bool b] n m V Q S isPair fun V' Q' => ∀ s, TrR n m V Q 0 s i v b V' Q' := by
  rcases list_or m i with hi | ⟨k, rfl, hi⟩
  · exact ⟨V, Q, S, _, ⟨_, _, rfl⟩, fun _ => .pushNo rfl hi, h, p_push_no h.n_pos i hi v b, q_push_no h.q i hi v b⟩
  · rcases free_or n Q with ⟨s, hs⟩ | hs
    · obtain ⟨S', h1, h2⟩ := p_push h.inv h.n_le hs hi v b
      exact ⟨_, _, S', _, ⟨_, _, rfl⟩, fun _ => .push rfl rfl hi hs, h.up h1, h2, q_push h.q hs hi v b⟩
    · obtain ⟨S', h1, h2⟩ := p_push_full h.inv h.n_pos h.n_le hs hi v b
      exact ⟨_, _, S', _, ⟨_, _, rfl⟩, fun _ => .pushFull rfl rfl hi hs, h.up h1, h2, q_push_full h.q hs hi v b⟩
theorem b_after (h : GoodP n m V Q S) (s v : Int) : Both 46 53 [.int .i64 s, .int .i64 v] n m V Q S isPair fun V' Q' => ∀ i b, TrR n m V Q 3 s i v b V' Q' := by
  rcases slot_or h.q s with hs | ⟨k, i, X, Y, rfl, hx⟩
  · exact ⟨V, Q, S, _, ⟨_, _, rfl⟩, fun _ _ => .afterNo rfl hs, h, p_after_no h.inv h.n_pos s hs v, q_after_no h.q s hs v⟩
  · rcases free_or n Q with ⟨t, ht⟩ | ht
    · obtain ⟨S', h1, h2⟩ := p_after h.inv h.n_le ht hx v
      exact ⟨_, _, S', _, ⟨_, _, rfl⟩, fun _ _ => .after rfl rfl hx ht, h.up h1, h2, q_after h.q ht hx v⟩
    · obtain ⟨S', h1, h2⟩ := p_after_full h.inv h.n_le ht hx v
      exact ⟨_, _, S', _, ⟨_, _, rfl⟩, fun _ _ => .afterFull rfl rfl hx ht, h.up h1, h2, q_after_full h.q ht hx v⟩
theorem b_take (h : GoodP n m V Q S) (s : Int) : Both 25 54 [.int .i64 s] n m V Q S isPair fun V' Q' => ∀ i v b, TrR n m V Q 4 s i v b V' Q' := by
  rcases slot_or h.q s with hs | ⟨k, i, X, Y, rfl, hx⟩
  · exact ⟨V, Q, S, _, ⟨_, _, rfl⟩, fun _ _ _ => .takeNo rfl hs, h, p_take_no h.inv h.n_pos s hs, q_take_no h.q s hs⟩
  · obtain ⟨S', h1, h2⟩ := p_take h.inv h.n_le hx
    exact ⟨_, _, S', _, ⟨_, _, rfl⟩, fun _ _ _ => .take rfl rfl hx, h.up h1, h2, q_take h.q hx⟩
theorem b_move (h : GoodP n m V Q S) (s j : Int) (b : Bool) : Both 55 56 [.int .i64 s, .int .i64 j, .bool b] n m V Q S isInt fun V' Q' => ∀ v, TrR n m V Q 5 s j v b V' Q' := by
  rcases slot_or h.q s with hs | ⟨k, i, X, Y, rfl, hx⟩
  · exact ⟨V, Q, S, _, ⟨_, rfl⟩, fun _ => .moveNo rfl hs, h, p_move_no h.inv h.n_pos s j b hs, q_move_no h.q s j b hs⟩
  · rcases list_or m j with hj | ⟨l, rfl, hj⟩
    · exact ⟨V, Q, S, _, ⟨_, rfl⟩, fun _ => .moveBad rfl rfl hx hj, h, p_move_bad h.inv hx j b hj, q_move_bad h.q hx j b hj⟩
    · obtain ⟨S', h1, h2⟩ := p_move h.inv h.n_le hx hj b
      exact ⟨_, _, S', _, ⟨_, rfl⟩, fun _ => .move rfl rfl hx rfl hj, h.up h1, h2, q_move h.q hx hj b⟩
theorem b_put (h : GoodP n m V Q S) (s v : Int) : Both 57 58 [.int .i64 s, .int .i64 v] n m V Q S isInt fun V' Q' => ∀ i b, TrR n m V Q 6 s i v b V' Q' := by
  rcases slot_or h.q s with hs | ⟨k, i, X, Y, rfl, hx⟩
  · exact ⟨V, Q, S, _, ⟨_, rfl⟩, fun _ _ => .putNo rfl hs, h, p_put_no h.inv h.n_pos s v hs, q_put_no h.q s v hs⟩
  · obtain ⟨h1, h2⟩ := p_put h.inv hx v
    exact ⟨_, _, S, _, ⟨_, rfl⟩, fun _ _ => .put rfl rfl hx, h.up h1, h2, q_put h.q hx v⟩
/-- A look at both. -/
def Look (f g : Nat) (avs : List AV) (n m : Nat) (V : Nat → Int) (Q : Nat → List Nat) (S : PS) : Prop := ∃ r, isPair r ∧ LocP f avs n m (poolS n m V S) r (poolS n m V S) ∧ LocR g avs n m (refB n m V Q) r (refB n m V Q)
theorem b_get (h : GoodP n m V Q S) (s : Int) : Look 59 60 [.int .i64 s] n m V Q S := by
  rcases slot_or h.q s with hs | ⟨k, i, X, Y, rfl, hx⟩
  · exact ⟨_, ⟨_, _, rfl⟩, p_get_no h.inv h.n_pos s hs, q_get_no h.q s hs⟩
  · exact ⟨_, ⟨_, _, rfl⟩, p_get h.inv hx, q_get h.q hx⟩
theorem b_where (h : GoodP n m V Q S) (s : Int) : Look 61 62 [.int .i64 s] n m V Q S := by
  rcases slot_or h.q s with hs | ⟨k, i, X, Y, rfl, hx⟩
  · exact ⟨_, ⟨_, _, rfl⟩, p_where_no h.inv h.n_pos s hs, q_where_no h.q s hs⟩
  · exact ⟨_, ⟨_, _, rfl⟩, p_where h.inv hx, q_where h.q hx⟩
theorem b_step (h : GoodP n m V Q S) (s : Int) (b : Bool) : Look 63 64 [.int .i64 s, .bool b] n m V Q S := by
  rcases slot_or h.q s with hs | ⟨k, i, X, Y, rfl, hx⟩
  · exact ⟨_, ⟨_, _, rfl⟩, p_step_no h.inv h.n_pos s b hs, q_step_no h.q s b hs⟩
  · exact ⟨_, ⟨_, _, rfl⟩, p_step h.inv hx b, q_step h.q hx b⟩
theorem b_end (h : GoodP n m V Q S) (i : Int) (b : Bool) : Look 65 66 [.int .i64 i, .bool b] n m V Q S := by
  rcases list_or m i with hi | ⟨k, rfl, hi⟩
  · exact ⟨_, ⟨_, _, rfl⟩, p_end_no h.n_pos i b hi, q_end_no h.q i b hi⟩
  · exact ⟨_, ⟨_, _, rfl⟩, p_end h.inv h.n_pos hi b, q_end h.q hi b⟩
theorem b_len (h : GoodP n m V Q S) (i : Int) : Look 67 68 [.int .i64 i] n m V Q S := by
  rcases list_or m i with hi | ⟨k, rfl, hi⟩
  · exact ⟨_, ⟨_, _, rfl⟩, p_len_no h.n_pos i hi, q_len_no h.q i hi⟩
  · exact ⟨_, ⟨_, _, rfl⟩, p_len h.inv h.n_pos hi, q_len h.q hi⟩
end
end Go.Proofs.Ytkjimnhmiojcdaa
