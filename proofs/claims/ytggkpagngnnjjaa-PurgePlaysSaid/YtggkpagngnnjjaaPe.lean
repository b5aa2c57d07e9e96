/-
  Plain law of pools: the numbers of slots and lists stand for lists of slots.
-/
import Derived.Test.YtggkpagngnnjjaaPd
set_option linter.unusedSimpArgs false
set_option linter.unusedVariables false
namespace Go.Pol
def hd : List Nat → Int
  | [] => -1
  | x :: _ => x
def lst (l : List Nat) : Int := match l.getLast? with
  | none => -1
  | some x => x
def updQ (Q : Nat → List Nat) (i : Nat) (l : List Nat) : Nat → List Nat := fun j => if j = i then l else Q j
section
variable {X Y Z : List Nat} {x s : Nat}
theorem lst_snoc : lst (X ++ [x]) = x := by simp [lst]
theorem lst_app : lst (X ++ Y) = if Y = [] then lst X else lst Y := by
  by_cases h : Y = []
  · subst h; simp
  · rw [if_neg h]; unfold lst; rw [List.getLast?_append]; cases hl : Y.getLast? with
    | none => simp at hl; exact absurd hl h
    | some y => rfl
theorem lst_appc : lst (X ++ x :: Y) = if Y = [] then (x : Int) else lst Y := by
  rw [show X ++ x :: Y = (X ++ [x]) ++ Y by simp, lst_app, lst_snoc]
theorem hd_app : hd (X ++ Y) = if X = [] then hd Y else hd X := by cases X <;> simp [hd]
theorem lst_mem (h : lst X = (s : Int)) : s ∈ X := by
  unfold lst at h
  cases hl : X.getLast? with
  | none => rw [hl] at h; dsimp only at h; omega
  | some y =>
    rw [hl] at h; dsimp only at h
    have e : y = s := by omega
    subst e; exact List.mem_of_getLast? hl
theorem hd_mem (h : hd X = (s : Int)) : s ∈ X := by
  cases X with
  | nil => simp only [hd] at h; omega
  | cons y Y =>
    simp only [hd] at h
    have e : y = s := by omega
    subst e; exact List.mem_cons_self ..
theorem lst_neg : lst X = -1 ↔ X = [] := by
  unfold lst
  cases hl : X.getLast? with
  | none => simp at hl; simp [hl]
  | some y =>
    dsimp only
    constructor
    · intro h; omega
    · intro h; subst h; simp at hl
theorem hd_neg : hd X = -1 ↔ X = [] := by
  cases X with
  | nil => simp [hd]
  | cons y Y =>
    simp only [hd]
    constructor
    · intro h; omega
    · intro h; cases h
theorem lst_ge : lst X = -1 ∨ ∃ a : Nat, a ∈ X ∧ lst X = (a : Int) := by
  cases hl : X.getLast? with
  | none => left; unfold lst; rw [hl]
  | some y => right; exact ⟨y, List.mem_of_getLast? hl, by unfold lst; rw [hl]⟩
theorem hd_ge : hd X = -1 ∨ ∃ a : Nat, a ∈ X ∧ hd X = (a : Int) := by
  cases X with
  | nil => exact .inl rfl
  | cons y Y => exact .inr ⟨y, List.mem_cons_self .., rfl⟩
end
theorem split2 {X Y X' Y' : List Nat} {s : Nat} (h : X ++ Y = X' ++ s :: Y') : (∃ Z, X = X' ++ s :: Z ∧ Y' = Z ++ Y) ∨ ∃ Z, Y = Z ++ s :: Y' ∧ X' = X ++ Z := by
  rcases List.append_eq_append_iff.1 h with ⟨Z, h1, h2⟩ | ⟨Z, h1, h2⟩
  · exact .inr ⟨Z, h2, h1⟩
  · cases Z with
    | nil => exact .inr ⟨[], by simpa using h2.symm, by simpa using h1.symm⟩
    | cons z Z => rw [List.cons_append] at h2; injection h2 with h3 h4; subst h3; exact .inl ⟨Z, h1, h4⟩
theorem split3 {X Y X' Y' : List Nat} {x s : Nat} (h : X ++ x :: Y = X' ++ s :: Y') : (X = X' ∧ x = s ∧ Y = Y') ∨ (∃ Z, X = X' ++ s :: Z ∧ Y' = Z ++ x :: Y) ∨ ∃ Z, Y = Z ++ s :: Y' ∧ X' = X ++ x :: Z := by
  rcases split2 h with ⟨Z, h1, h2⟩ | ⟨Z, h1, h2⟩
  · exact .inr (.inl ⟨Z, h1, h2⟩)
  · cases Z with
    | nil => rw [List.nil_append] at h1; injection h1 with h3 h4; exact .inl ⟨by simpa using h2.symm, h3, h4⟩
    | cons z Z => rw [List.cons_append] at h1; injection h1 with h3 h4; subst h3; exact .inr (.inr ⟨Z, h4, h2⟩)
theorem len_le : ∀ (n : Nat) (l : List Nat), l.Nodup → (∀ x ∈ l, x < n) → l.length ≤ n
  | 0, l, _, h => by cases l with
    | nil => exact Nat.le_refl _
    | cons x l => exact absurd (h x (List.mem_cons_self ..)) (by omega)
  | n + 1, l, hd, h => by
    by_cases hm : n ∈ l
    · have := len_le n (l.erase n) (hd.erase n) fun x hx => by
        have h1 := (hd.mem_erase_iff).1 hx
        have := h x h1.2; have := h1.1; omega
      rw [List.length_erase_of_mem hm] at this; omega
    · have := len_le n l hd fun x hx => by
        have h1 := h x hx
        have : x ≠ n := fun e => hm (e ▸ hx)
        omega
      omega
/-- The numbers of slots and lists are those of lists of slots. -/
structure St (n m : Nat) (L N P A B C : Nat → Int) (Q : Nat → List Nat) : Prop where
  out : ∀ i, m ≤ i → Q i = []
  us : ∀ i s, s ∈ Q i → s < n ∧ L s = (i : Nat)
  fre : ∀ s, s < n → (L s = -1 ∧ N s = -1 ∧ P s = -1) ∨ ∃ i, i < m ∧ L s = (i : Nat) ∧ s ∈ Q i
  nd : ∀ i, (Q i).Nodup
  ch : ∀ i X s Y, Q i = X ++ s :: Y → N s = hd Y ∧ P s = lst X
  en : ∀ i, i < m → A i = hd (Q i) ∧ B i = lst (Q i) ∧ C i = ((Q i).length : Nat)
theorem tieN_at {N : Nat → Int} {x s : Nat} {p q : Int} (hp : p = -1 ∨ ∃ a : Nat, a ≠ x ∧ p = (a : Int)) : tieN N x p q s = if s = x then q else if p = (s : Int) then (x : Int) else N s := by
  unfold tieN updI
  rcases hp with rfl | ⟨a, ha, rfl⟩
  · rw [if_pos rfl, if_neg (show ¬ (-1 : Int) = (s : Int) by omega)]
  · rw [if_neg (by omega)]
    simp only [Int.toNat_natCast]
    by_cases h1 : s = a
    · subst h1; rw [if_pos rfl, if_neg ha, if_pos rfl]
    · rw [if_neg h1, if_neg (show ¬ (a : Int) = (s : Int) by omega)]
theorem tieP_at {P : Nat → Int} {x s : Nat} {p q : Int} (hq : q = -1 ∨ ∃ a : Nat, a ≠ x ∧ q = (a : Int)) : tieP P x p q s = if s = x then p else if q = (s : Int) then (x : Int) else P s := tieN_at (N := P) (x := x) (s := s) (p := q) (q := p) hq
theorem unN_at {N : Nat → Int} {s t : Nat} {p q : Int} (hp : p = -1 ∨ ∃ a : Nat, a ≠ s ∧ p = (a : Int)) : unN N s p q t = if t = s then -1 else if p = (t : Int) then q else N t := by
  unfold unN updI
  by_cases h1 : t = s
  · rw [if_pos h1, if_pos h1]
  · rw [if_neg h1, if_neg h1]
    rcases hp with rfl | ⟨a, ha, rfl⟩
    · rw [if_pos rfl, if_neg (by omega)]
    · rw [if_neg (by omega)]
      simp only [Int.toNat_natCast]
      by_cases h2 : t = a
      · subst h2; rw [if_pos rfl, if_pos rfl]
      · rw [if_neg h2, if_neg (by omega)]
theorem unP_at {P : Nat → Int} {s t : Nat} {p q : Int} (hq : q = -1 ∨ ∃ a : Nat, a ≠ s ∧ q = (a : Int)) : unP P s p q t = if t = s then -1 else if q = (t : Int) then p else P t := unN_at (N := P) (p := q) (q := p) hq
section
variable {n m : Nat} {L N P A B C : Nat → Int} {Q : Nat → List Nat}
theorem St.free (h : St n m L N P A B C Q) {x : Nat} (hL : L x = -1) (j : Nat) : x ∉ Q j := fun hx => by have := (h.us j x hx).2; omega
theorem St.one (h : St n m L N P A B C Q) {x i j : Nat} (hi : x ∈ Q i) (hj : x ∈ Q j) : i = j := by have := (h.us i x hi).2; have := (h.us j x hj).2; omega
theorem St.unused (h : St n m L N P A B C Q) {x : Nat} (hx : x < n) (hn : ∀ j, x ∉ Q j) : L x = -1 := by
  rcases h.fre x hx with h1 | ⟨i, _, _, h3⟩
  · exact h1.1
  · exact absurd h3 (hn i)
theorem St.tie (h : St n m L N P A B C Q) {x i : Nat} {X Y : List Nat} (hx : x < n) (hL : L x = -1) (hi : i < m) (hQ : Q i = X ++ Y) :
    St n m (updI L x i) (tieN N x (lst X) (hd Y)) (tieP P x (lst X) (hd Y)) (tieA A i x (lst X)) (tieA B i x (hd Y)) (updI C i (C i + 1)) (updQ Q i (X ++ x :: Y)) := by
  have hf := h.free hL
  have hXm : ∀ a, a ∈ X → a ∈ Q i := fun a ha => by rw [hQ]; exact List.mem_append_left _ ha
  have hYm : ∀ a, a ∈ Y → a ∈ Q i := fun a ha => by rw [hQ]; exact List.mem_append_right _ ha
  have hp : lst X = -1 ∨ ∃ a : Nat, a ≠ x ∧ lst X = (a : Int) := by
    rcases lst_ge (X := X) with h1 | ⟨a, h1, h2⟩
    · exact .inl h1
    · exact .inr ⟨a, fun e => hf i (e ▸ hXm a h1), h2⟩
  have hq : hd Y = -1 ∨ ∃ a : Nat, a ≠ x ∧ hd Y = (a : Int) := by
    rcases hd_ge (X := Y) with h1 | ⟨a, h1, h2⟩
    · exact .inl h1
    · exact .inr ⟨a, fun e => hf i (e ▸ hYm a h1), h2⟩
  have hnd := h.nd i
  rw [hQ] at hnd
  obtain ⟨nd1, nd2, nd3⟩ := List.nodup_append.1 hnd
  refine ⟨fun j hj => ?_, fun j s hs => ?_, fun s hs => ?_, fun j => ?_, fun j X' s Y' hj => ?_, fun j hj => ?_⟩
  · unfold updQ; rw [if_neg (by omega)]; exact h.out j hj
  · unfold updQ at hs; unfold updI
    split at hs
    · rename_i e; subst e
      rcases List.mem_append.1 hs with h1 | h1
      · have h2 := h.us _ s (hXm s h1)
        exact ⟨h2.1, by split; rfl; exact h2.2⟩
      · rcases List.mem_cons.1 h1 with rfl | h1
        · exact ⟨hx, if_pos rfl⟩
        · have h2 := h.us _ s (hYm s h1)
          exact ⟨h2.1, by split; rfl; exact h2.2⟩
    · have h2 := h.us _ s hs
      exact ⟨h2.1, by rw [if_neg (show ¬ s = x from fun e => hf j (e ▸ hs))]; exact h2.2⟩
  · by_cases e : s = x
    · right; subst e
      exact ⟨i, hi, by simp [updI], by simp [updQ]⟩
    · rcases h.fre s hs with ⟨h1, h2, h3⟩ | ⟨j, h1, h2, h3⟩
      · left
        have hX : ¬ lst X = (s : Int) := fun e2 => h.free h1 i (hXm s (lst_mem e2))
        have hY : ¬ hd Y = (s : Int) := fun e2 => h.free h1 i (hYm s (hd_mem e2))
        rw [tieN_at hp, tieP_at hq, if_neg e, if_neg hX, if_neg e, if_neg hY]
        exact ⟨by unfold updI; rw [if_neg e]; exact h1, h2, h3⟩
      · right
        refine ⟨j, h1, by unfold updI; rw [if_neg e]; exact h2, ?_⟩
        unfold updQ
        split
        · rename_i e2; subst e2; rw [hQ] at h3
          rcases List.mem_append.1 h3 with h4 | h4
          · exact List.mem_append_left _ h4
          · exact List.mem_append_right _ (List.mem_cons_of_mem _ h4)
        · exact h3
  · unfold updQ; split
    · refine List.nodup_append.2 ⟨nd1, List.nodup_cons.2 ⟨fun hm => hf i (hYm x hm), nd2⟩, fun a ha b hb => ?_⟩
      rcases List.mem_cons.1 hb with rfl | hb
      · exact fun e => hf i (e ▸ hXm a ha)
      · exact nd3 a ha b hb
    · exact h.nd j
  · rw [tieN_at hp, tieP_at hq]
    by_cases e : j = i
    · subst e
      rw [updQ, if_pos rfl] at hj
      rcases split3 hj with ⟨rfl, rfl, rfl⟩ | ⟨Z, rfl, rfl⟩ | ⟨Z, rfl, rfl⟩
      · rw [if_pos rfl, if_pos rfl]; exact ⟨rfl, rfl⟩
      · have hsX : s ∈ X' ++ s :: Z := by simp
        have hne : ¬ s = x := fun e => hf j (e ▸ hXm s hsX)
        have hc := h.ch j X' s (Z ++ Y) (by rw [hQ]; simp)
        have hY : ¬ hd Y = (s : Int) := fun e2 => nd3 s hsX s (hd_mem e2) rfl
        rw [if_neg hne, if_neg hne, if_neg hY]
        refine ⟨?_, hc.2⟩
        cases Z with
        | nil => rw [if_pos (by rw [lst_snoc])]; rfl
        | cons z Z =>
          have h1 : ¬ lst (X' ++ s :: z :: Z) = (s : Int) := fun e2 => by
            rw [lst_appc, if_neg (by simp)] at e2
            have := lst_mem e2
            have h2 := (List.nodup_append.1 nd1).2.1
            exact (List.nodup_cons.1 h2).1 this
          rw [if_neg h1, hc.1]; rfl
      · have hsY : s ∈ Z ++ s :: Y' := by simp
        have hne : ¬ s = x := fun e => hf j (e ▸ hYm s hsY)
        have hc := h.ch j (X ++ Z) s Y' (by rw [hQ]; simp)
        have hX : ¬ lst X = (s : Int) := fun e2 => nd3 s (lst_mem e2) s hsY rfl
        rw [if_neg hne, if_neg hne, if_neg hX]
        refine ⟨hc.1, ?_⟩
        cases Z with
        | nil => rw [if_pos (show hd ([] ++ s :: Y') = (s : Int) from rfl), lst_snoc]
        | cons z Z =>
          have h1 : ¬ hd (z :: Z ++ s :: Y') = (s : Int) := fun e2 => by
            simp only [List.cons_append, hd] at e2
            have h2 : z = s := by omega
            subst h2
            exact (List.nodup_cons.1 nd2).1 (by simp)
          rw [if_neg h1, hc.2, lst_app, lst_appc, if_neg (by simp), if_neg (by simp)]
    · rw [updQ, if_neg e] at hj
      have hs : s ∈ Q j := by rw [hj]; simp
      have hne : ¬ s = x := fun e => hf j (e ▸ hs)
      have hX : ¬ lst X = (s : Int) := fun e2 => e (h.one hs (hXm s (lst_mem e2)))
      have hY : ¬ hd Y = (s : Int) := fun e2 => e (h.one hs (hYm s (hd_mem e2)))
      rw [if_neg hne, if_neg hne, if_neg hX, if_neg hY]
      exact h.ch j X' s Y' hj
  · have h1 := h.en j hj
    unfold tieA updI updQ
    by_cases e : j = i
    · subst e
      rw [hQ] at h1
      obtain ⟨h2, h3, h4⟩ := h1
      simp only [if_true]
      refine ⟨?_, ?_, by rw [h4]; simp [List.length_append]; omega⟩
      · by_cases hX : X = []
        · subst hX; simp [lst_neg.2 rfl]; rfl
        · rw [if_neg (fun e => hX (lst_neg.1 e)), h2, hd_app, hd_app, if_neg hX, if_neg hX]
      · by_cases hY : Y = []
        · subst hY; simp [hd_neg.2 rfl, lst_snoc]
        · rw [if_neg (fun e => hY (hd_neg.1 e)), h3, lst_app, lst_appc, if_neg hY, if_neg hY]
    · have e1 : ∀ (q : Int) (f : Nat → Int), (if q = -1 then fun k => if k = i then (x : Int) else f k else f) j = f j := fun q f => by split; exact if_neg e; rfl
      rw [if_neg e, if_neg e]
      exact ⟨by rw [e1]; exact h1.1, by rw [e1]; exact h1.2.1, h1.2.2⟩
theorem St.untie (h : St n m L N P A B C Q) {s i : Nat} {X Y : List Nat} (hi : i < m) (hQ : Q i = X ++ s :: Y) :
    St n m (updI L s (-1)) (unN N s (lst X) (hd Y)) (unP P s (lst X) (hd Y)) (unA A i (lst X) (hd Y)) (unA B i (hd Y) (lst X)) (updI C i (C i - 1)) (updQ Q i (X ++ Y)) := by
  have hXm : ∀ a, a ∈ X → a ∈ Q i := fun a ha => by rw [hQ]; exact List.mem_append_left _ ha
  have hYm : ∀ a, a ∈ Y → a ∈ Q i := fun a ha => by rw [hQ]; exact List.mem_append_right _ (List.mem_cons_of_mem _ ha)
  have hsm : s ∈ Q i := by rw [hQ]; simp
  have hnd := h.nd i
  rw [hQ] at hnd
  obtain ⟨nd1, nd2, nd3⟩ := List.nodup_append.1 hnd
  obtain ⟨nd4, nd5⟩ := List.nodup_cons.1 nd2
  have hsX : s ∉ X := fun hm => nd3 s hm s (List.mem_cons_self ..) rfl
  have hp : lst X = -1 ∨ ∃ a : Nat, a ≠ s ∧ lst X = (a : Int) := by
    rcases lst_ge (X := X) with h1 | ⟨a, h1, h2⟩
    · exact .inl h1
    · exact .inr ⟨a, fun e => hsX (e ▸ h1), h2⟩
  have hq : hd Y = -1 ∨ ∃ a : Nat, a ≠ s ∧ hd Y = (a : Int) := by
    rcases hd_ge (X := Y) with h1 | ⟨a, h1, h2⟩
    · exact .inl h1
    · exact .inr ⟨a, fun e => nd4 (e ▸ h1), h2⟩
  have hmem : ∀ t, t ∈ X ++ Y → t ∈ Q i ∧ t ≠ s := fun t ht => by
    rcases List.mem_append.1 ht with h1 | h1
    · exact ⟨hXm t h1, fun e => hsX (e ▸ h1)⟩
    · exact ⟨hYm t h1, fun e => nd4 (e ▸ h1)⟩
  refine ⟨fun j hj => ?_, fun j t ht => ?_, fun t ht => ?_, fun j => ?_, fun j X' t Y' hj => ?_, fun j hj => ?_⟩
  · unfold updQ; rw [if_neg (by omega)]; exact h.out j hj
  · unfold updQ at ht; unfold updI
    split at ht
    · rename_i e; subst e
      obtain ⟨h1, h2⟩ := hmem t ht
      rw [if_neg h2]; exact h.us _ t h1
    · rename_i e
      rw [if_neg (show ¬ t = s from fun e2 => e (h.one ht (e2 ▸ hsm)))]; exact h.us _ t ht
  · rw [unN_at hp, unP_at hq]
    by_cases e : t = s
    · left; subst e; rw [if_pos rfl, if_pos rfl]; exact ⟨by simp [updI], rfl, rfl⟩
    · rw [if_neg e, if_neg e]
      rcases h.fre t ht with ⟨h1, h2, h3⟩ | ⟨j, h1, h2, h3⟩
      · left
        have hX : ¬ lst X = (t : Int) := fun e2 => h.free h1 i (hXm t (lst_mem e2))
        have hY : ¬ hd Y = (t : Int) := fun e2 => h.free h1 i (hYm t (hd_mem e2))
        rw [if_neg hX, if_neg hY]
        exact ⟨by unfold updI; rw [if_neg e]; exact h1, h2, h3⟩
      · right
        refine ⟨j, h1, by unfold updI; rw [if_neg e]; exact h2, ?_⟩
        unfold updQ
        split
        · rename_i e2; subst e2; rw [hQ] at h3
          rcases List.mem_append.1 h3 with h4 | h4
          · exact List.mem_append_left _ h4
          · rcases List.mem_cons.1 h4 with h4 | h4
            · exact absurd h4 e
            · exact List.mem_append_right _ h4
        · exact h3
  · unfold updQ; split
    · exact List.nodup_append.2 ⟨nd1, nd5, fun a ha b hb => nd3 a ha b (List.mem_cons_of_mem _ hb)⟩
    · exact h.nd j
  · rw [unN_at hp, unP_at hq]
    by_cases e : j = i
    · subst e
      rw [updQ, if_pos rfl] at hj
      have hts := (hmem t (by rw [hj]; simp)).2
      rw [if_neg hts, if_neg hts]
      rcases split2 hj with ⟨Z, rfl, rfl⟩ | ⟨Z, rfl, rfl⟩
      · have hc := h.ch j X' t (Z ++ s :: Y) (by rw [hQ]; simp)
        have hY : ¬ hd Y = (t : Int) := fun e2 => nd3 t (by simp) t (List.mem_cons_of_mem _ (hd_mem e2)) rfl
        rw [if_neg hY]
        refine ⟨?_, hc.2⟩
        cases Z with
        | nil => rw [if_pos (by rw [lst_snoc])]; rfl
        | cons z Z =>
          have h1 : ¬ lst (X' ++ t :: z :: Z) = (t : Int) := fun e2 => by
            rw [lst_appc, if_neg (by simp)] at e2
            have := lst_mem e2
            have h2 := (List.nodup_append.1 nd1).2.1
            exact (List.nodup_cons.1 h2).1 this
          rw [if_neg h1, hc.1]; rfl
      · have hc := h.ch j (X ++ s :: Z) t Y' (by rw [hQ]; simp)
        have hX : ¬ lst X = (t : Int) := fun e2 => nd3 t (lst_mem e2) t (by simp) rfl
        rw [if_neg hX]
        refine ⟨hc.1, ?_⟩
        cases Z with
        | nil => rw [if_pos (show hd ([] ++ t :: Y') = (t : Int) from rfl), List.append_nil]
        | cons z Z =>
          have h1 : ¬ hd (z :: Z ++ t :: Y') = (t : Int) := fun e2 => by
            simp only [List.cons_append, hd] at e2
            have h2 : z = t := by omega
            subst h2
            exact (List.nodup_cons.1 nd5).1 (by simp)
          rw [if_neg h1, hc.2, lst_appc, if_neg (by simp), lst_app, if_neg (by simp)]
    · rw [updQ, if_neg e] at hj
      have ht : t ∈ Q j := by rw [hj]; simp
      have hne : ¬ t = s := fun e2 => e (h.one ht (e2 ▸ hsm))
      have hX : ¬ lst X = (t : Int) := fun e2 => e (h.one ht (hXm t (lst_mem e2)))
      have hY : ¬ hd Y = (t : Int) := fun e2 => e (h.one ht (hYm t (hd_mem e2)))
      rw [if_neg hne, if_neg hne, if_neg hX, if_neg hY]
      exact h.ch j X' t Y' hj
  · have h1 := h.en j hj
    unfold unA updI updQ
    by_cases e : j = i
    · subst e
      rw [hQ] at h1
      obtain ⟨h2, h3, h4⟩ := h1
      simp only [if_true]
      refine ⟨?_, ?_, by rw [h4]; simp [List.length_append]; omega⟩
      · by_cases hX : X = []
        · subst hX; simp [lst_neg.2 rfl]
        · rw [if_neg (fun e => hX (lst_neg.1 e)), h2, hd_app, hd_app, if_neg hX, if_neg hX]
      · by_cases hY : Y = []
        · subst hY; simp [hd_neg.2 rfl]
        · rw [if_neg (fun e => hY (hd_neg.1 e)), h3, lst_appc, if_neg hY, lst_app, if_neg hY]
    · have e1 : ∀ (q r : Int) (f : Nat → Int), (if q = -1 then fun k => if k = i then r else f k else f) j = f j := fun q r f => by split; exact if_neg e; rfl
      rw [if_neg e, if_neg e]
      exact ⟨by rw [e1]; exact h1.1, by rw [e1]; exact h1.2.1, h1.2.2⟩
end
end Go.Pol
