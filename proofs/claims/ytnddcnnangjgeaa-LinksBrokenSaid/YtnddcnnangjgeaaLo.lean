/-
  Plain law of the document's Save: what has been written when some slots of some lists have been visited.
-/
import Derived.Test.YtnddcnnangjgeaaLn
set_option linter.unusedSimpArgs false
set_option linter.unusedVariables false
namespace Go.Pol
def dn (Q : Nat → List Nat) (i k s : Nat) : Bool := (List.range i).any (fun j => (Q j).contains s) || ((Q i).take k).contains s
def LD (L : Nat → Int) (Q : Nat → List Nat) (i k : Nat) : Nat → Int := fun s => if dn Q i k s = true then L s else -1
def ND (N : Nat → Int) (Q : Nat → List Nat) (i k : Nat) : Nat → Int := fun s => if N s ≠ -1 ∧ dn Q i k (N s).toNat = true then N s else -1
/-- The edge of a list that is visited. -/
def ED (A : Nat → Int) (i : Nat) (v : Int) : Nat → Int := fun j => if j < i then A j else v
theorem dn_iff {Q : Nat → List Nat} {i k s : Nat} : dn Q i k s = true ↔ (∃ j, j < i ∧ s ∈ Q j) ∨ s ∈ (Q i).take k := by
  unfold dn
  simp only [Bool.or_eq_true, List.any_eq_true, List.mem_range, List.contains_eq_mem, decide_eq_true_eq]
theorem dn_congr {Q : Nat → List Nat} {i k i' k' s s' : Nat} (h : dn Q i k s = true ↔ dn Q i' k' s' = true) : dn Q i k s = dn Q i' k' s' := Bool.eq_iff_iff.2 h
theorem dn_next {Q : Nat → List Nat} {i s : Nat} : dn Q (i + 1) 0 s = dn Q i (Q i).length s := dn_congr (by
  rw [dn_iff, dn_iff, List.take_of_length_le (Nat.le_refl _)]
  constructor
  · rintro (⟨j, h1, h2⟩ | h)
    · rcases Nat.lt_or_ge j i with h3 | h3
      · exact .inl ⟨j, h3, h2⟩
      · obtain rfl : j = i := by omega
        exact .inr h2
    · simp at h
  · rintro (⟨j, h1, h2⟩ | h)
    · exact .inl ⟨j, by omega, h2⟩
    · exact .inl ⟨i, by omega, h⟩)
theorem dn_s {Q : Nat → List Nat} {i k s x : Nat} (hx : (Q i)[k]? = some x) : dn Q i (k + 1) s = true ↔ dn Q i k s = true ∨ s = x := by
  have h : (Q i).take (k + 1) = (Q i).take k ++ [x] := by rw [List.take_add_one, hx]; rfl
  rw [dn_iff, dn_iff, h, List.mem_append, List.mem_singleton, or_assoc]
/-- A slot at a place, with those before and behind. -/
theorem at_k {l : List Nat} {k x : Nat} (hx : l[k]? = some x) : l = l.take k ++ x :: l.drop (k + 1) := by
  obtain ⟨h, rfl⟩ := List.getElem?_eq_some_iff.1 hx
  rw [← List.drop_eq_getElem_cons h, List.take_append_drop]
theorem lst_take {l : List Nat} {k : Nat} (hk : k ≤ l.length) : lst (l.take k) = if k = 0 then (-1 : Int) else ((nth 0 l (k - 1) : Nat) : Int) := by
  cases k with
  | zero => rfl
  | succ k =>
    rw [if_neg (by omega), show k + 1 - 1 = k by omega, take_nth (d := 0) (by omega), lst_snoc]
def mkA (v : Int) : Nat → Int
  | 0 => -1
  | _ + 1 => v
def mkB (l : List Nat) : Nat → Int
  | 0 => -1
  | k + 1 => (nth 0 l k : Nat)
theorem mkA_end {l : List Nat} : mkA (hd l) l.length = hd l := by cases l <;> rfl
theorem mkB_end {l : List Nat} : mkB l l.length = lst l := by
  have h := lst_take (l := l) (Nat.le_refl _)
  rw [List.take_of_length_le (Nat.le_refl _)] at h
  rw [h]
  cases hl : l.length with
  | zero => rfl
  | succ k => rw [if_neg (by omega)]; rfl
theorem ED_app {A : Nat → Int} {i : Nat} {v : Int} : memI i A ++ [.int .i64 v] = memI (i + 1) (ED A i v) := by
  rw [show memI i A = memI i (ED A i v) from memI_congr fun j hj => by unfold ED; rw [if_pos hj]]
  exact memI_snoc (by unfold ED; rw [if_neg (by omega)])
section
variable {n m : Nat} {L N P A B C : Nat → Int} {Q : Nat → List Nat}
theorem St.prev (h : St n m L N P A B C Q) {i k x : Nat} (hx : (Q i)[k]? = some x) : P x = if k = 0 then (-1 : Int) else ((nth 0 (Q i) (k - 1) : Nat) : Int) := by
  rw [(h.ch i _ x _ (at_k hx)).2, lst_take (Nat.le_of_lt (List.getElem?_eq_some_iff.1 hx).1)]
/-- Who has it behind him. -/
theorem St.next_of (h : St n m L N P A B C Q) {i k x s : Nat} (hx : (Q i)[k]? = some x) (hs : s < n) (hn : N s = (x : Int)) : 0 < k ∧ s = nth 0 (Q i) (k - 1) := by
  rcases h.fre s hs with ⟨_, h2, _⟩ | ⟨j, hj, _, hm⟩
  · omega
  · obtain ⟨X, Y, he⟩ := List.append_of_mem hm
    have hc := (h.ch j X s Y he).1
    rw [hn] at hc
    have hxY : x ∈ Y := hd_mem hc.symm
    have hxi : x ∈ Q i := List.mem_of_getElem? hx
    have hij : j = i := h.one (by rw [he]; exact List.mem_append_right _ (List.mem_cons_of_mem _ hxY)) hxi
    subst hij
    obtain ⟨y, Y', rfl⟩ : ∃ y Y', Y = y :: Y' := by cases Y with
      | nil => cases hxY
      | cons y Y' => exact ⟨y, Y', rfl⟩
    have hy : y = x := by simp only [hd] at hc; omega
    subst hy
    have e1 : (Q j)[X.length + 1]? = some y := by rw [he]; simp
    have hk : k = X.length + 1 := by
      have hnd := h.nd j
      obtain ⟨k1, e2⟩ := List.getElem?_eq_some_iff.1 hx
      obtain ⟨k2, e3⟩ := List.getElem?_eq_some_iff.1 e1
      exact (List.getElem_inj hnd).1 (e2.trans e3.symm)
    subst hk
    exact ⟨by omega, by rw [show X.length + 1 - 1 = X.length by omega, he, nth_mid]⟩
theorem St.next_is (h : St n m L N P A B C Q) {i k x : Nat} (hx : (Q i)[k]? = some x) (hk : 0 < k) : N (nth 0 (Q i) (k - 1)) = (x : Int) := by
  have hl := (List.getElem?_eq_some_iff.1 hx).1
  have h1 : (Q i)[k - 1]? = some (nth 0 (Q i) (k - 1)) := by rw [nth_get (by omega), List.getElem?_eq_getElem]
  have h2 := at_k h1
  rw [(h.ch i _ _ _ h2).1]
  have h3 : (Q i).drop (k - 1 + 1) = x :: (Q i).drop (k + 1) := by
    rw [show k - 1 + 1 = k by omega, List.drop_eq_getElem_cons hl]
    congr 1
    exact (List.getElem?_eq_some_iff.1 hx).2
  rw [h3]; rfl
theorem LD_0 : LD L Q 0 0 = fun _ => -1 := by funext s; unfold LD dn; simp
theorem ND_0 : ND N Q 0 0 = fun _ => -1 := by funext s; unfold ND dn; simp
theorem LD_next {i : Nat} : LD L Q (i + 1) 0 = LD L Q i (Q i).length := by funext s; unfold LD; rw [dn_next]
theorem ND_next {i : Nat} : ND N Q (i + 1) 0 = ND N Q i (Q i).length := by funext s; unfold ND; rw [dn_next]
theorem LD_s {i k x : Nat} (hx : (Q i)[k]? = some x) {v : Int} (hv : v = L x) : updI (LD L Q i k) x v = LD L Q i (k + 1) := by
  funext s; unfold updI LD
  by_cases e : s = x
  · rw [if_pos e, if_pos ((dn_s hx).2 (.inr e)), hv, e]
  · rw [if_neg e]
    by_cases hd : dn Q i k s = true
    · rw [if_pos hd, if_pos ((dn_s hx).2 (.inl hd))]
    · rw [if_neg hd, if_neg fun h => ((dn_s hx).1 h).elim hd e]
theorem PD_0 (h : St n m L N P A B C Q) {i x : Nat} (hx : (Q i)[0]? = some x) : LD P Q i 0 = LD P Q i (0 + 1) := by
  have hp := h.prev hx
  rw [if_pos rfl] at hp
  funext s; unfold LD
  by_cases hd : dn Q i 0 s = true
  · rw [if_pos hd, if_pos ((dn_s hx).2 (.inl hd))]
  · rw [if_neg hd]
    by_cases e : s = x
    · rw [if_pos ((dn_s hx).2 (.inr e)), e, hp]
    · rw [if_neg fun h => ((dn_s hx).1 h).elim hd e]
theorem St.nge (h : St n m L N P A B C Q) {s : Nat} (hs : s < n) : N s = -1 ∨ ∃ a : Nat, N s = (a : Int) := by
  rcases h.fre s hs with ⟨_, h2, _⟩ | ⟨j, hj, _, hm⟩
  · exact .inl h2
  · obtain ⟨X, Y, he⟩ := List.append_of_mem hm
    rw [(h.ch j X s Y he).1]
    rcases hd_ge (X := Y) with h1 | ⟨a, _, h1⟩
    · exact .inl h1
    · exact .inr ⟨a, h1⟩
theorem ND_keep (h : St n m L N P A B C Q) {i k x s : Nat} (hx : (Q i)[k]? = some x) (hsn : s < n) (hs : N s ≠ (x : Int)) : ND N Q i k s = ND N Q i (k + 1) s := by
  unfold ND
  rcases h.nge hsn with hn | ⟨a, hn⟩
  · rw [if_neg (fun h => h.1 hn), if_neg (fun h => h.1 hn)]
  · have e : dn Q i k (N s).toNat = dn Q i (k + 1) (N s).toNat := dn_congr (by
      rw [dn_s hx]
      constructor
      · exact .inl
      · rintro (h1 | h1)
        · exact h1
        · exfalso; omega)
    rw [e]
theorem ND_1 (h : St n m L N P A B C Q) {i x s : Nat} (hx : (Q i)[0]? = some x) (hsn : s < n) : ND N Q i 0 s = ND N Q i (0 + 1) s :=
  ND_keep h hx hsn fun e => by have := (h.next_of hx hsn e).1; omega
theorem ND_s (h : St n m L N P A B C Q) {i k x s : Nat} (hx : (Q i)[k]? = some x) (hk : 0 < k) (hsn : s < n) : updI (ND N Q i k) (nth 0 (Q i) (k - 1)) x s = ND N Q i (k + 1) s := by
  by_cases e : s = nth 0 (Q i) (k - 1)
  · have hn := h.next_is hx hk
    rw [← e] at hn
    rw [← e, updI_at]
    unfold ND
    rw [hn, if_pos ⟨by omega, (dn_s hx).2 (.inr (by omega))⟩]
  · rw [updI_ne e]
    exact ND_keep h hx hsn fun hn => e (h.next_of hx hsn hn).2
theorem dn_all (h : St n m L N P A B C Q) {s : Nat} : dn Q m 0 s = true ↔ ∃ j, s ∈ Q j := by
  rw [dn_iff]
  constructor
  · rintro (⟨j, _, h2⟩ | h2)
    · exact ⟨j, h2⟩
    · simp at h2
  · rintro ⟨j, hj⟩
    refine .inl ⟨j, Nat.lt_of_not_le fun hm => ?_, hj⟩
    rw [h.out j hm] at hj; cases hj
theorem LD_end (h : St n m L N P A B C Q) {s : Nat} (hs : s < n) : LD L Q m 0 s = L s := by
  unfold LD
  split
  · rfl
  · rename_i hd
    rw [dn_all h] at hd
    exact (h.unused hs fun j hj => hd ⟨j, hj⟩).symm
theorem PD_end (h : St n m L N P A B C Q) {s : Nat} (hs : s < n) : LD P Q m 0 s = P s := by
  unfold LD
  split
  · rfl
  · rename_i hd
    rw [dn_all h] at hd
    rcases h.fre s hs with ⟨_, _, h3⟩ | ⟨j, _, _, h3⟩
    · exact h3.symm
    · exact absurd ⟨j, h3⟩ hd
theorem ND_end (h : St n m L N P A B C Q) {s : Nat} (hs : s < n) : ND N Q m 0 s = N s := by
  unfold ND
  split
  · rfl
  · rename_i hd
    rcases h.fre s hs with ⟨_, h2, _⟩ | ⟨j, _, _, hm⟩
    · exact h2.symm
    · obtain ⟨X, Y, he⟩ := List.append_of_mem hm
      have hc := (h.ch j X s Y he).1
      rcases hd_ge (X := Y) with h1 | ⟨a, h1, h2⟩
      · rw [hc, h1]
      · exfalso
        refine hd ⟨by rw [hc, h2]; omega, (dn_all h).2 ⟨j, ?_⟩⟩
        rw [hc, h2, Int.toNat_natCast, he]
        exact List.mem_append_right _ (List.mem_cons_of_mem _ h1)
theorem ED_s {i : Nat} {v : Int} (hv : v = A i) : ∀ j, j < i + 1 → ED A i v j = A j := fun j hj => by
  unfold ED
  split
  · rfl
  · obtain rfl : j = i := by omega
    exact hv
theorem ED_set {i : Nat} {v w : Int} : ∀ j, j < i + 1 → updI (ED A i v) i w j = ED A i w j := fun j hj => by
  unfold updI ED
  by_cases e : j = i
  · subst e; rw [if_pos rfl, if_neg (by omega)]
  · rw [if_neg e, if_pos (by omega)]; rw [if_pos (by omega)]
end
end Go.Pol
