/-
  Plain law of LinksBroken: two states that differ in one number are not both those of lists.
-/
import Derived.Test.YtnddcnnangjgeaaMf
set_option linter.unusedSimpArgs false
set_option linter.unusedVariables false
namespace Go.Pol
section
variable {n m : Nat} {L N P A B C L' N' P' A' B' C' : Nat → Int} {Q Q' : Nat → List Nat}
theorem St.mem (h : St n m L N P A B C Q) {i s : Nat} (hs : s < n) (hL : L s = (i : Int)) : s ∈ Q i := by
  rcases h.fre s hs with ⟨h1, _⟩ | ⟨j, _, h2, h3⟩
  · omega
  · have e : j = i := by omega
    exact e ▸ h3
theorem St.nxt (h : St n m L N P A B C Q) {i s y : Nat} (hs : s ∈ Q i) (hN : N s = (y : Int)) : y ∈ Q i ∧ P y = (s : Int) := by
  obtain ⟨X, Y, he⟩ := List.append_of_mem hs
  have h1 := (h.ch i X s Y he).1
  rw [hN] at h1
  cases Y with
  | nil => simp only [hd] at h1; omega
  | cons z Y =>
    simp only [hd] at h1
    have e : z = y := by omega
    subst e
    refine ⟨by rw [he]; simp, ?_⟩
    have := (h.ch i (X ++ [s]) z Y (by rw [he]; simp)).2
    rw [this, lst_snoc]
theorem St.prv (h : St n m L N P A B C Q) {i s x : Nat} (hs : s ∈ Q i) (hP : P s = (x : Int)) : x ∈ Q i ∧ N x = (s : Int) := by
  obtain ⟨X, Y, he⟩ := List.append_of_mem hs
  have h1 := (h.ch i X s Y he).2
  rw [hP] at h1
  rcases List.eq_nil_or_concat X with rfl | ⟨R, z, rfl⟩
  · have : (-1 : Int) = lst [] := rfl
    omega
  · rw [List.concat_eq_append, lst_snoc] at h1
    have e : z = x := by omega
    subst e
    rw [List.concat_eq_append] at he
    refine ⟨by rw [he]; simp, ?_⟩
    have := (h.ch i R z (s :: Y) (by rw [he]; simp)).1
    rw [this]; rfl
theorem St.fst (h : St n m L N P A B C Q) {i s : Nat} (hi : i < m) (hs : s ∈ Q i) : P s = -1 ↔ A i = (s : Int) := by
  obtain ⟨X, Y, he⟩ := List.append_of_mem hs
  rw [(h.ch i X s Y he).2, (h.en i hi).1, lst_neg]
  constructor
  · rintro rfl; rw [he]; rfl
  · intro e
    cases X with
    | nil => rfl
    | cons z X =>
      rw [he] at e
      simp only [hd, List.cons_append] at e
      have e2 : z = s := by omega
      subst e2
      have := h.nd i
      rw [he, List.cons_append, List.nodup_cons] at this
      exact absurd (by simp) this.1
theorem St.last (h : St n m L N P A B C Q) {i s : Nat} (hi : i < m) (hs : s ∈ Q i) : N s = -1 ↔ B i = (s : Int) := by
  obtain ⟨X, Y, he⟩ := List.append_of_mem hs
  rw [(h.ch i X s Y he).1, (h.en i hi).2.1, hd_neg]
  constructor
  · rintro rfl; rw [he, lst_snoc]
  · intro e
    rw [he, lst_appc] at e
    by_cases hY : Y = []
    · exact hY
    · rw [if_neg hY] at e
      have hm := lst_mem e
      have := h.nd i
      rw [he] at this
      have h2 := (List.nodup_append.1 this).2.1
      rw [List.nodup_cons] at h2
      exact absurd hm h2.1
theorem St.ge (h : St n m L N P A B C Q) {s : Nat} (hs : s < n) : (L s = -1 ∧ N s = -1 ∧ P s = -1) ∨ ∃ i, i < m ∧ L s = (i : Int) ∧ s ∈ Q i := h.fre s hs
theorem St.nG (h : St n m L N P A B C Q) {s : Nat} (hs : s < n) : N s = -1 ∨ ∃ y : Nat, N s = (y : Int) := h.nge hs
theorem St.pG (h : St n m L N P A B C Q) {s : Nat} (hs : s < n) : P s = -1 ∨ ∃ y : Nat, P s = (y : Int) := by
  rcases h.fre s hs with h1 | ⟨i, _, _, hm⟩
  · exact .inl h1.2.2
  · obtain ⟨X, Y, he⟩ := List.append_of_mem hm
    rw [(h.ch i X s Y he).2]
    rcases lst_ge (X := X) with h1 | ⟨a, _, h2⟩
    · exact .inl h1
    · exact .inr ⟨a, h2⟩
/-- Who is in a list by one state's numbers is in it by the other's, if they differ at most in its own list. -/
theorem same_list (h : St n m L N P A B C Q) (h' : St n m L' N P A B C' Q') {k j : Nat} (hk : k < n) (hL : ∀ s, s < n → s ≠ k → L' s = L s) (hj : k ∈ Q' j) : L k = (j : Int) := by
  have hjm : j < m := Nat.lt_of_not_le fun hh => by rw [h'.out j hh] at hj; cases hj
  rcases h'.pG hk with hp | ⟨p, hp⟩
  · have hA := (h'.fst hjm hj).1 hp
    have : k ∈ Q j := hd_mem ((h.en j hjm).1.symm.trans hA)
    exact (h.us j k this).2
  · obtain ⟨h1, h2⟩ := h'.prv hj hp
    have hpn := (h'.us j p h1).1
    have hne : p ≠ k := fun e => by
      subst e
      obtain ⟨X, Y, he⟩ := List.append_of_mem hj
      have := (h'.ch j X p Y he).2
      rw [hp] at this
      have hm := lst_mem this.symm
      have hnd := h'.nd j
      rw [he] at hnd
      exact (List.nodup_append.1 hnd).2.2 _ hm _ (List.mem_cons_self ..) rfl
    have hLp := (h'.us j p h1).2
    rw [hL p hpn hne] at hLp
    exact (h.us j k (h.nxt (h.mem hpn hLp) h2).1).2
theorem diff_L (h : St n m L N P A B C Q) {k : Nat} {v : Int} (hk : k < n) (hv : v ≠ L k) (h' : St n m (updI L k v) N P A B C' Q') : False := by
  have hu : ∀ s, s < n → s ≠ k → updI L k v s = L s := fun s _ hs => updI_ne hs
  rcases h'.ge hk with ⟨h1, _⟩ | ⟨j, _, h1, h2⟩
  · rw [updI_at] at h1
    rcases h.ge hk with ⟨h3, _⟩ | ⟨j, _, h3, h4⟩
    · exact hv (h1.trans h3.symm)
    · have := same_list h' h hk (fun s hs hne => (hu s hs hne).symm) h4
      rw [updI_at] at this; omega
  · have := same_list h h' hk hu h2
    rw [updI_at] at h1; omega
theorem diff_N (h : St n m L N P A B C Q) {k : Nat} {v : Int} (hk : k < n) (hv : v ≠ N k) (h' : St n m L (updI N k v) P A B C' Q') : False := by
  have hN' : updI N k v k = v := updI_at ..
  rcases h.ge hk with ⟨h1, h2, _⟩ | ⟨i, hi, h1, h2⟩
  · rcases h'.ge hk with ⟨_, h4, _⟩ | ⟨j, _, h3, _⟩
    · exact hv (by omega)
    · omega
  · have hm := h'.mem hk h1
    rcases h.nG hk with e | ⟨y, e⟩
    · have := (h'.last hi hm).2 ((h.last hi h2).1 e)
      omega
    · obtain ⟨h3, h4⟩ := h.nxt h2 e
      have hy := h.us i y h3
      obtain ⟨h5, h6⟩ := h'.prv (h'.mem hy.1 hy.2) h4
      omega
theorem diff_P (h : St n m L N P A B C Q) {k : Nat} {v : Int} (hk : k < n) (hv : v ≠ P k) (h' : St n m L N (updI P k v) A B C' Q') : False := by
  have hP' : updI P k v k = v := updI_at ..
  rcases h.ge hk with ⟨h1, _, h2⟩ | ⟨i, hi, h1, h2⟩
  · rcases h'.ge hk with ⟨_, _, h4⟩ | ⟨j, _, h3, _⟩
    · exact hv (by omega)
    · omega
  · have hm := h'.mem hk h1
    rcases h.pG hk with e | ⟨x, e⟩
    · have := (h'.fst hi hm).2 ((h.fst hi h2).1 e)
      omega
    · obtain ⟨h3, h4⟩ := h.prv h2 e
      have hx := h.us i x h3
      obtain ⟨h5, h6⟩ := h'.nxt (h'.mem hx.1 hx.2) h4
      omega
theorem empty_same (h : St n m L N P A B C Q) (h' : St n m L N' P' A' B' C' Q') {i : Nat} (he : Q i = []) : Q' i = [] := by
  cases hq : Q' i with
  | nil => rfl
  | cons y Y =>
    have hy := h'.us i y (by rw [hq]; simp)
    have := h.mem hy.1 hy.2
    rw [he] at this; cases this
theorem diff_A (h : St n m L N P A B C Q) {i : Nat} {v : Int} (hi : i < m) (hv : v ≠ A i) (h' : St n m L N P (updI A i v) B C' Q') : False := by
  have hA' : updI A i v i = v := updI_at ..
  have e1 := (h.en i hi).1
  have e2 := (h'.en i hi).1
  rcases hd_ge (X := Q i) with hd | ⟨y, hy, hd⟩
  · have := empty_same h h' (hd_neg.1 hd)
    rw [this] at e2
    have : Go.Pol.hd [] = -1 := rfl
    omega
  · have hyn := h.us i y hy
    have hp := (h.fst hi hy).2 (e1.trans hd)
    have := (h'.fst hi (h'.mem hyn.1 hyn.2)).1 hp
    omega
theorem diff_B (h : St n m L N P A B C Q) {i : Nat} {v : Int} (hi : i < m) (hv : v ≠ B i) (h' : St n m L N P A (updI B i v) C' Q') : False := by
  have hB' : updI B i v i = v := updI_at ..
  have e1 := (h.en i hi).2.1
  have e2 := (h'.en i hi).2.1
  rcases lst_ge (X := Q i) with hd | ⟨y, hy, hd⟩
  · have := empty_same h h' (lst_neg.1 hd)
    rw [this] at e2
    have : lst [] = -1 := rfl
    omega
  · have hyn := h.us i y hy
    have hp := (h.last hi hy).2 (e1.trans hd)
    have := (h'.last hi (h'.mem hyn.1 hyn.2)).1 hp
    omega
/-- A state that is that of no lists is refused. -/
theorem says_no {s1 s2 s3 : Nat} (hs : Stops n m L N P A B s1 s2 s3) (hn : ∀ C Q, ¬ St n m L N P A B C Q) : ∃ w i, saysA n m s1 s2 s3 = wrongA w i := by
  have l1 := hs.le1
  have l2 := hs.le2
  have l3 := hs.le3
  by_cases hok : s1 = n ∧ s2 = m ∧ s3 = n
  · obtain ⟨e1, e2, e3⟩ := hok
    exact absurd (st_of (fun j hj => hs.ok1 j (by omega)) (fun j hj => hs.ok2 j (by omega)) (fun j hj => hs.ok3 j (by omega))) (hn _ _)
  · unfold saysA
    by_cases e1 : s1 < n
    · exact ⟨_, _, if_pos e1⟩
    · rw [if_neg e1]
      by_cases e2 : s2 < m
      · exact ⟨_, _, if_pos e2⟩
      · rw [if_neg e2]
        exact ⟨_, _, if_pos (by omega)⟩
theorem pth_St (h : St n m L N P A B C Q) {i : Nat} (hi : i < m) : ∀ k, k ≤ (Q i).length → pth n L N P A i k = ((Q i).take k, hd ((Q i).drop k))
  | 0, _ => by rw [pth_0, (h.en i hi).1]; simp
  | k + 1, hk => by
    have e := pth_St h hi k (by omega)
    have hkl : k < (Q i).length := hk
    have hd0 : hd ((Q i).drop k) = (nth 0 (Q i) k : Nat) := by rw [nth_get hkl, List.drop_eq_getElem_cons hkl]; rfl
    have hx := h.us i _ (nth_mem (d := 0) hkl)
    have he : (Q i) = (Q i).take k ++ nth 0 (Q i) k :: (Q i).drop (k + 1) := by rw [nth_get hkl, ← List.drop_eq_getElem_cons hkl, List.take_append_drop]
    have hc := h.ch i _ _ _ he
    have hok : okAt n L P i (lst (pth n L N P A i k).1) (pth n L N P A i k).2 := by
      rw [e]
      refine ⟨by rw [hd0]; omega, by rw [hd0]; omega, ?_, ?_⟩
      · rw [hd0, Int.toNat_natCast]; exact hx.2
      · rw [hd0, Int.toNat_natCast]; exact hc.2
    rw [pth_s hok, e]
    dsimp only
    rw [hd0, Int.toNat_natCast, hc.1, ← take_nth hkl]
theorem q_St (h : St n m L N P A B C Q) {i : Nat} (hi : i < m) : qOf n L N P A i = Q i ∧ eOf n L N P A i = -1 := by
  have e := pth_St h hi (Q i).length (Nat.le_refl _)
  rw [List.take_length, List.drop_of_length_le (Nat.le_refl _)] at e
  have hen := pth_end (n := n) (L := L) (N := N) (P := P) (A := A) (i := i) (k := (Q i).length) (by rw [e]) (by
    rw [e]
    rintro ⟨h1, _⟩
    have : Go.Pol.hd [] = -1 := rfl
    dsimp only at h1
    omega)
  unfold qOf eOf
  rw [hen, e]
  exact ⟨rfl, rfl⟩
/-- A state that is that of lists is found fine. -/
theorem says_yes (h : St n m L N P A B C Q) {s1 s2 s3 : Nat} (hs : Stops n m L N P A B s1 s2 s3) : saysA n m s1 s2 s3 = fineA := by
  have l1 := hs.le1
  have l2 := hs.le2
  have l3 := hs.le3
  have hlt : ∀ {s y : Nat}, s < n → (N s = (y : Int) ∨ P s = (y : Int)) → y < n := fun {s y} hs hy => by
    rcases h.ge hs with ⟨_, h2, h3⟩ | ⟨i, _, _, hm⟩
    · omega
    · rcases hy with hy | hy
      · exact (h.us i y (h.nxt hm hy).1).1
      · exact (h.us i y (h.prv hm hy).1).1
  have hok : ∀ j, j < n → slotOk n m L N P j := fun j hj => by
    have hn : -1 ≤ N j ∧ N j < (n : Int) := by
      rcases h.nG hj with e | ⟨y, e⟩
      · omega
      · have := hlt hj (.inl e); omega
    have hp : -1 ≤ P j ∧ P j < (n : Int) := by
      rcases h.pG hj with e | ⟨y, e⟩
      · omega
      · have := hlt hj (.inr e); omega
    rcases h.ge hj with ⟨h1, h2, h3⟩ | ⟨i, hi, h1, _⟩
    · exact ⟨by omega, by omega, hn.1, hn.2, hp.1, hp.2, fun _ => ⟨h2, h3⟩⟩
    · exact ⟨by omega, by omega, hn.1, hn.2, hp.1, hp.2, fun e => by omega⟩
  have e1 : s1 = n := Nat.le_antisymm l1 (Nat.le_of_not_lt fun hh => hs.no1 hh (hok _ hh))
  have e2 : s2 = m := Nat.le_antisymm l2 (Nat.le_of_not_lt fun hh => hs.no2 hh (by
    obtain ⟨q1, q2⟩ := q_St h hh
    exact ⟨q2, by rw [q1]; exact (h.en s2 hh).2.1⟩))
  have e3 : s3 = n := Nat.le_antisymm l3 (Nat.le_of_not_lt fun hh => by
    obtain ⟨h1, h2⟩ := hs.no3 hh
    rcases h.ge hh with ⟨h3, _⟩ | ⟨i, hi, _, hm⟩
    · exact h1 h3
    · exact h2 i hi (by rw [(q_St h hi).1]; exact hm))
  rw [saysA, if_neg (by omega), if_neg (by omega), if_neg (by omega)]
end
end Go.Pol
