/-
  A region that draws its order: whatever order is drawn, it comes to what one walk in the order of the text has shown. No program in sight.
-/
import Derived.Test.YtggkpagngnnjjaaAmDraw
set_option linter.unusedSimpArgs false
set_option linter.unusedVariables false
namespace Go.Am
/-- S with one operation more. -/
def adj (S : Nat → Bool) (k : Nat) : Nat → Bool := fun i => S i || i == k
theorem setO_comm {fr : List AV} {d e : Option Nat} {v u : AV} (h : ∀ n ∈ d.toList, n ∉ e.toList) : setO (setO fr d v) e u = setO (setO fr e u) d v := by
  cases d with
  | none => rfl
  | some d =>
    cases e with
    | none => rfl
    | some e =>
      have : d ≠ e := fun x => h d (by simp) (by simp [x])
      simp only [setO]
      rw [List.set_comm _ _ this]
theorem upd_comm {at_ : At} {up1 up2 : Up} (h : ∀ i ∈ up1.map (·.1), i ∉ up2.map (·.1)) : upd (upd at_ up1) up2 = upd (upd at_ up2) up1 := by
  funext i
  by_cases h1 : i ∈ up1.map (·.1)
  · rw [upd_ne (h i h1)]
    exact upd_same (upd_ne (h i h1)).symm up1
  · rw [upd_ne h1]
    exact upd_same (upd_ne h1) up2
theorem apF_put {d : Option Nat} {v : AV} : ∀ (L : List Rec) (S : Nat → Bool) (k : Nat) (fr : List AV), (∀ (q : Nat) r, L[q]? = some r → S (k + q) = true → ∀ n ∈ d.toList, n ∉ r.o.dst.toList) → apF L S k (setO fr d v) = setO (apF L S k fr) d v
  | [], _, _, _, _ => rfl
  | r :: L, S, k, fr, h => by
    simp only [apF]
    have ih := fun fr => apF_put (d := d) (v := v) L S (k + 1) fr fun q r' hq hs => h (q + 1) r' (by simpa using hq) (by rw [show k + (q + 1) = k + 1 + q by omega]; exact hs)
    split
    · rename_i hs
      rw [setO_comm (h 0 r rfl (by simpa using hs)), ih]
    · rw [ih]
theorem apH_put {up : Up} : ∀ (L : List Rec) (S : Nat → Bool) (k : Nat) (at_ : At), (∀ (q : Nat) r, L[q]? = some r → S (k + q) = true → ∀ i ∈ up.map (·.1), i ∉ r.up.map (·.1)) → apH L S k (upd at_ up) = upd (apH L S k at_) up
  | [], _, _, _, _ => rfl
  | r :: L, S, k, at_, h => by
    simp only [apH]
    have ih := fun at_ => apH_put (up := up) L S (k + 1) at_ fun q r' hq hs => h (q + 1) r' (by simpa using hq) (by rw [show k + (q + 1) = k + 1 + q by omega]; exact hs)
    split
    · rename_i hs
      rw [upd_comm (h 0 r rfl (by simpa using hs)), ih]
    · rw [ih]
/-- One operation more, of whose slots nothing behind it in the text has been written. -/
theorem apF_adj {r : Rec} : ∀ (L : List Rec) (S : Nat → Bool) (k q : Nat) (fr : List AV), L[q]? = some r → S (k + q) = false → (∀ (p : Nat) r', L[p]? = some r' → q < p → S (k + p) = true → ∀ n ∈ r.o.dst.toList, n ∉ r'.o.dst.toList) →
    apF L (adj S (k + q)) k fr = setO (apF L S k fr) r.o.dst r.v
  | [], _, _, _, _, h, _, _ => by simp at h
  | r0 :: L, S, k, 0, fr, hq, hS, h => by
    simp at hq
    subst hq
    rw [Nat.add_zero] at hS
    simp only [apF, hS, Nat.add_zero, adj, beq_self_eq_true, Bool.or_true, if_true, Bool.false_eq_true, if_false]
    have hsame : ∀ (L : List Rec) (k' : Nat) (fr : List AV), k < k' → apF L (adj S k) k' fr = apF L S k' fr := by
      intro L
      induction L with
      | nil => intro k' fr _; rfl
      | cons r L ih =>
        intro k' fr hk
        simp only [apF]
        have : adj S k k' = S k' := by simp [adj]; intro e; omega
        rw [this]; exact ih _ _ (by omega)
    have e1 := hsame L (k + 1) (setO fr r0.o.dst r0.v) (by omega)
    rw [e1]
    exact apF_put L S (k + 1) fr fun p r' hp hs => h (p + 1) r' (by simpa using hp) (by omega) (by rw [show k + (p + 1) = k + 1 + p by omega]; exact hs)
  | r0 :: L, S, k, q + 1, fr, hq, hS, h => by
    simp only [apF]
    have hk : adj S (k + (q + 1)) k = S k := by simp [adj]
    rw [hk, show k + (q + 1) = k + 1 + q by omega]
    exact apF_adj L S (k + 1) q _ (by simpa using hq) (by rw [show k + 1 + q = k + (q + 1) by omega]; exact hS) fun p r' hp hlt hs => h (p + 1) r' (by simpa using hp) (by omega) (by rw [show k + (p + 1) = k + 1 + p by omega]; exact hs)
theorem apH_adj {r : Rec} : ∀ (L : List Rec) (S : Nat → Bool) (k q : Nat) (at_ : At), L[q]? = some r → S (k + q) = false → (∀ (p : Nat) r', L[p]? = some r' → q < p → S (k + p) = true → ∀ i ∈ r.up.map (·.1), i ∉ r'.up.map (·.1)) →
    apH L (adj S (k + q)) k at_ = upd (apH L S k at_) r.up
  | [], _, _, _, _, h, _, _ => by simp at h
  | r0 :: L, S, k, 0, at_, hq, hS, h => by
    simp at hq
    subst hq
    rw [Nat.add_zero] at hS
    simp only [apH, hS, Nat.add_zero, adj, beq_self_eq_true, Bool.or_true, if_true, Bool.false_eq_true, if_false]
    have hsame : ∀ (L : List Rec) (k' : Nat) (at_ : At), k < k' → apH L (adj S k) k' at_ = apH L S k' at_ := by
      intro L
      induction L with
      | nil => intro k' at_ _; rfl
      | cons r L ih =>
        intro k' at_ hk
        simp only [apH]
        have : adj S k k' = S k' := by simp [adj]; intro e; omega
        rw [this]; exact ih _ _ (by omega)
    have e1 := hsame L (k + 1) (upd at_ r0.up) (by omega)
    rw [e1]
    exact apH_put L S (k + 1) at_ fun p r' hp hs => h (p + 1) r' (by simpa using hp) (by omega) (by rw [show k + (p + 1) = k + 1 + p by omega]; exact hs)
  | r0 :: L, S, k, q + 1, at_, hq, hS, h => by
    simp only [apH]
    have hk : adj S (k + (q + 1)) k = S k := by simp [adj]
    rw [hk, show k + (q + 1) = k + 1 + q by omega]
    exact apH_adj L S (k + 1) q _ (by simpa using hq) (by rw [show k + 1 + q = k + (q + 1) by omega]; exact hS) fun p r' hp hlt hs => h (p + 1) r' (by simpa using hp) (by omega) (by rw [show k + (p + 1) = k + 1 + p by omega]; exact hs)
/-- The walk's own states: those in which what stands before in the text has been done. -/
theorem tr_at {P : Program} {G : Gl} : ∀ (L : List Rec) (fr : List AV) (h : Hp) (k q : Nat) (r : Rec), TrOk P G L fr h → L[q]? = some r → ∃ fr' h', RecOk P G r fr' h' ∧ fr' = apF L (fun i => decide (i < k + q)) k fr ∧ lk h'.l = apH L (fun i => decide (i < k + q)) k (lk h.l) ∧ h'.next = h.next + q
  | [], _, _, _, _, _, _, h => by simp at h
  | r0 :: L, fr, h, k, 0, r, ht, hq => by
    simp at hq
    subst hq
    have nF : ∀ (L : List Rec) (k' : Nat) (fr : List AV), k ≤ k' → apF L (fun i => decide (i < k + 0)) k' fr = fr := by
      intro L
      induction L with
      | nil => intro k' fr _; rfl
      | cons r L ih => intro k' fr hk; simp only [apF]; rw [if_neg (by simp; omega)]; exact ih _ _ (by omega)
    have nH : ∀ (L : List Rec) (k' : Nat) (at_ : At), k ≤ k' → apH L (fun i => decide (i < k + 0)) k' at_ = at_ := by
      intro L
      induction L with
      | nil => intro k' fr _; rfl
      | cons r L ih => intro k' fr hk; simp only [apH]; rw [if_neg (by simp; omega)]; exact ih _ _ (by omega)
    exact ⟨fr, h, ht.1, (nF _ k fr (Nat.le_refl _)).symm, (nH _ k _ (Nat.le_refl _)).symm, rfl⟩
  | r0 :: L, fr, h, k, q + 1, r, ht, hq => by
    obtain ⟨fr', h', h1, h2, h3, h4⟩ := tr_at L _ _ (k + 1) q r ht.2 (by simpa using hq)
    refine ⟨fr', h', h1, ?_, ?_, by rw [h4]; simp [Hp.appD]; omega⟩
    · simp only [apF]
      rw [if_pos (by simp), show k + (q + 1) = k + 1 + q by omega]; exact h2
    · simp only [apH]
      rw [if_pos (by simp), show k + (q + 1) = k + 1 + q by omega, h3]
      simp only [Hp.appD, lk_puts]
theorem fin_all : ∀ (L : List Rec) (fr : List AV) (h : Hp) (k : Nat) (S : Nat → Bool), (∀ q, q < L.length → S (k + q) = true) → finF L fr = apF L S k fr ∧ lk (finH L h).l = apH L S k (lk h.l) ∧ (finH L h).next = h.next + L.length
  | [], _, _, _, _, _ => ⟨rfl, rfl, rfl⟩
  | r :: L, fr, h, k, S, hS => by
    obtain ⟨h1, h2, h3⟩ := fin_all L (setO fr r.o.dst r.v) (h.appD r.up) (k + 1) S fun q hq => by rw [show k + 1 + q = k + (q + 1) by omega]; exact hS (q + 1) (by simp; omega)
    have h0 : S k = true := hS 0 (by simp)
    refine ⟨?_, ?_, ?_⟩
    · simp only [finF, apF, h0, if_true]; exact h1
    · simp only [finH, apH, h0, if_true]; rw [h2]; simp only [Hp.appD, lk_puts]
    · simp only [finH]; rw [h3]; simp [Hp.appD]; omega
end Go.Am
