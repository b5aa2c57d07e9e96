/-
  Plain laws: the runs of the bytes of cuts that lie as they should are these cuts; the number whose bits they are. No program in sight.
-/
import Derived.Test.YtjhmknnokloneaaDoorMerge
set_option linter.unusedSimpArgs false
set_option linter.unusedVariables false
namespace Go.Pol
/-- Is a byte in one of the cuts? -/
def inCuts (l : List Cut) (b : Nat) : Bool := l.any fun c => decide (c.1 ≤ (b : Int) ∧ (b : Int) < c.1 + c.2)
theorem inCuts_append (l l' : List Cut) (b : Nat) : inCuts (l ++ l') b = (inCuts l b || inCuts l' b) := by simp [inCuts]
theorem inCuts_one (c : Cut) (b : Nat) : inCuts [c] b = decide (c.1 ≤ (b : Int) ∧ (b : Int) < c.1 + c.2) := by simp [inCuts]
theorem inCuts_false {l : List Cut} {b : Nat} (h : ∀ c ∈ l, ¬ (c.1 ≤ (b : Int) ∧ (b : Int) < c.1 + c.2)) : inCuts l b = false := by
  simp only [inCuts, List.any_eq_false, decide_eq_true_eq]
  exact h
theorem Sep.snoc : ∀ {l : List Cut} {a : Int} {c : Cut}, Sep a l → a ≤ c.1 → (∀ d ∈ l, d.1 + d.2 + 1 ≤ c.1) → 1 ≤ c.2 → c.1 + c.2 ≤ 64 → Sep a (l ++ [c])
  | [], _, _, _, h1, _, h3, h4 => ⟨h1, h3, h4, trivial⟩
  | d :: l, _, _, h, _, h2, h3, h4 => ⟨h.1, h.2.1, h.2.2.1, Sep.snoc h.2.2.2 (h2 d (by simp)) (fun x hx => h2 x (by simp [hx])) h3 h4⟩
theorem Sep.init : ∀ {l : List Cut} {a : Int} {c : Cut}, Sep a (l ++ [c]) → Sep a l ∧ a ≤ c.1 ∧ (∀ d ∈ l, d.1 + d.2 + 1 ≤ c.1) ∧ 1 ≤ c.2 ∧ c.1 + c.2 ≤ 64
  | [], _, _, h => ⟨trivial, h.1, by simp, h.2.1, h.2.2.1⟩
  | d :: l, a, c, h => by
    obtain ⟨h1, h2, h3, h4, h5⟩ := Sep.init h.2.2.2
    have := h.1
    have := h.2.1
    exact ⟨⟨h.1, h.2.1, h.2.2.1, h1⟩, by omega, fun x hx => by
      rcases List.mem_cons.1 hx with rfl | hx
      · exact h2
      · exact h3 x hx, h4, h5⟩
theorem Sep.all : ∀ {l : List Cut} {a : Int}, Sep a l → ∀ c ∈ l, a ≤ c.1 ∧ 1 ≤ c.2 ∧ c.1 + c.2 ≤ 64
  | [], _, _, c, hc => by simp at hc
  | d :: l, a, h, c, hc => by
    rcases List.mem_cons.1 hc with rfl | hc
    · exact ⟨h.1, h.2.1, h.2.2.1⟩
    · have := h.2.2.2.all c hc
      have := h.1
      have := h.2.1
      exact ⟨by omega, by omega, by omega⟩
/-- What holds of the runs below n. -/
theorem runs_ok (m : Nat → Bool) : ∀ n : Nat, n ≤ 64 → Sep 0 (runs m n) ∧ (∀ c ∈ runs m n, c.1 + c.2 ≤ (n : Int)) ∧ (0 < n → m (n - 1) = false → ∀ c ∈ runs m n, c.1 + c.2 < (n : Int)) ∧
    (0 < n → m (n - 1) = true → ∃ (l : List Cut) (c : Cut), runs m n = l ++ [c] ∧ c.1 + c.2 = (n : Int))
  | 0, _ => ⟨trivial, by simp [runs], fun h => by omega, fun h => by omega⟩
  | n + 1, hn => by
    obtain ⟨h1, h2, h3, h4⟩ := runs_ok m n (by omega)
    have e : runs m (n + 1) = stepRun m (runs m n) n := rfl
    rw [e]
    unfold stepRun
    by_cases hm : m n = true
    · rw [if_pos hm]
      by_cases hp : 0 < n ∧ m (n - 1) = true
      · rw [if_pos hp]
        obtain ⟨l, c, hl, hc⟩ := h4 hp.1 hp.2
        rw [hl, bump_snoc]
        rw [hl] at h1 h2
        obtain ⟨g1, g2, g3, g4, g5⟩ := h1.init
        refine ⟨Sep.snoc g1 g2 g3 (by first | omega | (simp; omega)) (by first | omega | (simp; omega)), ?_, ?_, fun _ _ => ⟨l, _, rfl, by simp; omega⟩⟩
        · intro d hd
          rcases List.mem_append.1 hd with hd | hd
          · have := h2 d (by simp [hd]); simp; omega
          · simp at hd; subst hd; simp; omega
        · intro _ hf
          simp [hm] at hf
      · rw [if_neg hp]
        have hlt : ∀ c ∈ runs m n, c.1 + c.2 + 1 ≤ (n : Int) := fun c hc => by
          rcases Nat.eq_zero_or_pos n with h0 | h0
          · subst h0; simp [runs] at hc
          · have := h3 h0 (by simpa [h0] using hp) c hc
            omega
        refine ⟨Sep.snoc h1 (by simp) hlt (by simp) (by first | omega | (simp; omega)), ?_, ?_, fun _ _ => ⟨_, _, rfl, by simp⟩⟩
        · intro d hd
          rcases List.mem_append.1 hd with hd | hd
          · have := h2 d hd; simp; omega
          · simp at hd; subst hd; simp
        · intro _ hf
          simp [hm] at hf
    · rw [if_neg hm]
      refine ⟨h1, fun c hc => by have := h2 c hc; simp; omega, fun _ _ c hc => by have := h2 c hc; simp; omega, fun _ hf => by simp [hm] at hf⟩
theorem runs_sep (m : Nat → Bool) : Sep 0 (runs m 64) := (runs_ok m 64 (by omega)).1
theorem sep_runs_to : ∀ (k : Nat) (l : List Cut), l.length = k → Sep 0 l → ∀ n : Nat, n ≤ 64 → (∀ c ∈ l, c.1 + c.2 ≤ (n : Int)) → runs (inCuts l) n = l
  | 0, l, hl, _, n, _, _ => by
    have : l = [] := List.eq_nil_of_length_eq_zero hl
    subst this
    have := runs_const (inCuts []) 0 n fun b _ _ => rfl
    rw [Nat.zero_add] at this
    exact this
  | k + 1, l, hl, hs, n, hn, he => by
    rcases List.eq_nil_or_concat l with rfl | ⟨l', c, rfl⟩
    · simp at hl
    · rw [List.concat_eq_append] at *
      obtain ⟨h1, h2, h3, h4, h5⟩ := hs.init
      have hcn := he c (by simp)
      obtain ⟨f, hf⟩ := Int.eq_ofNat_of_zero_le h2
      obtain ⟨q, hq⟩ : ∃ q : Nat, c.2 = ((q + 1 : Nat) : Int) := ⟨(c.2 - 1).toNat, by omega⟩
      have hends : ∀ d ∈ l', d.1 + d.2 ≤ (f : Int) - 1 := fun d hd => by have := h3 d hd; omega
      have ih := sep_runs_to k l' (by simpa using hl) h1 f (by omega) (fun d hd => by have := hends d hd; omega)
      have e1 : runs (inCuts (l' ++ [c])) f = l' := (runs_congr f fun b hb => by
          rw [inCuts_append, inCuts_one]
          have : decide (c.1 ≤ (b : Int) ∧ (b : Int) < c.1 + c.2) = false := by simp; omega
          rw [this, Bool.or_false]).trans ih
      have e2 := runs_run (inCuts (l' ++ [c])) f (by
        rcases Nat.eq_zero_or_pos f with h0 | h0
        · exact .inl h0
        · right
          rw [inCuts_append, inCuts_one, inCuts_false fun d hd hx => by have := hends d hd; omega]
          simp; omega) q (fun b h1 h2 => by
          rw [inCuts_append, inCuts_one]
          have : decide (c.1 ≤ (b : Int) ∧ (b : Int) < c.1 + c.2) = true := by simp; omega
          rw [this]; simp)
      have e3 := runs_const (inCuts (l' ++ [c])) (f + (q + 1)) (n - (f + (q + 1))) (fun b h1 h2 => by
        apply inCuts_false
        intro d hd hx
        rcases List.mem_append.1 hd with hd | hd
        · have := hends d hd; omega
        · simp at hd; subst hd; omega)
      rw [show f + (q + 1) + (n - (f + (q + 1))) = n by omega] at e3
      rw [e3, e2, e1, ← hq]
      have : ((f : Int), c.2) = c := Prod.ext (by first | omega | (simp; omega)) rfl
      rw [this]
theorem sep_runs {l : List Cut} (h : Sep 0 l) : runs (inCuts l) 64 = l := sep_runs_to _ l rfl h 64 (Nat.le_refl _) fun c hc => (h.all c hc).2.2
theorem inCuts_runs (m : Nat → Bool) : ∀ n : Nat, n ≤ 64 → ∀ b : Nat, inCuts (runs m n) b = (decide (b < n) && m b)
  | 0, _, b => by simp [runs, inCuts]
  | n + 1, hn, b => by
    have ih := inCuts_runs m n (by omega) b
    obtain ⟨h1, h2, h3, h4⟩ := runs_ok m n (by omega)
    have e : runs m (n + 1) = stepRun m (runs m n) n := rfl
    rw [e]
    unfold stepRun
    by_cases hm : m n = true
    · rw [if_pos hm]
      by_cases hp : 0 < n ∧ m (n - 1) = true
      · rw [if_pos hp]
        obtain ⟨l, c, hl, hc⟩ := h4 hp.1 hp.2
        rw [hl] at ih h1 ⊢
        have hc1 := h1.init.2.1
        have hc2 := h1.init.2.2.2.1
        rw [bump_snoc, inCuts_append, inCuts_one]
        rw [inCuts_append, inCuts_one] at ih
        by_cases hb : b = n
        · subst hb
          have : decide (c.1 ≤ (b : Int) ∧ (b : Int) < c.1 + (c.2 + 1)) = true := by simp; omega
          simp only [this, hm]
          simp
        · have : decide (c.1 ≤ (b : Int) ∧ (b : Int) < c.1 + (c.2 + 1)) = decide (c.1 ≤ (b : Int) ∧ (b : Int) < c.1 + c.2) := by
            rw [Bool.eq_iff_iff]; simp; omega
          simp only [this, ih]
          have : decide (b < n + 1) = decide (b < n) := by rw [Bool.eq_iff_iff]; simp; omega
          rw [this]
      · rw [if_neg hp, inCuts_append, inCuts_one, ih]
        by_cases hb : b = n
        · subst hb; simp [hm]; omega
        · have e1 : decide ((((n : Int), (1 : Int)) : Cut).1 ≤ (b : Int) ∧ (b : Int) < (((n : Int), (1 : Int)) : Cut).1 + (((n : Int), (1 : Int)) : Cut).2) = false := by simp; omega
          have e2 : decide (b < n + 1) = decide (b < n) := by rw [Bool.eq_iff_iff]; simp; omega
          rw [e1, e2]; simp
    · rw [if_neg hm, ih]
      by_cases hb : b = n
      · subst hb; simp [hm]
      · have e2 : decide (b < n + 1) = decide (b < n) := by rw [Bool.eq_iff_iff]; simp; omega
        rw [e2]

/-! ### the number -/
/-- The number whose bits are the bytes of a run. -/
def runM (c : Cut) : Nat := (2 ^ c.2.toNat - 1) * 2 ^ c.1.toNat
def unionM (l : List Cut) : Nat := l.foldl (fun m c => m ||| runM c) 0
theorem runM_bit (c : Cut) (h0 : 0 ≤ c.1) (h1 : 0 ≤ c.2) (b : Nat) : (runM c).testBit b = decide (c.1 ≤ (b : Int) ∧ (b : Int) < c.1 + c.2) := by
  unfold runM
  rw [Nat.mul_comm, Nat.testBit_two_pow_mul, Nat.testBit_two_pow_sub_one, Bool.eq_iff_iff]
  simp
  omega
theorem fold_or (l : List Cut) : ∀ m, l.foldl (fun m c => m ||| runM c) m = m ||| unionM l := by
  unfold unionM
  induction l with
  | nil => intro m; simp
  | cons c l ih =>
    intro m
    rw [List.foldl_cons, List.foldl_cons, ih, ih (0 ||| runM c)]
    simp [Nat.or_assoc]
theorem unionM_snoc (l : List Cut) (c : Cut) : unionM (l ++ [c]) = unionM l ||| runM c := by
  simp [unionM]
theorem unionM_bit (l : List Cut) (h : ∀ c ∈ l, 0 ≤ c.1 ∧ 0 ≤ c.2) (b : Nat) : (unionM l).testBit b = inCuts l b := by
  induction l with
  | nil => simp [unionM, inCuts]
  | cons c l ih =>
    unfold unionM
    rw [List.foldl_cons, fold_or, Nat.testBit_or, ih (fun d hd => h d (by simp [hd]))]
    have := h c (by simp)
    rw [Nat.zero_or, runM_bit c this.1 this.2]
    simp [inCuts]
theorem runM_u64 {c : Cut} (h0 : 0 ≤ c.1) (h1 : 0 ≤ c.2) (h2 : c.1 + c.2 ≤ 64) : U64 (runM c) := by
  unfold U64 runM
  have h3 : (2 ^ c.2.toNat - 1) * 2 ^ c.1.toNat < 2 ^ c.2.toNat * 2 ^ c.1.toNat := Nat.mul_lt_mul_of_pos_right (by have := Nat.pow_pos (a := 2) (n := c.2.toNat) (by omega); omega) (Nat.pow_pos (by omega))
  rw [← Nat.pow_add] at h3
  have h4 : 2 ^ (c.2.toNat + c.1.toNat) ≤ 2 ^ 64 := Nat.pow_le_pow_right (by omega) (by omega)
  omega
theorem U64.or {x y : Nat} (hx : U64 x) (hy : U64 y) : U64 (x ||| y) := Nat.or_lt_two_pow (n := 64) hx hy
theorem unionM_u64 {l : List Cut} (h : ∀ c ∈ l, 0 ≤ c.1 ∧ 0 ≤ c.2 ∧ c.1 + c.2 ≤ 64) : U64 (unionM l) := by
  induction l with
  | nil => unfold U64 unionM; simp
  | cons c l ih =>
    have h1 := ih fun d hd => h d (by simp [hd])
    have h2 := h c (by simp)
    show U64 ((c :: l).foldl _ 0)
    rw [List.foldl_cons, fold_or, Nat.zero_or]
    exact (runM_u64 h2.1 h2.2.1 h2.2.2).or h1
/-- The cuts of the number of cuts that lie as they should. -/
theorem cutsM_union {l : List Cut} (h : Sep 0 l) : cutsM (unionM l) = l := by
  have h1 : ∀ c ∈ l, 0 ≤ c.1 ∧ 0 ≤ c.2 := fun c hc => by have := h.all c hc; omega
  unfold cutsM
  rw [runs_congr (m := (unionM l).testBit) (m' := inCuts l) 64 fun b _ => unionM_bit l h1 b]
  exact sep_runs h
theorem sep_iff {l : List Cut} : cutsM (unionM l) = l ↔ Sep 0 l := ⟨fun h => by rw [← h]; exact runs_sep _, cutsM_union⟩
end Go.Pol
