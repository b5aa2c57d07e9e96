/-
  Layer 15, plain: states that are put down are valid; what is written, in whatever order. No program in sight.
-/
import Derived.Test.YtjhmknnokloneaaDoorYt
set_option linter.unusedSimpArgs false
set_option linter.unusedVariables false
namespace Go.Pol
theorem mergeN_sep : ∀ (n : Nat) (l : List Cut), Sep 0 l → Sep 0 (mergeN n l)
  | 0, l, h => h
  | n + 1, l, h => by
    unfold mergeN
    split
    · rename_i h4
      exact mergeN_sep n _ (merge_sep l 0 _ h (by have := bestL_lt l (l.length - 1) (by omega); omega))
    · exact h
theorem mergeN_four : ∀ (n : Nat) (l : List Cut), l.length ≤ n + 4 → (mergeN n l).length ≤ 4
  | 0, l, h => by simpa [mergeN] using h
  | n + 1, l, h => by
    unfold mergeN
    split
    · rename_i h4
      exact mergeN_four n _ (by have := merge1_length h4; omega)
    · omega
theorem down_sep (m : Nat) : Sep 0 (downM m) := mergeN_sep _ _ (runs_sep _)
theorem down_four (m : Nat) : (downM m).length ≤ 4 := mergeN_four _ _ (by omega)
theorem sep_good {l : List Cut} (h : Sep 0 l) : ∀ c ∈ l, badCut c = false := fun c hc => by
  have := h.all c hc
  simp only [badCut, decide_eq_false_iff_not]; omega
theorem can_ok : ∀ {s : List Page} {last : Int}, -1 ≤ last → Can last s → s.all okPage = true ∧ okFrom last s = true
  | [], _, _, _ => ⟨rfl, rfl⟩
  | p :: s, last, hl, h => by
    obtain ⟨h1, h2, h3, h4, h5, h6⟩ := h
    obtain ⟨i1, i2⟩ := can_ok (by omega) h6
    have h7 : 0 < p.2.length := List.length_pos_iff.2 h3
    refine ⟨?_, ?_⟩
    · rw [List.all_cons, i1, Bool.and_true]
      simp only [okPage, Bool.and_eq_true, decide_eq_true_eq, Bool.not_eq_true', List.any_eq_false]
      exact ⟨⟨by omega, h2⟩, fun c hc => by rw [sep_good h5 c hc]; simp⟩
    · simp only [okFrom, okNext, Bool.and_eq_true, decide_eq_true_eq, sameL]
      exact ⟨⟨⟨⟨h1, h7⟩, h4⟩, sep_iff.2 h5⟩, i2⟩
theorem check_can {s : List Page} (h : Can (-1) s) (hs : s.length ≤ 1024) : checkM s = 0 := by
  obtain ⟨h1, h2⟩ := can_ok (by omega) h
  rw [checkM, if_neg (by omega), if_pos h1, if_pos h2]
theorem can_snoc : ∀ {s : List Page} {last : Int} {q : Page}, Can last s → last < q.1 → (∀ p ∈ s, p.1 < q.1) → q.1 < 1024 → q.2 ≠ [] → q.2.length ≤ 4 → Sep 0 q.2 → Can last (s ++ [q])
  | [], _, _, _, h1, _, h3, h4, h5, h6 => ⟨h1, h3, h4, h5, h6, trivial⟩
  | p :: s, _, _, h, _, h2, h3, h4, h5, h6 => ⟨h.1, h.2.1, h.2.2.1, h.2.2.2.1, h.2.2.2.2.1, can_snoc h.2.2.2.2.2 (h2 p (List.mem_cons_self ..)) (fun r hr => h2 r (List.mem_cons_of_mem _ hr)) h3 h4 h5 h6⟩
theorem stC_lt {c : Nat → List Cut} : ∀ n, ∀ p ∈ stC c n, 0 ≤ p.1 ∧ p.1 < (n : Nat)
  | 0, p, h => by cases h
  | n + 1, p, h => by
    rw [stC] at h
    have ih := stC_lt (c := c) n
    split at h
    · have := ih p h; omega
    · rcases List.mem_append.1 h with h | h
      · have := ih p h; omega
      · obtain rfl := List.mem_singleton.1 h
        dsimp only; omega
theorem stC_can {c : Nat → List Cut} (hc : ∀ k, Sep 0 (c k) ∧ (c k).length ≤ 4) : ∀ n, n ≤ 1024 → Can (-1) (stC c n)
  | 0, _ => trivial
  | n + 1, hn => by
    rw [stC]
    split
    · exact stC_can hc n (by omega)
    · rename_i h
      exact can_snoc (stC_can hc n (by omega)) (by dsimp only; omega) (fun p hp => (stC_lt n p hp).2) (by dsimp only; omega) h (hc n).2 (hc n).1
theorem can_four : ∀ {s : List Page} {l : Int}, Can l s → ∀ q ∈ s, q.2.length ≤ 4
  | [], _, _, _, hq => by cases hq
  | r :: s, l, hc, q, hq => by
    obtain ⟨_, _, _, g4, _, g6⟩ := hc
    rcases List.mem_cons.1 hq with rfl | hq
    · exact g4
    · exact can_four g6 q hq
theorem stateM_can {W : Nat → Nat} (hW : ∀ k, U64 (W k)) : Can (-1) (stateM W 1024) := by
  rw [stateM_stC hW]
  exact stC_can (fun k => ⟨down_sep _, down_four _⟩) _ (Nat.le_refl _)
theorem check_state {W : Nat → Nat} (hW : ∀ k, U64 (W k)) : checkM (stateM W 1024) = 0 := check_can (stateM_can hW) (stateM_length _ _)
theorem ext64 {x y : Nat} (hx : U64 x) (hy : U64 y) (h : ∀ b, b < 64 → x.testBit b = y.testBit b) : x = y := Nat.eq_of_testBit_eq fun b => by
  by_cases hb : b < 64
  · exact h b hb
  · rw [bit_ge hx (by omega), bit_ge hy (by omega)]
theorem sep_nonneg {l : List Cut} (h : Sep 0 l) : ∀ c ∈ l, 0 ≤ c.1 ∧ 0 ≤ c.2 := fun c hc => by have := h.all c hc; omega
theorem union_cuts {m : Nat} (hm : U64 m) : unionM (cutsM m) = m := ext64 (sep_u64 (runs_sep _)) hm fun b hb => by
  rw [unionM_bit (cutsM m) (sep_nonneg (runs_sep _))]
  show inCuts (runs m.testBit 64) b = _
  rw [inCuts_runs _ 64 (Nat.le_refl _), decide_eq_true hb, Bool.true_and]
theorem open_state {W : Nat → Nat} (hW : ∀ k, U64 (W k)) (h4 : ∀ k, (cutsM (W k)).length ≤ 4) (h0 : ∀ k, 1024 ≤ k → W k = 0) : openM (stateM W 1024) = W := by
  funext k
  rw [stateM_stC hW, openM_stC]
  split
  · show unionM (mergeL (cutsM (W k))) = _
    rw [mergeL_four (h4 k), union_cuts (hW k)]
  · rw [h0 k (by omega)]
/-! zones that are written -/
abbrev Zn := Nat × Nat
def inZ (l : List Zn) (x : Nat) : Bool := l.any fun z => decide (z.1 ≤ x ∧ x < z.1 + z.2)
def wrF (l : List Zn) (W : Nat → Nat) : Nat → Nat := l.foldl (fun W z => turnM opOr W z.1 z.2) W
def wrL (l : List Zn) : Nat → Nat := wrF l fun _ => 0
theorem wrF_bits : ∀ (l : List Zn) (W : Nat → Nat), (∀ k, U64 (W k)) → (∀ k, U64 (wrF l W k)) ∧ ∀ k b, b < 64 → (wrF l W k).testBit b = (inZ l (64 * k + b) || (W k).testBit b)
  | [], W, h => ⟨h, fun k b hb => by simp [wrF, inZ]⟩
  | z :: l, W, h => by
    obtain ⟨t1, t2⟩ := turn_bits bit_or z.2 z.1 W h
    obtain ⟨i1, i2⟩ := wrF_bits l (turnM opOr W z.1 z.2) t1
    refine ⟨i1, fun k b hb => ?_⟩
    have h2 := i2 k b hb
    rw [t2 k b hb] at h2
    rw [show wrF (z :: l) W = wrF l (turnM opOr W z.1 z.2) from rfl, h2]
    simp only [inZ, List.any_cons]
    by_cases hz : z.1 ≤ 64 * k + b ∧ 64 * k + b < z.1 + z.2
    · simp [hz]
    · rw [if_neg hz, decide_eq_false hz, Bool.false_or]
theorem wrL_u64 (l : List Zn) : ∀ k, U64 (wrL l k) := (wrF_bits l _ fun _ => by unfold U64; omega).1
theorem wrL_bit (l : List Zn) (k b : Nat) (hb : b < 64) : (wrL l k).testBit b = inZ l (64 * k + b) := by
  rw [wrL, (wrF_bits l _ fun _ => by unfold U64; omega).2 k b hb]; simp
theorem wrL_snoc (l : List Zn) (z : Zn) : wrL (l ++ [z]) = turnM opOr (wrL l) z.1 z.2 := by simp [wrL, wrF]
theorem wrL_same {l m : List Zn} (h : ∀ x, inZ l x = inZ m x) : wrL l = wrL m := funext fun k => ext64 (wrL_u64 l k) (wrL_u64 m k) fun b hb => by rw [wrL_bit l k b hb, wrL_bit m k b hb, h]
theorem wrL_rev (l : List Zn) : wrL l.reverse = wrL l := wrL_same fun x => by simp [inZ]
/-- Does a zone lie in a page, or have bytes of it? -/
def meets (k : Nat) (z : Zn) : Bool := decide (z.1 < (k + 1) * 64 ∧ k * 64 < z.1 + z.2)
theorem countP_more {α : Type} {p q : α → Bool} : ∀ {l : List α} {z : α}, (∀ x ∈ l, p x = true → q x = true) → z ∈ l → p z = false → q z = true → l.countP p + 1 ≤ l.countP q
  | a :: l, z, h, hz, h1, h2 => by
    rw [List.countP_cons, List.countP_cons]
    have hm : l.countP p ≤ l.countP q := List.countP_mono_left fun x hx => h x (List.mem_cons_of_mem _ hx)
    rcases List.mem_cons.1 hz with rfl | hz
    · rw [h1, h2]; simp; omega
    · have := countP_more (fun x hx => h x (List.mem_cons_of_mem _ hx)) hz h1 h2
      have ha := h a (List.mem_cons_self ..)
      cases hp : p a with
      | false => cases q a <;> simp <;> omega
      | true => rw [ha hp]; simp; omega
theorem runs_le {l : List Zn} {k : Nat} {m : Nat → Bool} (hm : ∀ b, b < 64 → m b = inZ l (64 * k + b)) : ∀ n, n ≤ 64 → (runs m n).length ≤ l.countP fun z => meets k z && decide (z.1 - 64 * k < n)
  | 0, _ => Nat.zero_le _
  | n + 1, hn => by
    have ih := runs_le hm n (by omega)
    have hmono : ∀ z ∈ l, (meets k z && decide (z.1 - 64 * k < n)) = true → (meets k z && decide (z.1 - 64 * k < n + 1)) = true := fun z _ h => by
      simp only [Bool.and_eq_true, decide_eq_true_eq] at h ⊢
      exact ⟨h.1, by omega⟩
    have hle := List.countP_mono_left hmono
    show (stepRun m (runs m n) n).length ≤ _
    unfold stepRun
    split
    · rename_i hmn
      split
      · rw [bump_length]; omega
      · rename_i hp
        rw [hm n (by omega)] at hmn
        obtain ⟨z, hz, hzb⟩ := List.any_eq_true.1 hmn
        have hzb : z.1 ≤ 64 * k + n ∧ 64 * k + n < z.1 + z.2 := by simpa using hzb
        have hst : z.1 - 64 * k = n := by
          rcases Nat.eq_zero_or_pos n with h0 | h0
          · omega
          · have hf : m (n - 1) = false := by
              cases h : m (n - 1) with
              | false => rfl
              | true => exact absurd ⟨h0, h⟩ hp
            rw [hm _ (by omega)] at hf
            have := List.any_eq_false.1 hf z hz
            simp only [decide_eq_true_eq] at this
            omega
        have := countP_more hmono hz (by simp [hst]) (by simp only [Bool.and_eq_true, decide_eq_true_eq, meets]; omega)
        rw [List.length_append, List.length_singleton]; omega
    · omega
theorem cuts_le (l : List Zn) (k : Nat) : (cutsM (wrL l k)).length ≤ l.countP (meets k) := by
  have h := runs_le (l := l) (k := k) (m := (wrL l k).testBit) (fun b hb => wrL_bit l k b hb) 64 (Nat.le_refl _)
  refine Nat.le_trans h (List.countP_mono_left fun z _ hz => ?_)
  simp only [Bool.and_eq_true] at hz
  exact hz.1
theorem wrL_none {l : List Zn} (hl : ∀ z ∈ l, z.1 + z.2 ≤ 1024) {k : Nat} (hk : 16 ≤ k) : wrL l k = 0 := ext64 (wrL_u64 l k) (by unfold U64; omega) fun b hb => by
  rw [wrL_bit l k b hb, Nat.zero_testBit]
  simp only [inZ, List.any_eq_false, decide_eq_true_eq]
  intro z hz
  have := hl z hz; omega
theorem few_all {l : List Zn} (hl : ∀ z ∈ l, z.1 + z.2 ≤ 1024) (h : ∀ k, k < 16 → l.countP (meets k) ≤ 4) (k : Nat) : l.countP (meets k) ≤ 4 := by
  by_cases hk : k < 16
  · exact h k hk
  · rw [List.countP_eq_zero.2]
    · omega
    · intro z hz
      have := hl z hz
      simp only [meets, decide_eq_true_eq]; omega
/-- What the writing of a zone makes of a state, where few zones were written. -/
theorem wr_open {l : List Zn} (hl : ∀ z ∈ l, z.1 + z.2 ≤ 1024) (h : ∀ k, l.countP (meets k) ≤ 4) : openM (stateM (wrL l) 1024) = wrL l :=
  open_state (wrL_u64 l) (fun k => Nat.le_trans (cuts_le l k) (h k)) fun k hk => wrL_none hl (by omega)
end Go.Pol
