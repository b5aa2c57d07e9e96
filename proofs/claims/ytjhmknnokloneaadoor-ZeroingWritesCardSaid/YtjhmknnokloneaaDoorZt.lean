/-
  Layer 15's plain law, second part: a state as the cuts of each page; Wrote and Zeroed of the program and of the reference are one. No program in sight.
-/
import Derived.Test.YtjhmknnokloneaaDoorZq
set_option linter.unusedSimpArgs false
set_option linter.unusedVariables false
namespace Go.Pol
/-- The pages below n that have cuts. -/
def stC (c : Nat → List Cut) : Nat → List Page
  | 0 => []
  | n + 1 => if c n = [] then stC c n else stC c n ++ [((n : Int), c n)]
theorem stC_congr {c d : Nat → List Cut} : ∀ n, (∀ k, k < n → c k = d k) → stC c n = stC d n
  | 0, _ => rfl
  | n + 1, h => by unfold stC; rw [h n (by omega), stC_congr n fun k hk => h k (by omega)]
theorem mergeN_ne : ∀ (n : Nat) (l : List Cut), l ≠ [] → mergeN n l ≠ []
  | 0, l, h => h
  | n + 1, l, h => by
    unfold mergeN
    split
    · rename_i h4
      refine mergeN_ne n _ fun e => ?_
      have := merge1_length h4
      rw [e] at this
      simp at this
      omega
    · exact h
theorem down_nil {m : Nat} (hm : U64 m) : downM m = [] ↔ m = 0 := by
  constructor
  · intro h
    have hc : cutsM m = [] := Classical.byContradiction fun hne => mergeN_ne _ _ hne h
    refine Nat.eq_of_testBit_eq fun b => ?_
    rw [Nat.zero_testBit]
    by_cases hb : b < 64
    · have := inCuts_runs m.testBit 64 (Nat.le_refl _) b
      have hc' : runs m.testBit 64 = [] := hc
      rw [hc'] at this
      simpa [inCuts, hb] using this.symm
    · exact bit_ge hm (by omega)
  · rintro rfl; rfl
theorem stateM_stC {M : Nat → Nat} (hM : ∀ k, U64 (M k)) : ∀ n, stateM M n = stC (fun k => downM (M k)) n
  | 0 => rfl
  | n + 1 => by
    unfold stateM stC
    rw [stateM_stC hM n]
    by_cases h : M n = 0
    · rw [if_pos h, if_pos ((down_nil (hM n)).2 h)]
    · rw [if_neg h, if_neg (fun e => h ((down_nil (hM n)).1 e))]
/-- The cuts of a page. -/
def cutsIn : List Page → Nat → List Cut
  | [], _ => []
  | p :: s, k => if p.1 = (k : Int) then p.2 else cutsIn s k
def stR (c : Nat → List Cut) : Nat → Nat → List Page
  | _, 0 => []
  | a, n + 1 => (if c a = [] then [] else [((a : Int), c a)]) ++ stR c (a + 1) n
theorem stR_congr {c d : Nat → List Cut} : ∀ (n a : Nat), (∀ k, a ≤ k → c k = d k) → stR c a n = stR d a n
  | 0, _, _ => rfl
  | n + 1, a, h => by unfold stR; rw [h a (Nat.le_refl _), stR_congr n (a + 1) fun k hk => h k (by omega)]
theorem stR_nil {c : Nat → List Cut} : ∀ (n a : Nat), (∀ k, a ≤ k → c k = []) → stR c a n = []
  | 0, _, _ => rfl
  | n + 1, a, h => by unfold stR; rw [if_pos (h a (Nat.le_refl _)), stR_nil n (a + 1) fun k hk => h k (by omega)]; rfl
theorem stR_last {c : Nat → List Cut} : ∀ (n a : Nat), stR c a (n + 1) = stR c a n ++ (if c (a + n) = [] then [] else [(((a + n : Nat) : Int), c (a + n))])
  | 0, a => by simp [stR]
  | n + 1, a => by
    rw [stR, stR_last n (a + 1), show a + 1 + n = a + (n + 1) by omega, ← List.append_assoc]
    rfl
theorem stC_stR (c : Nat → List Cut) : ∀ n, stC c n = stR c 0 n
  | 0 => rfl
  | n + 1 => by
    rw [stR_last, stC, stC_stR c n, Nat.zero_add]
    split <;> simp [*]
theorem cutsIn_none : ∀ {s : List Page} {last : Int}, Can last s → ∀ k : Nat, (k : Int) ≤ last → cutsIn s k = []
  | [], _, _, _, _ => rfl
  | p :: s, last, h, k, hk => by
    obtain ⟨h1, h2, h3, h4, h5, h6⟩ := h
    unfold cutsIn
    rw [if_neg (by omega)]
    exact cutsIn_none h6 k (by omega)
theorem can_cuts : ∀ {s : List Page} {last : Int}, Can last s → ∀ k, Sep 0 (cutsIn s k) ∧ (cutsIn s k).length ≤ 4
  | [], _, _, _ => ⟨trivial, Nat.zero_le _⟩
  | p :: s, last, h, k => by
    obtain ⟨h1, h2, h3, h4, h5, h6⟩ := h
    unfold cutsIn
    split
    · exact ⟨h5, h4⟩
    · exact can_cuts h6 k
theorem can_stR : ∀ (n a : Nat) {s : List Page} {last : Int}, Can last s → last < a → last + 1 = a ∨ (∀ p ∈ s, (a : Int) ≤ p.1) → (∀ p ∈ s, p.1 < (a + n : Nat)) → stR (cutsIn s) a n = s
  | 0, a, s, last, h, hl, ha, hn => by
    cases s with
    | nil => rfl
    | cons p s =>
      have := hn p (List.mem_cons_self ..)
      obtain ⟨h1, _⟩ := h
      rcases ha with ha | ha
      · omega
      · have := ha p (List.mem_cons_self ..); omega
  | n + 1, a, s, last, h, hl, ha, hn => by
    cases s with
    | nil => exact stR_nil _ _ fun _ _ => rfl
    | cons p s =>
      have hp := hn p (List.mem_cons_self ..)
      obtain ⟨h1, h2, h3, h4, h5, h6⟩ := h
      have hpa : (a : Int) ≤ p.1 := by
        rcases ha with ha | ha
        · omega
        · exact ha p (List.mem_cons_self ..)
      have hgt : ∀ {s : List Page} {l : Int}, Can l s → ∀ q ∈ s, l < q.1 := by
        intro s
        induction s with
        | nil => intro l _ q hq; cases hq
        | cons r s ih =>
          intro l hc q hq
          obtain ⟨g1, _, _, _, _, g6⟩ := hc
          rcases List.mem_cons.1 hq with rfl | hq
          · exact g1
          · have := ih g6 q hq; omega
      by_cases e : p.1 = (a : Int)
      · have hc : cutsIn (p :: s) a = p.2 := by unfold cutsIn; rw [if_pos e]
        rw [stR, hc, if_neg h3, stR_congr (d := cutsIn s) n (a + 1) fun k hk => by
          show (if p.1 = (k : Int) then p.2 else cutsIn s k) = _
          rw [if_neg (by omega)]]
        rw [can_stR n (a + 1) h6 (by omega) (.inl (by omega)) fun q hq => by
          have := hn q (List.mem_cons_of_mem _ hq); omega]
        rw [← e]; rfl
      · have hcan : Can a (p :: s) := ⟨by omega, h2, h3, h4, h5, h6⟩
        have hc : cutsIn (p :: s) a = [] := cutsIn_none hcan a (Int.le_refl _)
        rw [stR, hc, if_pos rfl, List.nil_append]
        exact can_stR n (a + 1) hcan (by omega) (.inl (by omega)) fun q hq => by
          have := hn q hq; omega
theorem can_lt : ∀ {s : List Page} {l : Int}, Can l s → ∀ q ∈ s, q.1 < 1024
  | [], _, _, _, hq => by cases hq
  | r :: s, l, hc, q, hq => by
    obtain ⟨_, g2, _, _, _, g6⟩ := hc
    rcases List.mem_cons.1 hq with rfl | hq
    · exact g2
    · exact can_lt g6 q hq
theorem can_stC {s : List Page} (h : Can (-1) s) : stC (cutsIn s) 1024 = s := by
  rw [stC_stR]
  exact can_stR 1024 0 h (by omega) (.inl (by omega)) fun p hp => by have := can_lt h p hp; omega
/-- With other cuts of one page. -/
def updC (c : Nat → List Cut) (p : Nat) (l : List Cut) : Nat → List Cut := fun k => if k = p then l else c k
theorem stC_over {c : Nat → List Cut} {p : Nat} {l : List Cut} (hl : l ≠ []) : ∀ n, p < n → (∀ k, p ≤ k → k < n → c k = []) → stC (updC c p l) n = stC (updC c p []) n ++ [((p : Int), l)]
  | 0, h, _ => by omega
  | n + 1, h, he => by
    by_cases e : n = p
    · subst e
      rw [stC, stC, show updC c n l n = l from if_pos rfl, show updC c n [] n = [] from if_pos rfl, if_neg hl, if_pos rfl]
      rw [stC_congr (d := updC c n []) n fun k hk => by unfold updC; rw [if_neg (by omega), if_neg (by omega)]]
    · have h0 := he n (by omega) (by omega)
      rw [stC, stC, show updC c p l n = c n from if_neg e, show updC c p [] n = c n from if_neg e, if_pos h0, if_pos h0]
      exact stC_over hl n (by omega) fun k h1 h2 => he k h1 (by omega)
theorem wOne_yes {x p : Page} {L : List Page} (h : x.1 ≤ p.1) : wOne x (L, false) p = (L ++ [x], true) := if_pos ⟨rfl, h⟩
theorem wOne_no {x p : Page} {L : List Page} (h : ¬ x.1 ≤ p.1) : wOne x (L, false) p = (L, false) := if_neg fun hh => h hh.2
theorem wOne_done {x p : Page} {L : List Page} : wOne x (L, true) p = (L, true) := if_neg fun hh => by cases hh.1
theorem wTwo_same {x p : Page} {L : List Page} {b : Bool} (h : p.1 = x.1) : wTwo x (L, b) p = (L, b) := if_pos h
theorem wTwo_other {x p : Page} {L : List Page} {b : Bool} (h : ¬ p.1 = x.1) : wTwo x (L, b) p = (L ++ [p], b) := if_neg h
theorem wFold_stC {c : Nat → List Cut} {p : Nat} {l : List Cut} (hl : l ≠ []) : ∀ n, ((∀ k, p ≤ k → k < n → c k = []) ∧ wFold ((p : Int), l) (stC c n) = (stC (updC c p []) n, false)) ∨ (p < n ∧ wFold ((p : Int), l) (stC c n) = (stC (updC c p l) n, true))
  | 0 => .inl ⟨fun k h1 h2 => by omega, by simp [stC, wFold, hl]⟩
  | n + 1 => by
    by_cases h0 : c n = []
    · rcases wFold_stC hl n with ⟨h1, h2⟩ | ⟨h1, h2⟩
      · refine .inl ⟨fun k g1 g2 => ?_, ?_⟩
        · by_cases e : k = n
          · rw [e]; exact h0
          · exact h1 k g1 (by omega)
        · have : updC c p [] n = [] := by unfold updC; split; rfl; exact h0
          rw [stC, if_pos h0, h2, stC, if_pos this]
      · refine .inr ⟨by omega, ?_⟩
        have : updC c p l n = [] := by unfold updC; rw [if_neg (by omega)]; exact h0
        rw [stC, if_pos h0, h2, stC, if_pos this]
    · rw [stC, if_neg h0, wFold_snoc]
      rcases wFold_stC hl n with ⟨h1, h2⟩ | ⟨h1, h2⟩
      · rw [h2]
        by_cases hnp : n < p
        · refine .inl ⟨fun k g1 g2 => by omega, ?_⟩
          have : updC c p [] n = c n := if_neg (by omega)
          rw [stC, this, if_neg h0, wOne_no (by dsimp only; omega), wTwo_other (by dsimp only; omega)]
        · refine .inr ⟨by omega, ?_⟩
          rw [wOne_yes (by dsimp only; omega)]
          by_cases e : n = p
          · subst e
            rw [wTwo_same (show ((n : Int), c n).1 = ((n : Int), l).1 from rfl), stC, show updC c n l n = l from if_pos rfl, if_neg hl]
            rw [stC_congr (c := updC c n []) (d := updC c n l) n fun k hk => by unfold updC; rw [if_neg (by omega), if_neg (by omega)]]
          · rw [wTwo_other (by dsimp only; omega), stC, show updC c p l n = c n from if_neg e, if_neg h0, stC_over hl n (by omega) h1]
      · rw [h2]
        refine .inr ⟨by omega, ?_⟩
        have : updC c p l n = c n := if_neg (by omega)
        rw [wOne_done, wTwo_other (by dsimp only; omega), stC, this, if_neg h0]
theorem wFold_nil {c : Nat → List Cut} {p : Nat} : ∀ n, wFold ((p : Int), []) (stC c n) = (stC (updC c p []) n, true)
  | 0 => by simp [stC, wFold]
  | n + 1 => by
    by_cases h0 : c n = []
    · have : updC c p [] n = [] := by unfold updC; split; rfl; exact h0
      rw [stC, if_pos h0, wFold_nil n, stC, if_pos this]
    · rw [stC, if_neg h0, wFold_snoc, wFold_nil n]
      rw [wOne_done]
      by_cases e : n = p
      · subst e
        rw [wTwo_same (show ((n : Int), c n).1 = ((n : Int), ([] : List Cut)).1 from rfl), stC, show updC c n [] n = [] from if_pos rfl, if_pos rfl]
      · rw [wTwo_other (by dsimp only; omega), stC, show updC c p [] n = c n from if_neg e, if_neg h0]
theorem withS_stC {c : Nat → List Cut} {p : Nat} {l : List Cut} {n : Nat} (hp : p < n) : withS (stC c n) ((p : Int), l) = stC (updC c p l) n := by
  unfold withS
  by_cases hl : l = []
  · subst hl; rw [wFold_nil]; rfl
  · rcases wFold_stC hl n with ⟨h1, h2⟩ | ⟨h1, h2⟩
    · rw [h2]; simp only [Bool.false_eq_true, if_false]; exact (stC_over hl n hp h1).symm
    · rw [h2]; rfl
theorem marksP_in : ∀ (l : List Cut) (f : Nat → Bool) (b : Nat), marksP f l b = (f b || inCuts l b)
  | [], f, b => by simp [marksP, inCuts]
  | c :: l, f, b => by
    show marksP (orCut f c) l b = _
    rw [marksP_in l, orCut, Bool.or_assoc]
    rfl
theorem marksS_stC {c : Nat → List Cut} {p : Nat} : ∀ n, marksS (stC c n) (p : Int) = if p < n then marksP (fun _ => false) (c p) else fun _ => false
  | 0 => by rw [if_neg (by omega)]; rfl
  | n + 1 => by
    rw [stC]
    by_cases h0 : c n = []
    · rw [if_pos h0, marksS_stC n]
      by_cases e : p = n
      · subst e; rw [if_neg (by omega), if_pos (by omega), h0]; rfl
      · by_cases h : p < n
        · rw [if_pos h, if_pos (by omega)]
        · rw [if_neg h, if_neg (by omega)]
    · rw [if_neg h0, marksS_snoc, marksS_stC n]
      by_cases e : p = n
      · subst e; rw [if_pos rfl, if_neg (by omega), if_pos (by omega)]
      · rw [if_neg (by omega)]
        by_cases h : p < n
        · rw [if_pos h, if_pos (by omega)]
        · rw [if_neg h, if_neg (by omega)]
theorem openM_stC {c : Nat → List Cut} {k : Nat} : ∀ n, openM (stC c n) k = if k < n then unionM (c k) else 0
  | 0 => rfl
  | n + 1 => by
    rw [stC]
    by_cases h0 : c n = []
    · rw [if_pos h0, openM_stC n]
      by_cases e : k = n
      · subst e; rw [if_neg (by omega), if_pos (by omega), h0]; rfl
      · by_cases h : k < n
        · rw [if_pos h, if_pos (by omega)]
        · rw [if_neg h, if_neg (by omega)]
    · rw [if_neg h0, openM_snoc]
      simp only [updM, Int.toNat_natCast]
      by_cases e : k = n
      · subst e
        rw [if_pos rfl, openM_stC k, if_neg (by omega), if_pos (by omega), Nat.zero_or]
      · rw [if_neg e, openM_stC n]
        by_cases h : k < n
        · rw [if_pos h, if_pos (by omega)]
        · rw [if_neg h, if_neg (by omega)]
theorem setN_stC {a n : Int} {is : Bool} {p0 : Nat} {c : Nat → List Cut} : ∀ j, p0 + j ≤ 1024 → setN a n is p0 (stC c 1024) j = stC (fun k => if p0 ≤ k ∧ k < p0 + j then mergeL (runs (setBk (marksP (fun _ => false) (c k)) k a n is 64) 64) else c k) 1024
  | 0, _ => by
    show stC c 1024 = _
    exact stC_congr _ fun k _ => by rw [if_neg (by omega)]
  | j + 1, hj => by
    rw [setN, setN_stC j (by omega), setOne, marksS_stC, if_pos (by omega), if_neg (by omega), withS_stC (by omega)]
    refine stC_congr _ fun k _ => ?_
    unfold updC
    by_cases e : k = p0 + j
    · subst e; rw [if_pos rfl, if_pos ⟨by omega, by omega⟩]
    · rw [if_neg e]
      dsimp only
      by_cases h : p0 ≤ k ∧ k < p0 + j
      · rw [if_pos h, if_pos ⟨h.1, by omega⟩]
      · rw [if_neg h, if_neg (by omega)]
/-- What an operation does to bits. -/
def BitOp (op : Nat → Nat → Nat) (is : Bool) : Prop := (∀ x y, U64 x → U64 y → U64 (op x y)) ∧ ∀ (x : Nat) (f n b : Nat), U64 x → b < 64 → f + n ≤ 64 → (op x (runM ((f : Int), (n : Int)))).testBit b = if f ≤ b ∧ b < f + n then is else x.testBit b
theorem turn_bits {op : Nat → Nat → Nat} {is : Bool} (hop : BitOp op is) : ∀ (n a : Nat) (M : Nat → Nat), (∀ k, U64 (M k)) → (∀ k, U64 (turnM op M a n k)) ∧ ∀ k b, b < 64 → (turnM op M a n k).testBit b = if a ≤ 64 * k + b ∧ 64 * k + b < a + n then is else (M k).testBit b := by
  intro n
  induction n using Nat.strongRecOn with
  | ind n ih =>
    intro a M hM
    by_cases h0 : n = 0
    · subst h0
      refine ⟨hM, fun k b hb => ?_⟩
      rw [turnM_zero, if_neg (by omega)]
    · rw [turnM_step h0]
      have hU : ∀ k, U64 (updM M (a / 64) (op (M (a / 64)) (runM ((a % 64 : Nat), (min n (64 - a % 64) : Nat)))) k) := updM_u64 hM (hop.1 _ _ (hM _) (runM_u64 (by dsimp only; omega) (by dsimp only; omega) (by dsimp only; omega))) _
      obtain ⟨i1, i2⟩ := ih (n - min n (64 - a % 64)) (by omega) (a + min n (64 - a % 64)) _ hU
      refine ⟨i1, fun k b hb => ?_⟩
      rw [i2 k b hb]
      simp only [updM]
      by_cases e : k = a / 64
      · rw [if_pos e, hop.2 _ _ _ b (hM _) hb (by omega), ← e]
        by_cases h1 : a ≤ 64 * k + b ∧ 64 * k + b < a + n
        · rw [if_pos h1]
          split
          · rfl
          · rw [if_pos (by omega)]
        · rw [if_neg h1, if_neg (by omega), if_neg (by omega)]
      · rw [if_neg e]
        by_cases h1 : a ≤ 64 * k + b ∧ 64 * k + b < a + n
        · rw [if_pos h1, if_pos (by omega)]
        · rw [if_neg h1, if_neg (by omega)]
theorem bit_or : BitOp opOr true := ⟨fun x y hx hy => U64.or hx hy, fun x f n b _ _ _ => by
  rw [opOr, Nat.testBit_or, runM_bit _ (by dsimp only; omega) (by dsimp only; omega)]
  by_cases h : f ≤ b ∧ b < f + n
  · rw [if_pos h, decide_eq_true (by dsimp only; omega), Bool.or_true]
  · rw [if_neg h, decide_eq_false (by dsimp only; omega), Bool.or_false]⟩
theorem bit_off : BitOp opOff false := ⟨fun x y hx _ => opOff_u64 hx, fun x f n b hx hb hf => by
  have hr : U64 (runM ((f : Int), (n : Int))) := runM_u64 (by dsimp only; omega) (by dsimp only; omega) (by dsimp only; omega)
  have h64 : 18446744073709551615 - runM ((f : Int), (n : Int)) = 2 ^ 64 - (runM ((f : Int), (n : Int)) + 1) := by
    unfold U64 at hr; omega
  rw [opOff, Nat.testBit_and, h64, Nat.testBit_two_pow_sub_succ hr, runM_bit _ (by dsimp only; omega) (by dsimp only; omega)]
  by_cases h : f ≤ b ∧ b < f + n
  · rw [if_pos h, decide_eq_true (p := (_ ∧ _)) (by dsimp only; omega)]; simp
  · rw [if_neg h, decide_eq_false (p := (_ ∧ _)) (by dsimp only; omega)]; simp [hb]⟩
theorem sep_u64 {l : List Cut} (h : Sep 0 l) : U64 (unionM l) := unionM_u64 fun c hc => by have := h.all c hc; omega
end Go.Pol
namespace Go.Proofs.YtjhmknnokloneaaDoor
open Go Go.Pol
/-- **What the program makes of a valid state is what the reference makes of it.** -/
theorem turn_ref {op : Nat → Nat → Nat} {is : Bool} (hop : BitOp op is) {s : List Page} {a n : Int} (hs : Go.Pol.Can (-1) s) (ha : 0 ≤ a) (hn : 0 ≤ n) (han : a + n ≤ 65536) : stateM (turnM op (openM s) a.toNat n.toNat) 1024 = refSet s a n is := by
  obtain ⟨A, rfl⟩ := Int.eq_ofNat_of_zero_le ha
  obtain ⟨B, rfl⟩ := Int.eq_ofNat_of_zero_le hn
  simp only [Int.toNat_natCast]
  have hc := can_cuts hs
  have key : stateM (turnM op (openM (stC (cutsIn s) 1024)) A B) 1024 = refSet (stC (cutsIn s) 1024) A B is := by
    generalize cutsIn s = c at hc
    have hU : ∀ k, U64 (openM (stC c 1024) k) := fun k => by
      rw [openM_stC]
      split
      · exact sep_u64 (hc k).1
      · exact (by decide : (0 : Nat) < 18446744073709551616)
    obtain ⟨t1, t2⟩ := turn_bits hop B A _ hU
    have hl : lastPg (A : Int) (B : Int) = (A + B + 63) / 64 := by unfold lastPg; omega
    have hp0 : ((A : Int) / 64).toNat = A / 64 := by omega
    unfold refSet
    rw [hl, hp0, setN_stC _ (by omega), stateM_stC t1]
    refine stC_congr _ fun k hk => ?_
    have hbit : ∀ b, b < 64 → (turnM op (openM (stC c 1024)) A B k).testBit b = if A ≤ 64 * k + b ∧ 64 * k + b < A + B then is else inCuts (c k) b := fun b hb => by
      rw [t2 k b hb, openM_stC, if_pos hk, unionM_bit _ fun d hd => by have := (hc k).1.all d hd; omega]
    show mergeL (runs (turnM op (openM (stC c 1024)) A B k).testBit 64) = _
    by_cases h : A / 64 ≤ k ∧ k < A / 64 + ((A + B + 63) / 64 - A / 64)
    · rw [if_pos h]
      congr 1
      refine runs_congr 64 fun b hb => ?_
      rw [hbit b hb]
      simp only [setBk, marksP_in, Bool.false_or]
      by_cases h1 : A ≤ 64 * k + b ∧ 64 * k + b < A + B
      · rw [if_pos h1, if_pos ⟨hb, by omega⟩]
      · rw [if_neg h1, if_neg (fun hh => h1 (by omega))]
    · rw [if_neg h, runs_congr (m' := inCuts (c k)) 64 fun b hb => by rw [hbit b hb, if_neg (by omega)], sep_runs (hc k).1]
      exact mergeL_four (hc k).2
  rwa [can_stC hs] at key
end Go.Proofs.YtjhmknnokloneaaDoor
