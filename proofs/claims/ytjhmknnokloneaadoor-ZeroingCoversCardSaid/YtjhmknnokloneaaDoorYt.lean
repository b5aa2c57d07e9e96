/-
  Layer 15's plain law: what the program makes of a state and what the reference makes of it are one. No program in sight.
-/
import Derived.Test.YtjhmknnokloneaaDoorYn
set_option linter.unusedSimpArgs false
set_option linter.unusedVariables false
namespace Go.Pol
theorem mergeL_four {l : List Cut} (h : l.length ≤ 4) : mergeL l = l := mergeL_stop (by omega)
/-- What a valid state is. -/
theorem check_valid {s : List Page} (h : checkM s = 0) : s.length ≤ 1024 ∧ (∀ p ∈ s, okPage p = true) ∧ okFrom (-1) s = true := by
  unfold checkM at h
  split at h
  · cases h
  · rename_i h1
    split at h
    · rename_i h2
      split at h
      · rename_i h3; exact ⟨by omega, fun p hp => List.all_eq_true.1 h2 p hp, h3⟩
      · cases h
    · cases h
/-- Pages in order, each with its cuts as they are put down. -/
def Can (last : Int) : List Page → Prop
  | [] => True
  | p :: s => last < p.1 ∧ p.1 < 1024 ∧ p.2 ≠ [] ∧ p.2.length ≤ 4 ∧ Sep 0 p.2 ∧ Can p.1 s
theorem okFrom_can : ∀ {s : List Page} {last : Int}, (∀ p ∈ s, okPage p = true) → okFrom last s = true → Can last s
  | [], _, _, _ => trivial
  | p :: s, last, hp, h => by
    simp only [okFrom, Bool.and_eq_true, okNext, decide_eq_true_eq, sameL] at h
    obtain ⟨⟨⟨⟨h1, h2⟩, h3⟩, h4⟩, h5⟩ := h
    have h6 := hp p (List.mem_cons_self ..)
    simp only [okPage, Bool.and_eq_true, decide_eq_true_eq] at h6
    exact ⟨h1, h6.1.2, fun e => by rw [e] at h2; simp at h2, h3, sep_iff.1 h4, okFrom_can (fun q hq => hp q (List.mem_cons_of_mem _ hq)) h5⟩
/-- The pages below n that have cuts. -/
def stC (c : Nat → List Cut) : Nat → List Page
  | 0 => []
  | n + 1 => if c n = [] then stC c n else stC c n ++ [((n : Int), c n)]
theorem stC_congr {c d : Nat → List Cut} : ∀ n, (∀ k, k < n → c k = d k) → stC c n = stC d n
  | 0, _ => rfl
  | n + 1, h => by unfold stC; rw [h n (by omega), stC_congr n fun k hk => h k (by omega)]
theorem mergeN_ne : ∀ (n : Nat) (l : List Cut), l ≠ [] → mergeN n l ≠ []
  | 0, l, h => h
  | n + 1, l, h => by
    unfold mergeN
    split
    · rename_i h4
      refine mergeN_ne n _ fun e => ?_
      have := merge1_length h4
      rw [e] at this
      simp at this
      omega
    · exact h
theorem down_nil {m : Nat} (hm : U64 m) : downM m = [] ↔ m = 0 := by
  constructor
  · intro h
    have hc : cutsM m = [] := Classical.byContradiction fun hne => mergeN_ne _ _ hne h
    refine Nat.eq_of_testBit_eq fun b => ?_
    rw [Nat.zero_testBit]
    by_cases hb : b < 64
    · have := inCuts_runs m.testBit 64 (Nat.le_refl _) b
      have hc' : runs m.testBit 64 = [] := hc
      rw [hc'] at this
      simpa [inCuts, hb] using this.symm
    · exact bit_ge hm (by omega)
  · rintro rfl; rfl
theorem stateM_stC {M : Nat → Nat} (hM : ∀ k, U64 (M k)) : ∀ n, stateM M n = stC (fun k => downM (M k)) n
  | 0 => rfl
  | n + 1 => by
    unfold stateM stC
    rw [stateM_stC hM n]
    by_cases h : M n = 0
    · rw [if_pos h, if_pos ((down_nil (hM n)).2 h)]
    · rw [if_neg h, if_neg (fun e => h ((down_nil (hM n)).1 e))]
/-- The cuts of a page. -/
def cutsIn : List Page → Nat → List Cut
  | [], _ => []
  | p :: s, k => if p.1 = (k : Int) then p.2 else cutsIn s k
def stR (c : Nat → List Cut) : Nat → Nat → List Page
  | _, 0 => []
  | a, n + 1 => (if c a = [] then [] else [((a : Int), c a)]) ++ stR c (a + 1) n
theorem stR_congr {c d : Nat → List Cut} : ∀ (n a : Nat), (∀ k, a ≤ k → c k = d k) → stR c a n = stR d a n
  | 0, _, _ => rfl
  | n + 1, a, h => by unfold stR; rw [h a (Nat.le_refl _), stR_congr n (a + 1) fun k hk => h k (by omega)]
theorem stR_nil {c : Nat → List Cut} : ∀ (n a : Nat), (∀ k, a ≤ k → c k = []) → stR c a n = []
  | 0, _, _ => rfl
  | n + 1, a, h => by unfold stR; rw [if_pos (h a (Nat.le_refl _)), stR_nil n (a + 1) fun k hk => h k (by omega)]; rfl
theorem stR_last {c : Nat → List Cut} : ∀ (n a : Nat), stR c a (n + 1) = stR c a n ++ (if c (a + n) = [] then [] else [(((a + n : Nat) : Int), c (a + n))])
  | 0, a => by simp [stR]
  | n + 1, a => by
    rw [stR, stR_last n (a + 1), show a + 1 + n = a + (n + 1) by omega, ← List.append_assoc]
    rfl
theorem stC_stR (c : Nat → List Cut) : ∀ n, stC c n = stR c 0 n
  | 0 => rfl
  | n + 1 => by
    rw [stR_last, stC, stC_stR c n, Nat.zero_add]
    split <;> simp [*]
theorem cutsIn_none : ∀ {s : List Page} {last : Int}, Can last s → ∀ k : Nat, (k : Int) ≤ last → cutsIn s k = []
  | [], _, _, _, _ => rfl
  | p :: s, last, h, k, hk => by
    obtain ⟨h1, h2, h3, h4, h5, h6⟩ := h
    unfold cutsIn
    rw [if_neg (by omega)]
    exact cutsIn_none h6 k (by omega)
theorem can_cuts : ∀ {s : List Page} {last : Int}, Can last s → ∀ k, Sep 0 (cutsIn s k) ∧ (cutsIn s k).length ≤ 4
  | [], _, _, _ => ⟨trivial, Nat.zero_le _⟩
  | p :: s, last, h, k => by
    obtain ⟨h1, h2, h3, h4, h5, h6⟩ := h
    unfold cutsIn
    split
    · exact ⟨h5, h4⟩
    · exact can_cuts h6 k
theorem can_stR : ∀ (n a : Nat) {s : List Page} {last : Int}, Can last s → last < a → last + 1 = a ∨ (∀ p ∈ s, (a : Int) ≤ p.1) → (∀ p ∈ s, p.1 < (a + n : Nat)) → stR (cutsIn s) a n = s
  | 0, a, s, last, h, hl, ha, hn => by
    cases s with
    | nil => rfl
    | cons p s =>
      have := hn p (List.mem_cons_self ..)
      obtain ⟨h1, _⟩ := h
      rcases ha with ha | ha
      · omega
      · have := ha p (List.mem_cons_self ..); omega
  | n + 1, a, s, last, h, hl, ha, hn => by
    cases s with
    | nil => exact stR_nil _ _ fun _ _ => rfl
    | cons p s =>
      have hp := hn p (List.mem_cons_self ..)
      obtain ⟨h1, h2, h3, h4, h5, h6⟩ := h
      have hpa : (a : Int) ≤ p.1 := by
        rcases ha with ha | ha
        · omega
        · exact ha p (List.mem_cons_self ..)
      have hgt : ∀ {s : List Page} {l : Int}, Can l s → ∀ q ∈ s, l < q.1 := by
        intro s
        induction s with
        | nil => intro l _ q hq; cases hq
        | cons r s ih =>
          intro l hc q hq
          obtain ⟨g1, _, _, _, _, g6⟩ := hc
          rcases List.mem_cons.1 hq with rfl | hq
          · exact g1
          · have := ih g6 q hq; omega
      by_cases e : p.1 = (a : Int)
      · have hc : cutsIn (p :: s) a = p.2 := by unfold cutsIn; rw [if_pos e]
        rw [stR, hc, if_neg h3, stR_congr (d := cutsIn s) n (a + 1) fun k hk => by
          show (if p.1 = (k : Int) then p.2 else cutsIn s k) = _
          rw [if_neg (by omega)]]
        rw [can_stR n (a + 1) h6 (by omega) (.inl (by omega)) fun q hq => by
          have := hn q (List.mem_cons_of_mem _ hq); omega]
        rw [← e]; rfl
      · have hcan : Can a (p :: s) := ⟨by omega, h2, h3, h4, h5, h6⟩
        have hc : cutsIn (p :: s) a = [] := cutsIn_none hcan a (Int.le_refl _)
        rw [stR, hc, if_pos rfl, List.nil_append]
        exact can_stR n (a + 1) hcan (by omega) (.inl (by omega)) fun q hq => by
          have := hn q hq; omega
theorem can_lt : ∀ {s : List Page} {l : Int}, Can l s → ∀ q ∈ s, q.1 < 1024
  | [], _, _, _, hq => by cases hq
  | r :: s, l, hc, q, hq => by
    obtain ⟨_, g2, _, _, _, g6⟩ := hc
    rcases List.mem_cons.1 hq with rfl | hq
    · exact g2
    · exact can_lt g6 q hq
theorem can_stC {s : List Page} (h : Can (-1) s) : stC (cutsIn s) 1024 = s := by
  rw [stC_stR]
  exact can_stR 1024 0 h (by omega) (.inl (by omega)) fun p hp => by have := can_lt h p hp; omega
/-- With other cuts of one page. -/
def updC (c : Nat → List Cut) (p : Nat) (l : List Cut) : Nat → List Cut := fun k => if k = p then l else c k
theorem stC_over {c : Nat → List Cut} {p : Nat} {l : List Cut} (hl : l ≠ []) : ∀ n, p < n → (∀ k, p ≤ k → k < n → c k = []) → stC (updC c p l) n = stC (updC c p []) n ++ [((p : Int), l)]
  | 0, h, _ => by omega
  | n + 1, h, he => by
    by_cases e : n = p
    · subst e
      rw [stC, stC, show updC c n l n = l from if_pos rfl, show updC c n [] n = [] from if_pos rfl, if_neg hl, if_pos rfl]
      rw [stC_congr (d := updC c n []) n fun k hk => by unfold updC; rw [if_neg (by omega), if_neg (by omega)]]
    · have h0 := he n (by omega) (by omega)
      rw [stC, stC, show updC c p l n = c n from if_neg e, show updC c p [] n = c n from if_neg e, if_pos h0, if_pos h0]
      exact stC_over hl n (by omega) fun k h1 h2 => he k h1 (by omega)
theorem openM_stC {c : Nat → List Cut} {k : Nat} : ∀ n, openM (stC c n) k = if k < n then unionM (c k) else 0
  | 0 => rfl
  | n + 1 => by
    rw [stC]
    by_cases h0 : c n = []
    · rw [if_pos h0, openM_stC n]
      by_cases e : k = n
      · subst e; rw [if_neg (by omega), if_pos (by omega), h0]; rfl
      · by_cases h : k < n
        · rw [if_pos h, if_pos (by omega)]
        · rw [if_neg h, if_neg (by omega)]
    · rw [if_neg h0, openM_snoc]
      simp only [updM, Int.toNat_natCast]
      by_cases e : k = n
      · subst e
        rw [if_pos rfl, openM_stC k, if_neg (by omega), if_pos (by omega), Nat.zero_or]
      · rw [if_neg e, openM_stC n]
        by_cases h : k < n
        · rw [if_pos h, if_pos (by omega)]
        · rw [if_neg h, if_neg (by omega)]
/-- What an operation does to bits. -/
def BitOp (op : Nat → Nat → Nat) (is : Bool) : Prop := (∀ x y, U64 x → U64 y → U64 (op x y)) ∧ ∀ (x : Nat) (f n b : Nat), U64 x → b < 64 → f + n ≤ 64 → (op x (runM ((f : Int), (n : Int)))).testBit b = if f ≤ b ∧ b < f + n then is else x.testBit b
theorem turn_bits {op : Nat → Nat → Nat} {is : Bool} (hop : BitOp op is) : ∀ (n a : Nat) (M : Nat → Nat), (∀ k, U64 (M k)) → (∀ k, U64 (turnM op M a n k)) ∧ ∀ k b, b < 64 → (turnM op M a n k).testBit b = if a ≤ 64 * k + b ∧ 64 * k + b < a + n then is else (M k).testBit b := by
  intro n
  induction n using Nat.strongRecOn with
  | ind n ih =>
    intro a M hM
    by_cases h0 : n = 0
    · subst h0
      refine ⟨hM, fun k b hb => ?_⟩
      rw [turnM_zero, if_neg (by omega)]
    · rw [turnM_step h0]
      have hU : ∀ k, U64 (updM M (a / 64) (op (M (a / 64)) (runM ((a % 64 : Nat), (min n (64 - a % 64) : Nat)))) k) := updM_u64 hM (hop.1 _ _ (hM _) (runM_u64 (by dsimp only; omega) (by dsimp only; omega) (by dsimp only; omega))) _
      obtain ⟨i1, i2⟩ := ih (n - min n (64 - a % 64)) (by omega) (a + min n (64 - a % 64)) _ hU
      refine ⟨i1, fun k b hb => ?_⟩
      rw [i2 k b hb]
      simp only [updM]
      by_cases e : k = a / 64
      · rw [if_pos e, hop.2 _ _ _ b (hM _) hb (by omega), ← e]
        by_cases h1 : a ≤ 64 * k + b ∧ 64 * k + b < a + n
        · rw [if_pos h1]
          split
          · rfl
          · rw [if_pos (by omega)]
        · rw [if_neg h1, if_neg (by omega), if_neg (by omega)]
      · rw [if_neg e]
        by_cases h1 : a ≤ 64 * k + b ∧ 64 * k + b < a + n
        · rw [if_pos h1, if_pos (by omega)]
        · rw [if_neg h1, if_neg (by omega)]
theorem bit_or : BitOp opOr true := ⟨fun x y hx hy => U64.or hx hy, fun x f n b _ _ _ => by
  rw [opOr, Nat.testBit_or, runM_bit _ (by dsimp only; omega) (by dsimp only; omega)]
  by_cases h : f ≤ b ∧ b < f + n
  · rw [if_pos h, decide_eq_true (by dsimp only; omega), Bool.or_true]
  · rw [if_neg h, decide_eq_false (by dsimp only; omega), Bool.or_false]⟩
theorem bit_off : BitOp opOff false := ⟨fun x y hx _ => opOff_u64 hx, fun x f n b hx hb hf => by
  have hr : U64 (runM ((f : Int), (n : Int))) := runM_u64 (by dsimp only; omega) (by dsimp only; omega) (by dsimp only; omega)
  have h64 : 18446744073709551615 - runM ((f : Int), (n : Int)) = 2 ^ 64 - (runM ((f : Int), (n : Int)) + 1) := by
    unfold U64 at hr; omega
  rw [opOff, Nat.testBit_and, h64, Nat.testBit_two_pow_sub_succ hr, runM_bit _ (by dsimp only; omega) (by dsimp only; omega)]
  by_cases h : f ≤ b ∧ b < f + n
  · rw [if_pos h, decide_eq_true (p := (_ ∧ _)) (by dsimp only; omega)]; simp
  · rw [if_neg h, decide_eq_false (p := (_ ∧ _)) (by dsimp only; omega)]; simp [hb]⟩
theorem sep_u64 {l : List Cut} (h : Sep 0 l) : U64 (unionM l) := unionM_u64 fun c hc => by have := h.all c hc; omega
theorem check_good {s : List Page} (h : checkM s = 0) : (∀ p ∈ s, 0 ≤ p.1 ∧ p.1 < 1024 ∧ ∀ c ∈ p.2, badCut c = false) ∧ Can (-1) s := by
  obtain ⟨_, h2, h3⟩ := check_valid h
  refine ⟨fun p hp => ?_, okFrom_can h2 h3⟩
  have := h2 p hp
  simp only [okPage, Bool.and_eq_true, decide_eq_true_eq, Bool.not_eq_true', List.any_eq_false] at this
  exact ⟨this.1.1, this.1.2, fun c hc => by simpa using this.2 c hc⟩
end Go.Pol
namespace Go.Proofs.YtjhmknnokloneaaDoor
open Go Go.Am Go.Pol
theorem ask_zero {s : List Page} {a n : Int} (h : askM s a n = 0) : checkM s = 0 ∧ 0 ≤ a ∧ 0 ≤ n ∧ a + n ≤ 65536 := by
  unfold askM at h
  split at h
  · rename_i h1
    split at h
    · rename_i h2
      simp only [okZone, decide_eq_true_eq] at h2
      exact ⟨h1, by omega, by omega, by omega⟩
    · cases h
  · rename_i h1; exact absurd h h1
end Go.Proofs.YtjhmknnokloneaaDoor
