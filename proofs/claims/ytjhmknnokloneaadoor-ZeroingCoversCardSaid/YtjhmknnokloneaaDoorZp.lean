/-
  Plain words of layer 15: cuts, pages, states, and what is wrong with them. No program in sight.
-/
import Derived.Test.YtjhmknnokloneaaDoorRuns
import Derived.Test.YtjhmknnokloneaaDoorAmDSim
set_option linter.unusedSimpArgs false
set_option linter.unusedVariables false
namespace Go.Pol
abbrev Page := Int × List Cut
theorem ones_shr : ∀ n, n < 65 → 1 ≤ n → 18446744073709551615 / 2 ^ (64 - n) = 2 ^ n - 1 := by decide +kernel
theorem run_lt {f n : Nat} (h : f + n ≤ 64) : (2 ^ n - 1) * 2 ^ f < 18446744073709551616 := by
  have h1 : (2 ^ n - 1) * 2 ^ f < 2 ^ n * 2 ^ f := Nat.mul_lt_mul_of_pos_right (by have := Nat.pow_pos (a := 2) (n := n) (by omega); omega) (Nat.pow_pos (by omega))
  rw [← Nat.pow_add] at h1
  have h2 : 2 ^ (n + f) ≤ 2 ^ 64 := Nat.pow_le_pow_right (by omega) (by omega)
  omega
theorem bytes_val {f n : Nat} (hn : 1 ≤ n) (hf : f + n ≤ 64) : IntKind.u64.wrap (18446744073709551615 / 2 ^ (64 - n) * 2 ^ f) = ((((2 ^ n - 1) * 2 ^ f : Nat)) : Int) := by
  have h1 := ones_shr n (by omega) hn
  have h2 := run_lt hf
  have h3 : ((18446744073709551615 : Int) / 2 ^ (64 - n) * 2 ^ f) = (((2 ^ n - 1) * 2 ^ f : Nat) : Int) := by
    rw [← h1]; simp
  rw [h3, IntKind.wrap_u64]
  omega
/-- Is a cut not as it should be? -/
def badCut (c : Int × Int) : Bool := decide (c.1 < 0 ∨ 64 ≤ c.1 ∨ c.2 < 1 ∨ 64 - c.1 < c.2)
/-- Is that a zone of the memory? -/
def okZone (a b : Int) : Bool := decide (0 ≤ a ∧ a ≤ 65536 ∧ 0 ≤ b ∧ b ≤ 65536 - a)
/-- Is that a span? -/
def okSpan (a b : Int) : Bool := decide (0 ≤ a ∧ a < 1024 ∧ 1 ≤ b ∧ b ≤ 1024 - a)
theorem bad_u64 {c : Cut} (h : badCut c = false) : U64 (runM c) := by
  simp [badCut] at h
  exact runM_u64 h.1 (by omega) (by omega)
/-- Are two lists of pairs one? -/
def sameL (l1 l2 : List (Int × Int)) : Bool := decide (l1 = l2)
theorem sameL_len {l1 l2 : List (Int × Int)} (h : l1.length ≠ l2.length) : sameL l1 l2 = false := by simp [sameL]; intro e; exact h (by rw [e])
theorem sameL_all {l1 l2 : List (Int × Int)} {k : Nat} (h : l1.length = l2.length) (hk : ¬ k < l1.length) (hp : l1.take k = l2.take k) : sameL l1 l2 = true := by
  rw [List.take_of_length_le (by omega), List.take_of_length_le (by omega)] at hp
  simp [sameL, hp]
theorem sameL_ne {l1 l2 : List (Int × Int)} {k : Nat} (h : nth (0, 0) l1 k ≠ nth (0, 0) l2 k) : sameL l1 l2 = false := by
  simp only [sameL, decide_eq_false_iff_not]; intro e; exact h (by rw [e])
theorem nth_ne {l1 l2 : List (Int × Int)} {k : Nat} (h : ¬ ((nth (0, 0) l1 k).1 = (nth (0, 0) l2 k).1 ∧ (nth (0, 0) l1 k).2 = (nth (0, 0) l2 k).2)) : nth (0, 0) l1 k ≠ nth (0, 0) l2 k := fun e => h (by rw [e]; exact ⟨rfl, rfl⟩)
theorem take_step {l1 l2 : List (Int × Int)} {k : Nat} (hl : l1.length = l2.length) (hk : k < l1.length) (h : (nth (0, 0) l1 k).1 = (nth (0, 0) l2 k).1 ∧ (nth (0, 0) l1 k).2 = (nth (0, 0) l2 k).2) (hp : l1.take k = l2.take k) : l1.take (k + 1) = l2.take (k + 1) := by
  rw [take_nth (d := (0, 0)) hk, take_nth (d := (0, 0)) (by omega), hp, Prod.ext h.1 h.2]
def okPage (p : Page) : Bool := decide (0 ≤ p.1) && decide (p.1 < 1024) && !p.2.any badCut
/-- Is a page as it should be, the one before it having the number last? -/
def okNext (last : Int) (p : Page) : Bool := decide (last < p.1) && decide (0 < p.2.length) && decide (p.2.length ≤ 4) && sameL (cutsM (unionM p.2)) p.2
def okFrom : Int → List Page → Bool
  | _, [] => true
  | last, p :: s => okNext last p && okFrom p.1 s
def checkM (s : List Page) : Int := if 1024 < s.length then 3 else if s.all okPage then (if okFrom (-1) s then 0 else 6) else 7
def lastP (s : List Page) (k : Nat) : Int := if k = 0 then -1 else (nth (0, []) s (k - 1)).1
theorem okFrom_drop {s : List Page} {k : Nat} (hk : k < s.length) : okFrom (lastP s k) (s.drop k) = (okNext (lastP s k) (nth (0, []) s k) && okFrom (lastP s (k + 1)) (s.drop (k + 1))) := by
  rw [List.drop_eq_getElem_cons hk, okFrom, nth_get hk]
  congr 2
  unfold lastP
  rw [if_neg (by omega), Nat.add_sub_cancel, nth_get hk]
theorem check_long {s : List Page} (h : 1024 < s.length) : checkM s = 3 := by rw [checkM, if_pos h]
theorem check_range {s : List Page} {k : Nat} (h : ¬ 1024 < s.length) (hk : k < s.length) (hb : okPage (nth (0, []) s k) = false) : checkM s = 7 := by
  rw [checkM, if_neg h, if_neg]
  simp only [List.all_eq_true]
  intro hall
  rw [hall _ (nth_mem hk)] at hb
  cases hb
theorem all_take_step {s : List Page} {k : Nat} (hk : k < s.length) (h : (s.take k).all okPage = true) (hb : okPage (nth (0, []) s k) = true) : (s.take (k + 1)).all okPage = true := by
  rw [take_nth (d := (0, [])) hk]; simp [h, hb]
theorem check_form {s : List Page} {k : Nat} (h : ¬ 1024 < s.length) (ha : s.all okPage = true) (hk : k < s.length) (hf : okFrom (-1) s = okFrom (lastP s k) (s.drop k)) (hb : okNext (lastP s k) (nth (0, []) s k) = false) : checkM s = 6 := by
  rw [checkM, if_neg h, if_pos ha, hf, okFrom_drop hk, hb]; rfl
theorem check_ok {s : List Page} {k : Nat} (h : ¬ 1024 < s.length) (ha : s.all okPage = true) (hk : ¬ k < s.length) (hf : okFrom (-1) s = okFrom (lastP s k) (s.drop k)) : checkM s = 0 := by
  rw [checkM, if_neg h, if_pos ha, hf, List.drop_eq_nil_of_le (by omega)]; rfl
theorem form_step {s : List Page} {k : Nat} (hk : k < s.length) (hf : okFrom (-1) s = okFrom (lastP s k) (s.drop k)) (hb : okNext (lastP s k) (nth (0, []) s k) = true) : okFrom (-1) s = okFrom (lastP s (k + 1)) (s.drop (k + 1)) := by
  rw [hf, okFrom_drop hk, hb]; rfl
theorem sep_of : ∀ (l : List Cut) (a : Int), (∀ c ∈ l, badCut c = false) → (∀ c, l.head? = some c → a ≤ c.1) →
    (∀ j, j + 1 < l.length → (nth (0, 0) l j).1 + (nth (0, 0) l j).2 < (nth (0, 0) l (j + 1)).1) → Sep a l
  | [], _, _, _, _ => trivial
  | c :: l, a, hb, hh, hs => by
    have h0 := hb c (by simp)
    simp [badCut] at h0
    refine ⟨hh c rfl, by omega, by omega, sep_of l _ (fun d hd => hb d (by simp [hd])) (fun d hd => ?_) (fun j hj => hs (j + 1) (by simpa using hj))⟩
    cases l with
    | nil => cases hd
    | cons e l =>
      have : e = d := by simpa using hd
      subst this
      have := hs 0 (by simp)
      simp [nth] at this
      omega
theorem same_sep {cuts : List Cut} (hb : ∀ c ∈ cuts, badCut c = false) : sameL (cutsM (unionM cuts)) cuts = true ↔ (∀ j, j + 1 < cuts.length → (nth (0, 0) cuts j).1 + (nth (0, 0) cuts j).2 < (nth (0, 0) cuts (j + 1)).1) := by
  have h1 : sameL (cutsM (unionM cuts)) cuts = true ↔ cutsM (unionM cuts) = cuts := by simp [sameL]
  rw [h1, sep_iff]
  constructor
  · intro h j hj
    have := (h.at_ (k := j) (by omega)).2.2.2 hj
    omega
  · intro h
    refine sep_of cuts 0 hb (fun c hc => ?_) h
    have h0 := hb c (List.mem_of_mem_head? hc)
    simp [badCut] at h0
    omega
/-- What the reference asks of a page behind others. -/
def stepsB (cuts : List Cut) : Prop := ∀ j, j + 1 < cuts.length → (nth (0, 0) cuts j).1 + (nth (0, 0) cuts j).2 < (nth (0, 0) cuts (j + 1)).1
theorem toNat_pred {i : Nat} : ((i : Int) - 1).toNat = i - 1 := by omega

/-- The least gap of those below k, as the loop has it: 64 where there is none yet. -/
def leastL (l : List Cut) (k : Nat) : Int := if k = 0 then 64 else gapL l (bestL l k)
theorem least_yes {l : List Cut} {k : Nat} (h : gapL l k < leastL l k) : bestL l (k + 1) = k ∧ leastL l (k + 1) = gapL l k := by
  unfold leastL at *
  rcases Nat.eq_zero_or_pos k with rfl | h0
  · exact ⟨by simp [bestL], by simp [bestL]⟩
  · rw [if_neg (by omega)] at h
    have : bestL l (k + 1) = k := by rw [bestL, if_pos h]
    exact ⟨this, by rw [if_neg (by omega), this]⟩
theorem least_no {l : List Cut} {k : Nat} (hs : Sep 0 l) (hk : k + 1 < l.length) (h : ¬ gapL l k < leastL l k) : bestL l (k + 1) = bestL l k ∧ leastL l (k + 1) = leastL l k := by
  unfold leastL at *
  rcases Nat.eq_zero_or_pos k with rfl | h0
  · have := hs.gap hk
    rw [if_pos rfl] at h
    omega
  · rw [if_neg (by omega)] at h
    have : bestL l (k + 1) = bestL l k := by rw [bestL, if_neg h]
    exact ⟨this, by rw [if_neg (by omega), if_neg (by omega), this]⟩
theorem merge_sep : ∀ (l : List Cut) (a : Int) (b : Nat), Sep a l → b + 1 < l.length → Sep a ((widen l b).eraseIdx (b + 1))
  | [], _, _, _, hb => by simp at hb
  | [c], _, _, _, hb => by simp at hb
  | c :: d :: l, a, 0, h, _ => by
    have h1 := h.1
    have h2 := h.2.1
    have h3 := h.2.2.2
    have h4 := h3.1
    have h5 := h3.2.1
    refine ⟨h1, ?_, ?_, ?_⟩
    · show 1 ≤ d.1 + d.2 - c.1; omega
    · show c.1 + (d.1 + d.2 - c.1) ≤ 64; have := h3.2.2.1; omega
    · show Sep (c.1 + (d.1 + d.2 - c.1) + 1) l
      rw [show c.1 + (d.1 + d.2 - c.1) + 1 = d.1 + d.2 + 1 by omega]
      exact h3.2.2.2
  | c :: d :: l, a, b + 1, h, hb => ⟨h.1, h.2.1, h.2.2.1, merge_sep (d :: l) _ b h.2.2.2 (by simpa using hb)⟩
theorem cell_value {l : List Cut} {b : Nat} : (nth (0, 0) l b).2 + (gapL l b + (nth (0, 0) l (b + 1)).2) = (nth (0, 0) l (b + 1)).1 + (nth (0, 0) l (b + 1)).2 - (nth (0, 0) l b).1 := by
  unfold gapL; omega
def lenOf : Value → Nat
  | .slice _ n _ => n
  | _ => 0
end Go.Pol
