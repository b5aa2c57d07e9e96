/-
  Plain laws on the merging of neighbouring cuts. No program in sight.
-/
import Derived.Test.YtjhmknnokloneaaDoorPure
import Derived.Test.YtjhmknnokloneaaDoorAmOwn
set_option linter.unusedSimpArgs false
set_option linter.unusedVariables false
namespace Go.Pol
/-- The bytes between cut k and the next one. -/
def gapL (l : List Cut) (k : Nat) : Int := (nth (0, 0) l (k + 1)).1 - (nth (0, 0) l k).1 - (nth (0, 0) l k).2
/-- The first k with the least gap, of those below n. -/
def bestL (l : List Cut) : Nat → Nat
  | 0 => 0
  | k + 1 => if gapL l k < gapL l (bestL l k) then k else bestL l k
theorem bestL_lt (l : List Cut) : ∀ n, 0 < n → bestL l n < n
  | 0, h => by omega
  | 1, _ => by unfold bestL; split <;> simp [bestL]
  | n + 2, _ => by
    have := bestL_lt l (n + 1) (by omega)
    unfold bestL
    split <;> omega
theorem bestL_le (l : List Cut) (n : Nat) : bestL l n ≤ n := by
  rcases Nat.eq_zero_or_pos n with h | h
  · subst h; simp [bestL]
  · have := bestL_lt l n h; omega
/-- Cut b and the next one become one. -/
def widen (l : List Cut) (b : Nat) : List Cut := l.set b ((nth (0, 0) l b).1, (nth (0, 0) l (b + 1)).1 + (nth (0, 0) l (b + 1)).2 - (nth (0, 0) l b).1)
def merge1 (l : List Cut) : List Cut := (widen l (bestL l (l.length - 1))).eraseIdx (bestL l (l.length - 1) + 1)
theorem widen_length (l : List Cut) (b : Nat) : (widen l b).length = l.length := by simp [widen]
theorem merge1_length {l : List Cut} (h : 4 < l.length) : (merge1 l).length = l.length - 1 := by
  have := bestL_lt l (l.length - 1) (by omega)
  unfold merge1
  rw [List.length_eraseIdx, widen_length, if_pos (by omega)]
/-- At most four cuts are left. -/
def mergeN : Nat → List Cut → List Cut
  | 0, l => l
  | n + 1, l => if 4 < l.length then mergeN n (merge1 l) else l
def mergeL (l : List Cut) : List Cut := mergeN l.length l
theorem mergeN_stop {l : List Cut} (h : ¬ 4 < l.length) : ∀ n, mergeN n l = l
  | 0 => rfl
  | n + 1 => by rw [mergeN, if_neg h]
theorem mergeN_enough : ∀ (n m : Nat) (l : List Cut), l.length ≤ n → l.length ≤ m → mergeN n l = mergeN m l
  | 0, m, l, h, _ => by rw [mergeN_stop (by omega), mergeN_stop (by omega)]
  | n + 1, 0, l, _, h => by rw [mergeN_stop (by omega), mergeN_stop (by omega)]
  | n + 1, m + 1, l, h1, h2 => by
    unfold mergeN
    split
    · rename_i h
      have := merge1_length h
      exact mergeN_enough n m _ (by omega) (by omega)
    · rfl
theorem mergeL_step {l : List Cut} (h : 4 < l.length) : mergeL (merge1 l) = mergeL l := by
  have h1 := merge1_length h
  unfold mergeL
  obtain ⟨n, hn⟩ : ∃ n, l.length = n + 1 := ⟨l.length - 1, by omega⟩
  rw [hn, mergeN, if_pos h]
  exact mergeN_enough _ _ _ (Nat.le_refl _) (by omega)
theorem mergeL_stop {l : List Cut} (h : ¬ 4 < l.length) : mergeL l = l := mergeN_stop h _
/-- Cuts as they are put down. -/
def downM (m : Nat) : List Cut := mergeL (cutsM m)

/-! ### cuts that lie as they should -/
/-- Each cut lies in the bytes below 64, at least one byte behind the one before it (the first from a on). -/
def Sep : Int → List Cut → Prop
  | _, [] => True
  | a, c :: l => a ≤ c.1 ∧ 1 ≤ c.2 ∧ c.1 + c.2 ≤ 64 ∧ Sep (c.1 + c.2 + 1) l
theorem Sep.mono {a b : Int} {l : List Cut} (h : Sep a l) (hb : b ≤ a) : Sep b l := by
  cases l with
  | nil => trivial
  | cons c l => exact ⟨by have := h.1; omega, h.2⟩
theorem Sep.at_ : ∀ {l : List Cut} {a : Int} (_ : Sep a l) {k : Nat}, k < l.length → a ≤ (nth (0, 0) l k).1 ∧ 1 ≤ (nth (0, 0) l k).2 ∧ (nth (0, 0) l k).1 + (nth (0, 0) l k).2 ≤ 64 ∧
    (k + 1 < l.length → (nth (0, 0) l k).1 + (nth (0, 0) l k).2 + 1 ≤ (nth (0, 0) l (k + 1)).1)
  | [], _, _, _, hk => by simp at hk
  | c :: l, a, h, 0, _ => by
    refine ⟨h.1, h.2.1, h.2.2.1, fun h1 => ?_⟩
    cases l with
    | nil => simp at h1
    | cons d l => exact h.2.2.2.1
  | c :: l, a, h, k + 1, hk => by
    have h0 := h.1
    have h1 := h.2.1
    have := Sep.at_ h.2.2.2 (k := k) (by simpa using hk)
    exact ⟨by have := this.1; show a ≤ (nth (0, 0) l k).1; omega, this.2.1, this.2.2.1, fun h2 => this.2.2.2 (by simpa using h2)⟩
theorem Sep.gap {a : Int} {l : List Cut} (h : Sep a l) {k : Nat} (hk : k + 1 < l.length) : 1 ≤ gapL l k ∧ gapL l k ≤ 62 - a := by
  have h1 := h.at_ (k := k) (by omega)
  have h2 := h.at_ (k := k + 1) hk
  have := h1.2.2.2 hk
  unfold gapL
  omega
end Go.Pol
