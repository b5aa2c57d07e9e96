/-
  Plain laws on bytes of a page: the runs of a set of bytes, the numbers whose bits they are, the merging of neighbouring runs. No program in sight.
-/
import Derived.Lib.TrailingZeros
set_option linter.unusedSimpArgs false
set_option linter.unusedVariables false
namespace Go.Pol
abbrev Cut := Int × Int
/-- The last cut has one byte more. -/
def bump : List Cut → List Cut
  | [] => []
  | [c] => [(c.1, c.2 + 1)]
  | c :: d :: l => c :: bump (d :: l)
theorem bump_snoc (l : List Cut) (c : Cut) : bump (l ++ [c]) = l ++ [(c.1, c.2 + 1)] := by
  induction l with
  | nil => rfl
  | cons a l ih => cases l with
    | nil => rfl
    | cons b l => simp only [List.cons_append, bump] at *; rw [ih]
theorem bump_length (l : List Cut) : (bump l).length = l.length := by
  induction l with
  | nil => rfl
  | cons a l ih => cases l with
    | nil => rfl
    | cons b l => simp only [bump, List.length_cons] at *; omega
def stepRun (m : Nat → Bool) (l : List Cut) (b : Nat) : List Cut :=
  if m b then (if 0 < b ∧ m (b - 1) then bump l else l ++ [((b : Int), 1)]) else l
/-- The longest runs of the bytes below n, ascending. -/
def runs (m : Nat → Bool) : Nat → List Cut
  | 0 => []
  | b + 1 => stepRun m (runs m b) b
theorem runs_const (m : Nat → Bool) (a : Nat) : ∀ n, (∀ b, a ≤ b → b < a + n → m b = false) → runs m (a + n) = runs m a
  | 0, _ => rfl
  | n + 1, h => by
    show stepRun m (runs m (a + n)) (a + n) = _
    unfold stepRun
    rw [if_neg (by rw [h (a + n) (by omega) (by omega)]; decide)]
    exact runs_const m a n fun b h1 h2 => h b h1 (by omega)
theorem runs_run (m : Nat → Bool) (f : Nat) (h0 : f = 0 ∨ m (f - 1) = false) : ∀ n, (∀ b, f ≤ b → b < f + (n + 1) → m b = true) → runs m (f + (n + 1)) = runs m f ++ [((f : Int), ((n + 1 : Nat) : Int))]
  | 0, h => by
    show stepRun m (runs m f) f = _
    unfold stepRun
    rw [if_pos (h f (by omega) (by omega)), if_neg]
    · rfl
    · rintro ⟨h1, h2⟩
      rcases h0 with h0 | h0
      · omega
      · rw [h0] at h2; cases h2
  | n + 1, h => by
    show stepRun m (runs m (f + (n + 1))) (f + (n + 1)) = _
    unfold stepRun
    rw [if_pos (h _ (by omega) (by omega)), if_pos ⟨by omega, h _ (by omega) (by omega)⟩, runs_run m f h0 n (fun b h1 h2 => h b h1 (by omega)), bump_snoc]
    simp
theorem runs_congr {m m' : Nat → Bool} : ∀ n, (∀ b, b < n → m b = m' b) → runs m n = runs m' n
  | 0, _ => rfl
  | n + 1, h => by
    show stepRun m (runs m n) n = stepRun m' (runs m' n) n
    rw [runs_congr n fun b hb => h b (by omega)]
    unfold stepRun
    rw [h n (by omega)]
    rcases Nat.eq_zero_or_pos n with h0 | h0
    · subst h0; rfl
    · rw [h (n - 1) (by omega)]
theorem runs_length (m : Nat → Bool) : ∀ n, (runs m n).length ≤ n
  | 0 => Nat.le_refl _
  | n + 1 => by
    have := runs_length m n
    show (stepRun m (runs m n) n).length ≤ _
    unfold stepRun
    split
    · split
      · rw [bump_length]; omega
      · simp; omega
    · omega

/-! ### numbers -/
theorem ctz_spec {x : Nat} (h0 : x ≠ 0) (hx : x < 18446744073709551616) : Lib.ctz 64 x < 64 ∧ x.testBit (Lib.ctz 64 x) = true ∧ ∀ i, i < Lib.ctz 64 x → x.testBit i = false := by
  obtain ⟨k, hk, hlt⟩ := Lib.ctzFrom_spec 64 x (by omega) hx
  have e : Lib.ctz 64 x = Lib.ctzFrom 64 x := by simp [Lib.ctz, h0]
  rw [e]
  generalize Lib.ctzFrom 64 x = z at *
  refine ⟨hlt, ?_, fun i hi => ?_⟩
  · rw [hk, Nat.testBit_two_pow_mul]
    simp
  · rw [hk, Nat.testBit_two_pow_mul]
    simp; omega
theorem ctz_zero : Lib.ctz 64 0 = 64 := rfl
theorem not_bit {x : Nat} (j : Nat) : (18446744073709551615 ^^^ x).testBit j = (decide (j < 64) ^^ x.testBit j) := by
  rw [Nat.testBit_xor]
  have := Nat.testBit_two_pow_sub_one 64 j
  rw [show (18446744073709551615 : Nat) = 2 ^ 64 - 1 from rfl, this]
theorem bit_ge {x j : Nat} (hx : x < 18446744073709551616) (hj : 64 ≤ j) : x.testBit j = false := by
  apply Nat.testBit_lt_two_pow
  have : 2 ^ 64 ≤ 2 ^ j := Nat.pow_le_pow_right (by omega) hj
  omega
/-- The other bits. -/
def cmpl (x : Nat) : Nat := 18446744073709551615 ^^^ x
/-- It has 64 bits. -/
def U64 (x : Nat) : Prop := x < 18446744073709551616
theorem U64.div {x : Nat} (h : U64 x) (k : Nat) : U64 (x / k) := Nat.lt_of_le_of_lt (Nat.div_le_self _ _) h
theorem U64.cmpl {x : Nat} (h : U64 x) : U64 (cmpl x) := Nat.xor_lt_two_pow (n := 64) (by omega) h
/-- What the loop of cuts finds next. -/
theorem cut_next {m a z n : Nat} (hm : U64 m) (hne : m / 2 ^ a ≠ 0) (hz : Lib.ctz 64 (m / 2 ^ a) = z) (hn : Lib.ctz 64 (cmpl (m / 2 ^ (a + z))) = n) :
    a + z < 64 ∧ 1 ≤ n ∧ a + z + n ≤ 64 ∧ (∀ b, a ≤ b → b < a + z → m.testBit b = false) ∧ (∀ b, a + z ≤ b → b < a + z + n → m.testBit b = true) ∧ (a + z + n < 64 → m.testBit (a + z + n) = false) := by
  unfold U64 at hm
  unfold Go.Pol.cmpl at hn
  have hq : m / 2 ^ a < 18446744073709551616 := Nat.lt_of_le_of_lt (Nat.div_le_self _ _) hm
  obtain ⟨hz64, hzt, hzf⟩ := ctz_spec hne hq
  rw [hz] at hz64 hzt hzf
  rw [Nat.testBit_div_two_pow] at hzt
  have e1 : z + a = a + z := Nat.add_comm _ _
  have hlt : a + z < 64 := by
    rcases Nat.lt_or_ge (a + z) 64 with h | h
    · exact h
    · rw [e1, bit_ge hm h] at hzt; cases hzt
  have hzero : ∀ b, a ≤ b → b < a + z → m.testBit b = false := fun b h1 h2 => by
    have := hzf (b - a) (by omega)
    rw [Nat.testBit_div_two_pow] at this
    rwa [show b - a + a = b by omega] at this
  have hy : ∀ j, (18446744073709551615 ^^^ (m / 2 ^ (a + z))).testBit j = (decide (j < 64) ^^ m.testBit (j + (a + z))) := fun j => by rw [not_bit, Nat.testBit_div_two_pow]
  have hylt : 18446744073709551615 ^^^ (m / 2 ^ (a + z)) < 18446744073709551616 := Nat.xor_lt_two_pow (n := 64) (by omega) (Nat.lt_of_le_of_lt (Nat.div_le_self _ _) hm)
  by_cases h0 : 18446744073709551615 ^^^ (m / 2 ^ (a + z)) = 0
  · rw [h0, ctz_zero] at hn
    have hall : ∀ j, j < 64 → m.testBit (j + (a + z)) = true := fun j hj => by
      have := hy j
      rw [h0] at this
      simpa [hj] using this
    have haz : a + z = 0 := by
      rcases Nat.eq_zero_or_pos (a + z) with h | h
      · exact h
      · have := hall (64 - (a + z)) (by omega)
        rw [bit_ge hm (by omega)] at this
        cases this
    refine ⟨hlt, by omega, by omega, hzero, fun b h1 h2 => ?_, fun h => by omega⟩
    have := hall (b - (a + z)) (by omega)
    rwa [show b - (a + z) + (a + z) = b by omega] at this
  · obtain ⟨k1, k2, k3⟩ := ctz_spec h0 hylt
    rw [hn] at k1 k2 k3
    rw [hy] at k2
    have hbits : ∀ b, a + z ≤ b → b < a + z + n → m.testBit b = true := fun b h1 h2 => by
      have := k3 (b - (a + z)) (by omega)
      rw [hy, show b - (a + z) + (a + z) = b by omega] at this
      simpa [show b - (a + z) < 64 by omega] using this
    have hend : m.testBit (a + z + n) = false := by
      rw [show n + (a + z) = a + z + n by omega] at k2
      simpa [k1] using k2
    have hle : a + z + n ≤ 64 := by
      rcases Nat.lt_or_ge 64 (a + z + n) with h | h
      · have := hbits 64 (by omega) h
        rw [bit_ge hm (Nat.le_refl _)] at this
        cases this
      · exact h
    refine ⟨hlt, ?_, hle, hzero, hbits, fun _ => hend⟩
    rcases Nat.eq_zero_or_pos n with h | h
    · subst h
      rw [e1] at hzt
      simp [hzt] at hend
    · exact h
/-- The cuts of a number. -/
def cutsM (m : Nat) : List Cut := runs m.testBit 64
theorem cuts_end {m a : Nat} (ha : a ≤ 64) (h : m / 2 ^ a = 0) : runs m.testBit a = cutsM m := by
  have := runs_const m.testBit a (64 - a) fun b h1 h2 => by
    have hb : (m / 2 ^ a).testBit (b - a) = m.testBit (b - a + a) := by rw [Nat.testBit_div_two_pow]
    rw [h, show b - a + a = b by omega] at hb
    simpa using hb.symm
  rw [show a + (64 - a) = 64 by omega] at this
  exact this.symm
theorem cuts_step {m a z n : Nat} (h0 : a = 0 ∨ m.testBit a = false) (hn : 1 ≤ n) (h1 : ∀ b, a ≤ b → b < a + z → m.testBit b = false) (h2 : ∀ b, a + z ≤ b → b < a + z + n → m.testBit b = true) :
    runs m.testBit (a + z + n) = runs m.testBit a ++ [((a : Int) + z, (n : Int))] := by
  obtain ⟨n, rfl⟩ : ∃ k, n = k + 1 := ⟨n - 1, by omega⟩
  have hc : ((a : Int) + z, ((n + 1 : Nat) : Int)) = (((a + z : Nat) : Int), ((n + 1 : Nat) : Int)) := by simp
  rw [hc, runs_run m.testBit (a + z) ?_ n h2, runs_const m.testBit a z h1]
  rcases Nat.eq_zero_or_pos z with hz | hz
  · subst hz
    rcases h0 with h0 | h0
    · exact .inl (by omega)
    · have := h2 a (by omega) (by omega)
      rw [h0] at this; cases this
  · exact .inr (h1 _ (by omega) (by omega))
end Go.Pol
