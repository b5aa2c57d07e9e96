/-
  ZeroingCovers: the law's function returns true, at any list of acts.
-/
import Derived.Test.YtjhmknnokloneaaDoorVc
set_option linter.unusedSimpArgs false
set_option linter.unusedVariables false
namespace Go.Proofs.YtjhmknnokloneaaDoor
open Go Go.Am Go.Pol
theorem inv_open {f : Nat → Bool} {W : Nat → Nat} (h : Inv f W) {a : Nat} (ha : a < 1024) (hf : f a = true) : bitM (openM (stateM W 1024)) a = true := by
  rw [bit_open h.1 (by omega)]; exact h.2.2 a ha hf
theorem open_high {W : Nat → Nat} (hU : ∀ k, U64 (W k)) (h : ∀ k, 16 ≤ k → W k = 0) {k : Nat} (hk : 16 ≤ k) : openM (stateM W 1024) k = 0 := by
  rw [stateM_stC hU, openM_stC]
  split
  · rw [h k hk]; rfl
  · rfl
theorem open_u {W : Nat → Nat} (hU : ∀ k, U64 (W k)) : ∀ k, U64 (openM (stateM W 1024) k) := fun k => openM_u64 (fun p hp => ((check_good (check_state hU)).1 p hp).2.2) k
theorem inv_turn {f f' : Nat → Bool} {W : Nat → Nat} {op : Nat → Nat → Nat} {is : Bool} (hop : BitOp op is) (h : Inv f W) {a n : Nat} (ha : a + n ≤ 1024) (hf : ∀ x, x < 1024 → f' x = true → if a ≤ x ∧ x < a + n then is = true else f x = true) : Inv f' (turnM op (openM (stateM W 1024)) a n) := by
  have hO := open_u h.1
  have hU := (turn_bits hop n a _ hO).1
  refine ⟨hU, fun k hk => ?_, fun x hx hfx => inS_state hU (by omega) ?_⟩
  · refine ext64 (hU k) ((by decide : (0 : Nat) < 18446744073709551616)) fun b hb => ?_
    rw [(turn_bits hop n a _ hO).2 k b hb, if_neg (by omega), open_high h.1 h.2.1 hk]
  · rw [turn_bit hop hO]
    have := hf x hx hfx
    split at this
    · rename_i hz; rw [if_pos hz]; exact this
    · rename_i hz; rw [if_neg hz]; exact inv_open h hx this
theorem low_stC {c : Nat → List Cut} (h : ∀ k, 16 ≤ k → c k = []) : ∀ n, ∀ p ∈ stC c n, p.1 < 16
  | 0, p, hp => by cases hp
  | n + 1, p, hp => by
    rw [stC] at hp
    split at hp
    · exact low_stC h n p hp
    · rename_i h0
      rcases List.mem_append.1 hp with hp | hp
      · exact low_stC h n p hp
      · obtain rfl := List.mem_singleton.1 hp
        have : ¬ 16 ≤ n := fun hn => h0 (h n hn)
        dsimp only; omega
theorem inv_low {W : Nat → Nat} (hU : ∀ k, U64 (W k)) (h : ∀ k, 16 ≤ k → W k = 0) : ∀ p ∈ stateM W 1024, p.1 < 16 := by
  rw [stateM_stC hU]
  exact low_stC (fun k hk => by rw [(down_nil (hU k)).2 (h k hk)]) _
theorem inv_len {W : Nat → Nat} (hU : ∀ k, U64 (W k)) : (stateM W 1024).length ≤ 2000 ∧ (∀ p ∈ stateM W 1024, p.2.length ≤ 100) ∧ checkM (stateM W 1024) = 0 := by
  have := stateM_length W 1024
  exact ⟨by omega, fun p hp => by have := can_four (stateM_can hU) p hp; omega, check_state hU⟩
theorem zone_ok {W : Nat → Nat} (hU : ∀ k, U64 (W k)) {a n : Nat} (h : a + n ≤ 1024) : askM (stateM W 1024) (a : Nat) (n : Nat) = 0 := by
  rw [askM, if_pos (check_state hU), if_pos]
  simp only [okZone, decide_eq_true_eq]; omega
theorem c_wrote (f : Nat → Bool) (W : Nat → Nat) (z : Zn) (h : Inv f W) (hz : z.1 + z.2 ≤ 1024) : ∃ W', Inv (onB f z.1 z.2) W' ∧ PureC Tryd.prog G0 11 [stateA (stateM W 1024), .int .i64 (z.1 : Nat), .int .i64 (z.2 : Nat)] (.tup [stateA (stateM W' 1024), .int .i64 0]) := by
  obtain ⟨g1, g2, g3⟩ := inv_len h.1
  have hok := zone_ok h.1 hz
  refine ⟨turnM opOr (openM (stateM W 1024)) z.1 z.2, inv_turn bit_or h hz fun x hx hf => ?_, ?_⟩
  · unfold onB at hf
    split
    · rfl
    · rename_i hn; rw [if_neg hn] at hf; exact hf
  · have hw := k_wrote (stateM W 1024) (z.1 : Nat) (z.2 : Nat) g1 g2 fun _ => ⟨(check_good g3).1, by omega, by omega, by omega⟩
    rw [hok, if_pos rfl, Int.toNat_natCast, Int.toNat_natCast] at hw
    exact hw
theorem c_small (f : Nat → Bool) (W : Nat → Nat) (h : Inv f W) : PureC Tryd.prog G0 29 [stateA (stateM W 1024)] (.bool true) := by
  obtain ⟨g1, g2, g3⟩ := inv_len h.1
  exact k_small _ g1 g2 g3 fun p hp => (inv_low h.1 h.2.1 p hp)
theorem c_covered (f : Nat → Bool) (W : Nat → Nat) (h : Inv f W) : PureC Tryd.prog G0 30 [stateA (stateM W 1024), .isl (((List.range 1024).map f).map boolA)] (.bool true) := by
  obtain ⟨g1, g2, g3⟩ := inv_len h.1
  refine k_covered _ _ (by simp) g1 g2 (fun p hp => ⟨((check_good g3).1 p hp).1, inv_low h.1 h.2.1 p hp, ((check_good g3).1 p hp).2.2⟩) fun a ha hn => h.2.2 a ha ?_
  rw [nth_get (by simpa using ha)] at hn
  simpa using hn
theorem c_fresh (f : Nat → Bool) (W : Nat → Nat) (p n : Nat) (h : Inv f W) (hp : p < 16) (h1 : 1 ≤ n) (hpn : p + n ≤ 16) : ∃ W', Inv (offB f (p * 64) (n * 64)) W' ∧ PureC Tryd.prog G0 24 [stateA (stateM W 1024), .agg [.int .i64 (p : Nat), .int .i64 (n : Nat)]] (.tup [stateA (stateM W' 1024), .int .i64 0]) := by
  obtain ⟨g1, g2, g3⟩ := inv_len h.1
  have hO := open_u h.1
  have hU : ∀ k, U64 (clearM (openM (stateM W 1024)) p n k) := fun k => by
    unfold clearM; split; exact (by decide : (0 : Nat) < 18446744073709551616); exact hO k
  refine ⟨clearM (openM (stateM W 1024)) p n, ⟨hU, fun k hk => ?_, fun x hx hf => inS_state hU (by omega) ?_⟩, ?_⟩
  · unfold clearM; split
    · rfl
    · exact open_high h.1 h.2.1 hk
  · rw [clear_bit]
    unfold offB at hf
    split at hf
    · cases hf
    · rename_i hn
      rw [if_neg (by omega)]; exact inv_open h hx hf
  · have ho : okSpan (p : Nat) (n : Nat) = true := by simp only [okSpan, decide_eq_true_eq]; omega
    have hw := k_fresh (stateM W 1024) (p : Nat) (n : Nat) g1 g2 fun h0 => (check_good h0).1
    rw [if_pos ⟨g3, ho⟩, if_pos g3, if_pos ho, Int.toNat_natCast, Int.toNat_natCast] at hw
    exact hw
theorem givenP_len {M : Nat → Nat} : ∀ (n a : Nat), (givenP M a n).length ≤ 64 * n := by
  intro n
  induction n using Nat.strongRecOn with
  | ind n ih =>
    intro a
    by_cases h0 : n = 0
    · subst h0; exact Nat.zero_le _
    · rw [givenP_step h0, List.length_append]
      have := cutsAt_len M a (min n (64 - a % 64))
      have := ih (n - min n (64 - a % 64)) (by omega) (a + min n (64 - a % 64))
      omega
theorem c_given (f : Nat → Bool) (W : Nat → Nat) (z : Zn) (h : Inv f W) (hz : z.1 + z.2 ≤ 1024) : ∃ (L : List Cut) (W' : Nat → Nat), L.length ≤ 100000 ∧ (∀ c ∈ L, (z.1 : Int) ≤ c.1 ∧ 1 ≤ c.2 ∧ c.1 + c.2 ≤ (z.1 : Int) + (z.2 : Nat)) ∧ (∀ a : Nat, z.1 ≤ a → a < z.1 + z.2 → f a = true → ∃ c ∈ L, c.1 ≤ (a : Int) ∧ (a : Int) < c.1 + c.2) ∧ Inv (offB f z.1 z.2) W' ∧
      PureC Tryd.prog G0 18 [stateA (stateM W 1024), .int .i64 (z.1 : Nat), .int .i64 (z.2 : Nat)] (.tup [cutsA L, .int .i64 0]) ∧
      PureC Tryd.prog G0 13 [stateA (stateM W 1024), .int .i64 (z.1 : Nat), .int .i64 (z.2 : Nat)] (.tup [stateA (stateM W' 1024), .int .i64 0]) := by
  obtain ⟨g1, g2, g3⟩ := inv_len h.1
  have hok := zone_ok h.1 hz
  obtain ⟨q1, q2⟩ := given_in (M := openM (stateM W 1024)) z.2 z.1
  refine ⟨givenP (openM (stateM W 1024)) z.1 z.2, turnM opOff (openM (stateM W 1024)) z.1 z.2, by have := givenP_len (M := openM (stateM W 1024)) z.2 z.1; omega, q1, fun a h1 h2 hf => q2 a h1 h2 (inv_open h (by omega) hf), inv_turn bit_off h hz fun x hx hf => ?_, ?_, ?_⟩
  · unfold offB at hf
    split at hf
    · cases hf
    · rename_i hn; rw [if_neg hn]; exact hf
  · have hw := k_given (stateM W 1024) (z.1 : Nat) (z.2 : Nat) g1 g2 fun _ => ⟨(check_good g3).1, by omega, by omega, by omega⟩
    rw [hok, if_pos rfl, Int.toNat_natCast, Int.toNat_natCast] at hw
    exact hw
  · have hw := k_zeroed (stateM W 1024) (z.1 : Nat) (z.2 : Nat) g1 g2 fun _ => ⟨(check_good g3).1, by omega, by omega, by omega⟩
    rw [hok, if_pos rfl, Int.toNat_natCast, Int.toNat_natCast] at hw
    exact hw
theorem k_covers (l : List ZAct) (hr : ∀ x ∈ l, x.1 < 256 ∧ x.2.1 < 65536 ∧ x.2.2 < 256) : PureC Tryd.prog G0 7 [actsA l] (.bool true) := by
  by_cases hl : 60 < l.length
  · exact covers_far l hl
  · exact covers_walk l (by omega) hr c_wrote c_fresh c_given c_small c_covered
end Go.Proofs.YtjhmknnokloneaaDoor
