/-
  ZeroingGives: what the law's function returns: true, at any state and zone.
-/
import Derived.Test.YtjhmknnokloneaaDoorGc
import Derived.Test.YtjhmknnokloneaaDoorYs
set_option linter.unusedSimpArgs false
set_option linter.unusedVariables false
namespace Go.Proofs.YtjhmknnokloneaaDoor
open Go Go.Am Go.Pol
theorem plain_cutI {c : Cut} : Plain (.agg [.int .i64 c.1, .int .i64 c.2]) := plain_cut
theorem gives_far (s : List Page) (a n : Int) (hfar : PureC Tryd.prog G0 9 [stateA s] (.bool true)) :
    PureC Tryd.prog G0 5 [stateA s, .agg [.int .i64 a, .int .i64 n]] (.bool true) := by
  refine pure_x hmix b5 plainG ⟨plain_state, plain_cut (c := (a, n)), trivial⟩ plain_bool rfl ?_
  unfold c5
  have h7 := k_awake
  simp only [stateA, pagesA] at *
  generalize s.map pageA = S at *
  ((repeat' ((try (conv => whnf)); first | (with_reducible first | refine run_cons ?_ | refine runq_cons ?_ | refine code_seq ?_ | refine code_reg ?_ | refine code_cond ?_ | refine run_nil ?_ | refine runq_nil ?_ | refine rund_op rfl ?_ | refine rund_nil ?_ | refine code_block ?_ | refine code_skip ?_ | refine code_exit ?_ | refine code_ret ?_ | refine code_range ?_ | refine rund_fast (by decide +kernel) ?_ | refine rund_slow (by decide +kernel) ?_ | refine br_tt ?_ | refine br_ff ?_ | refine br_n ?_ | refine br_and ?_ | refine br_or ?_ | refine br_t (by assumption) ?_ | refine br_f (by assumption) ?_ | refine eq_i64 (by omega) ?_ | refine el_tn ?_) | (with_reducible refine br_d ?_ ?_ <;> intro hsp <;> first | (exfalso; omega) | skip) | ((with_reducible refine ck_x ?_ ?_); focus (first | omega | rfl | assumption | decide | (simp only [List.length_map, List.length_cons, List.length_nil]; omega))) | (with_reducible first | refine eq_tn ?_ | refine eq_tn1 ?_ | refine eq_tn2 ?_ | refine eq_m1 ?_ | refine eq_m2 ?_ | refine eq_zm ?_ | refine eq_z ?_ | refine len_map ?_ | refine len_sl ?_ | refine len_nils ?_ | refine len_own' ?_ | refine len_isl ?_ | refine eq_u8 (by omega) ?_ | refine eq_u16 (by omega) ?_) | (with_reducible first | refine eq_rfl ?_ | refine ChkX.mk (by kernel_rfl) ?_ | refine code_q rfl ?_ | refine code_d (by decide +kernel) ?_ | refine end_go rfl ?_) | refine cx_pure (hfar) ?_ | refine qcx (hfar) ?_ | refine dcx_pure (hfar) ?_ | refine cx_pure (h7) ?_ | refine qcx (h7) ?_ | refine dcx_pure (h7) ?_ | refine len_map ?_ | refine len_isl ?_ | refine el_of rfl rfl ?_ | refine del_own ?_ | refine del_own' rfl ?_ | refine as_go rfl ?_ | refine rd_go rfl ?_ | refine rg_end rfl ?_ | refine flat_ownX ?_ | (with_reducible refine br_b ?_ ?_ <;> intro hsp))) <;> (try (conv => whnf)))
  all_goals exact end_bool rfl
theorem gives_walk (s : List Page) (a n e v : Int) (b : Bool) (L : List Cut) (hfar : PureC Tryd.prog G0 9 [stateA s] (.bool false))
    (h1 : PureC Tryd.prog G0 18 [stateA s, .int .i64 a, .int .i64 n] (.tup [cutsA L, .int .i64 e]))
    (h2 : PureC Tryd.prog G0 19 [stateA s, .int .i64 a, .int .i64 n] (.tup [cutsA L, .int .i64 e]))
    (h3 : PureC Tryd.prog G0 16 [stateA s, .int .i64 a, .int .i64 n] (.tup [.int .i64 v, .int .i64 e]))
    (h4 : PureC Tryd.prog G0 20 [stateA s, .int .i64 a, .int .i64 n] (.tup [.int .i64 v, .int .i64 e]))
    (h5 : PureC Tryd.prog G0 21 [stateA s, .int .i64 a, .int .i64 n] (.tup [.bool b, .int .i64 e]))
    (h6 : PureC Tryd.prog G0 22 [stateA s, .int .i64 a, .int .i64 n] (.tup [.bool b, .int .i64 e]))
    (hz : PureC Tryd.prog G0 23 [cutsA L, cutsA L] (.bool true)) :
    PureC Tryd.prog G0 5 [stateA s, .agg [.int .i64 a, .int .i64 n]] (.bool true) := by
  refine pure_x hmix b5 plainG ⟨plain_state, plain_cut (c := (a, n)), trivial⟩ plain_bool rfl ?_
  unfold c5
  have h7 := k_awake
  simp only [stateA, pagesA, cutsA] at *
  generalize s.map pageA = S at *
  generalize L.map cutA = L' at *
  ((repeat' ((try (conv => whnf)); first | (with_reducible first | refine run_cons ?_ | refine runq_cons ?_ | refine code_seq ?_ | refine code_reg ?_ | refine code_cond ?_ | refine run_nil ?_ | refine runq_nil ?_ | refine rund_op rfl ?_ | refine rund_nil ?_ | refine code_block ?_ | refine code_skip ?_ | refine code_exit ?_ | refine code_ret ?_ | refine code_range ?_ | refine rund_fast (by decide +kernel) ?_ | refine rund_slow (by decide +kernel) ?_ | refine br_tt ?_ | refine br_ff ?_ | refine br_n ?_ | refine br_and ?_ | refine br_or ?_ | refine br_t (by assumption) ?_ | refine br_f (by assumption) ?_ | refine eq_i64 (by omega) ?_ | refine el_tn ?_) | (with_reducible refine br_d ?_ ?_ <;> intro hsp <;> first | (exfalso; omega) | skip) | ((with_reducible refine ck_x ?_ ?_); focus (first | omega | rfl | assumption | decide | (simp only [List.length_map, List.length_cons, List.length_nil]; omega))) | (with_reducible first | refine eq_tn ?_ | refine eq_tn1 ?_ | refine eq_tn2 ?_ | refine eq_m1 ?_ | refine eq_m2 ?_ | refine eq_zm ?_ | refine eq_z ?_ | refine len_map ?_ | refine len_sl ?_ | refine len_nils ?_ | refine len_own' ?_ | refine len_isl ?_ | refine eq_u8 (by omega) ?_ | refine eq_u16 (by omega) ?_) | (with_reducible first | refine eq_rfl ?_ | refine ChkX.mk (by kernel_rfl) ?_ | refine code_q rfl ?_ | refine code_d (by decide +kernel) ?_ | refine end_go rfl ?_) | refine cx_pure (hfar) ?_ | refine qcx (hfar) ?_ | refine dcx_pure (hfar) ?_ | refine cx_pure (h1) ?_ | refine qcx (h1) ?_ | refine dcx_pure (h1) ?_ | refine cx_pure (h2) ?_ | refine qcx (h2) ?_ | refine dcx_pure (h2) ?_ | refine cx_pure (h3) ?_ | refine qcx (h3) ?_ | refine dcx_pure (h3) ?_ | refine cx_pure (h4) ?_ | refine qcx (h4) ?_ | refine dcx_pure (h4) ?_ | refine cx_pure (h5) ?_ | refine qcx (h5) ?_ | refine dcx_pure (h5) ?_ | refine cx_pure (h6) ?_ | refine qcx (h6) ?_ | refine dcx_pure (h6) ?_ | refine cx_pure (hz) ?_ | refine qcx (hz) ?_ | refine dcx_pure (hz) ?_ | refine cx_pure (h7) ?_ | refine qcx (h7) ?_ | refine dcx_pure (h7) ?_ | refine len_map ?_ | refine len_isl ?_ | refine el_of rfl rfl ?_ | refine del_own ?_ | refine del_own' rfl ?_ | refine as_go rfl ?_ | refine rd_go rfl ?_ | refine rg_end rfl ?_ | refine flat_ownX ?_ | (with_reducible refine br_b ?_ ?_ <;> intro hsp))) <;> (try (conv => whnf)))
  all_goals first | exact end_bool rfl | (exfalso; simp at hsp; done)
theorem k_gives (s : List Page) (a n : Int) (hs : s.length ≤ 9223372036854775807) (hc : ∀ p ∈ s, p.2.length ≤ 9223372036854775807) :
    PureC Tryd.prog G0 5 [stateA s, .agg [.int .i64 a, .int .i64 n]] (.bool true) := by
  have hfar := k_far s hs hc
  by_cases hf : farM s = true
  · rw [hf] at hfar
    exact gives_far s a n hfar
  · have hf' : farM s = false := by simpa using hf
    rw [hf'] at hfar
    obtain ⟨g1, g2, g3⟩ := far_false hf'
    have g4 : ∀ p ∈ s, p.2.length ≤ 100 := fun p hp => by have := g3 p hp; omega
    have go : ∀ (e : Int) (L : List Cut), L.length ≤ 1000000 → (∀ z ∈ L, 0 ≤ z.2 ∧ z.2 ≤ 65536) → PureC Tryd.prog G0 18 [stateA s, .int .i64 a, .int .i64 n] (.tup [cutsA L, .int .i64 e]) → PureC Tryd.prog G0 19 [stateA s, .int .i64 a, .int .i64 n] (.tup [cutsA L, .int .i64 e]) → PureC Tryd.prog G0 5 [stateA s, .agg [.int .i64 a, .int .i64 n]] (.bool true) := fun e L hL hv w1 w2 => by
      have hz := k_zones L L hL hL
      rw [show sameL L L = true by simp [sameL]] at hz
      exact gives_walk s a n e _ _ L hfar w1 w2 (k_cost s a n e L hL hv w1) (k_rcost s a n e L hL hv w2) (k_clean s a n e L hL w1) (k_rclean s a n e L hL w2) hz
    by_cases h0 : askM s a n = 0
    · obtain ⟨c0, ha, hn, han⟩ := ask_zero h0
      obtain ⟨hg, hcan⟩ := check_good c0
      have w1 := k_given s a n (by omega) g4 fun _ => ⟨hg, ha, hn, han⟩
      have w2 := k_rgiven s a n (by omega) g4 fun _ => ⟨hg, ha, hn, han⟩
      rw [if_pos h0, h0] at w1 w2
      rw [given_ref hcan ha hn han] at w1
      have hl := givenR_len a n s g4
      exact go 0 _ (by omega) (fun z hz => by have := zone_val hn z hz; omega) w1 w2
    · have w1 := k_given s a n (by omega) g4 fun h => absurd h h0
      have w2 := k_rgiven s a n (by omega) g4 fun h => absurd h h0
      rw [if_neg h0] at w1 w2
      exact go _ [] (by simp) (fun z hz => by cases hz) w1 w2
end Go.Proofs.YtjhmknnokloneaaDoor
