/-
  ZeroingChecks: what the law's function returns: true, at any state and span.
-/
import Derived.Test.YtjhmknnokloneaaDoorCa
import Derived.Test.YtjhmknnokloneaaDoorYt
import Derived.Test.YtjhmknnokloneaaDoorYs
set_option linter.unusedSimpArgs false
set_option linter.unusedVariables false
namespace Go.Pol
theorem noP_stC {c : Nat → List Cut} {k : Nat} : ∀ n, noP (k : Nat) (stC c n) = stC (fun j => if j = k then [] else c j) n
  | 0 => rfl
  | n + 1 => by
    have ih := noP_stC (c := c) (k := k) n
    rw [stC, stC]
    by_cases e : n = k
    · subst e
      rw [if_pos rfl, if_pos rfl, ← ih]
      split
      · rfl
      · simp [noP]
    · rw [if_neg e]
      split
      · exact ih
      · rw [← ih]
        have : ¬ ((n : Int) = (k : Nat)) := by omega
        simp [noP, this]
theorem freshN_stC {c : Nat → List Cut} {q N : Nat} : ∀ m, freshN (stC c N) (q : Nat) m = stC (fun k => if q ≤ k ∧ k < q + m then [] else c k) N
  | 0 => by
    rw [freshN]
    exact stC_congr N fun k _ => by rw [if_neg (by omega)]
  | m + 1 => by
    rw [freshN, freshN_stC m, show ((q : Nat) : Int) + (m : Nat) = ((q + m : Nat) : Int) by omega, noP_stC]
    refine stC_congr N fun k _ => ?_
    by_cases e : k = q + m
    · rw [if_pos e, if_pos (by omega)]
    · rw [if_neg e]
      by_cases h : q ≤ k ∧ k < q + m
      · rw [if_pos h, if_pos (by omega)]
      · rw [if_neg h, if_neg (by omega)]
theorem clear_ref {s : List Page} {q m : Nat} (hs : Can (-1) s) : stateM (clearM (openM s) q m) 1024 = freshN s (q : Nat) m := by
  have hc := can_cuts hs
  have key : stateM (clearM (openM (stC (cutsIn s) 1024)) q m) 1024 = freshN (stC (cutsIn s) 1024) (q : Nat) m := by
    generalize cutsIn s = c at hc
    rw [freshN_stC, stateM_stC]
    · refine stC_congr _ fun k hk => ?_
      unfold clearM
      by_cases h : q ≤ k ∧ k < q + m
      · rw [if_pos h, if_pos h]; exact (down_nil (show U64 0 from (by decide : (0 : Nat) < 18446744073709551616))).2 rfl
      · rw [if_neg h, if_neg h, openM_stC, if_pos hk]
        show mergeL (cutsM (unionM (c k))) = c k
        rw [cutsM_union (hc k).1, mergeL_four (hc k).2]
    · intro k
      unfold clearM
      split
      · exact (by decide : (0 : Nat) < 18446744073709551616)
      · rw [openM_stC]
        split
        · exact sep_u64 (hc k).1
        · exact (by decide : (0 : Nat) < 18446744073709551616)
  rwa [can_stC hs] at key
end Go.Pol
namespace Go.Proofs.YtjhmknnokloneaaDoor
open Go Go.Am Go.Pol
theorem checks_far (s : List Page) (p n : Int) (hfar : PureC Tryd.prog G0 9 [stateA s] (.bool true)) :
    PureC Tryd.prog G0 6 [stateA s, .agg [.int .i64 p, .int .i64 n]] (.bool true) := by
  refine pure_x hmix b6 plainG ⟨plain_state, plain_cut (c := (p, n)), trivial⟩ plain_bool rfl ?_
  unfold c6
  have h7 := k_awake
  simp only [stateA, pagesA] at *
  generalize s.map pageA = S at *
  ((repeat' ((try (conv => whnf)); first | (with_reducible first | refine run_cons ?_ | refine runq_cons ?_ | refine code_seq ?_ | refine code_reg ?_ | refine code_cond ?_ | refine run_nil ?_ | refine runq_nil ?_ | refine rund_op rfl ?_ | refine rund_nil ?_ | refine code_block ?_ | refine code_skip ?_ | refine code_exit ?_ | refine code_ret ?_ | refine code_range ?_ | refine rund_fast (by decide +kernel) ?_ | refine rund_slow (by decide +kernel) ?_ | refine br_tt ?_ | refine br_ff ?_ | refine br_n ?_ | refine br_and ?_ | refine br_or ?_ | refine br_t (by assumption) ?_ | refine br_f (by assumption) ?_ | refine eq_i64 (by omega) ?_ | refine el_tn ?_) | (with_reducible refine br_d ?_ ?_ <;> intro hsp <;> first | (exfalso; omega) | skip) | ((with_reducible refine ck_x ?_ ?_); focus (first | omega | rfl | assumption | decide | (simp only [List.length_map, List.length_cons, List.length_nil]; omega))) | (with_reducible first | refine eq_tn ?_ | refine eq_tn1 ?_ | refine eq_tn2 ?_ | refine eq_m1 ?_ | refine eq_m2 ?_ | refine eq_zm ?_ | refine eq_z ?_ | refine len_map ?_ | refine len_sl ?_ | refine len_nils ?_ | refine len_own' ?_ | refine len_isl ?_ | refine eq_u8 (by omega) ?_ | refine eq_u16 (by omega) ?_) | (with_reducible first | refine eq_rfl ?_ | refine ChkX.mk (by kernel_rfl) ?_ | refine code_q rfl ?_ | refine code_d (by decide +kernel) ?_ | refine end_go rfl ?_) | refine cx_pure (hfar) ?_ | refine qcx (hfar) ?_ | refine dcx_pure (hfar) ?_ | refine cx_pure (h7) ?_ | refine qcx (h7) ?_ | refine dcx_pure (h7) ?_ | refine len_map ?_ | refine len_isl ?_ | refine el_of rfl rfl ?_ | refine del_own ?_ | refine del_own' rfl ?_ | refine as_go rfl ?_ | refine rd_go rfl ?_ | refine rg_end rfl ?_ | refine flat_ownX ?_ | (with_reducible refine br_b ?_ ?_ <;> intro hsp))) <;> (try (conv => whnf)))
  all_goals exact end_bool rfl
theorem checks_walk (s r : List Page) (p n e f : Int) (hfar : PureC Tryd.prog G0 9 [stateA s] (.bool false))
    (h1 : PureC Tryd.prog G0 24 [stateA s, .agg [.int .i64 p, .int .i64 n]] (.tup [stateA r, .int .i64 e]))
    (h2 : PureC Tryd.prog G0 25 [stateA s, .agg [.int .i64 p, .int .i64 n]] (.tup [stateA r, .int .i64 e]))
    (h3 : PureC Tryd.prog G0 26 [stateA s] (.int .i64 f)) (h4 : PureC Tryd.prog G0 27 [stateA s] (.int .i64 f))
    (h5 : PureC Tryd.prog G0 15 [stateA r, stateA r] (.bool true)) :
    PureC Tryd.prog G0 6 [stateA s, .agg [.int .i64 p, .int .i64 n]] (.bool true) := by
  refine pure_x hmix b6 plainG ⟨plain_state, plain_cut (c := (p, n)), trivial⟩ plain_bool rfl ?_
  unfold c6
  have h7 := k_awake
  simp only [stateA, pagesA] at *
  generalize s.map pageA = S at *
  generalize r.map pageA = R at *
  ((repeat' ((try (conv => whnf)); first | (with_reducible first | refine run_cons ?_ | refine runq_cons ?_ | refine code_seq ?_ | refine code_reg ?_ | refine code_cond ?_ | refine run_nil ?_ | refine runq_nil ?_ | refine rund_op rfl ?_ | refine rund_nil ?_ | refine code_block ?_ | refine code_skip ?_ | refine code_exit ?_ | refine code_ret ?_ | refine code_range ?_ | refine rund_fast (by decide +kernel) ?_ | refine rund_slow (by decide +kernel) ?_ | refine br_tt ?_ | refine br_ff ?_ | refine br_n ?_ | refine br_and ?_ | refine br_or ?_ | refine br_t (by assumption) ?_ | refine br_f (by assumption) ?_ | refine eq_i64 (by omega) ?_ | refine el_tn ?_) | (with_reducible refine br_d ?_ ?_ <;> intro hsp <;> first | (exfalso; omega) | skip) | ((with_reducible refine ck_x ?_ ?_); focus (first | omega | rfl | assumption | decide | (simp only [List.length_map, List.length_cons, List.length_nil]; omega))) | (with_reducible first | refine eq_tn ?_ | refine eq_tn1 ?_ | refine eq_tn2 ?_ | refine eq_m1 ?_ | refine eq_m2 ?_ | refine eq_zm ?_ | refine eq_z ?_ | refine len_map ?_ | refine len_sl ?_ | refine len_nils ?_ | refine len_own' ?_ | refine len_isl ?_ | refine eq_u8 (by omega) ?_ | refine eq_u16 (by omega) ?_) | (with_reducible first | refine eq_rfl ?_ | refine ChkX.mk (by kernel_rfl) ?_ | refine code_q rfl ?_ | refine code_d (by decide +kernel) ?_ | refine end_go rfl ?_) | refine cx_pure (hfar) ?_ | refine qcx (hfar) ?_ | refine dcx_pure (hfar) ?_ | refine cx_pure (h1) ?_ | refine qcx (h1) ?_ | refine dcx_pure (h1) ?_ | refine cx_pure (h2) ?_ | refine qcx (h2) ?_ | refine dcx_pure (h2) ?_ | refine cx_pure (h3) ?_ | refine qcx (h3) ?_ | refine dcx_pure (h3) ?_ | refine cx_pure (h4) ?_ | refine qcx (h4) ?_ | refine dcx_pure (h4) ?_ | refine cx_pure (h5) ?_ | refine qcx (h5) ?_ | refine dcx_pure (h5) ?_ | refine cx_pure (h7) ?_ | refine qcx (h7) ?_ | refine dcx_pure (h7) ?_ | refine len_map ?_ | refine len_isl ?_ | refine el_of rfl rfl ?_ | refine del_own ?_ | refine del_own' rfl ?_ | refine as_go rfl ?_ | refine rd_go rfl ?_ | refine rg_end rfl ?_ | refine flat_ownX ?_ | (with_reducible refine br_b ?_ ?_ <;> intro hsp))) <;> (try (conv => whnf)))
  all_goals exact end_bool rfl
theorem k_checks (s : List Page) (p n : Int) (hs : s.length ≤ 9223372036854775807) (hc : ∀ p ∈ s, p.2.length ≤ 9223372036854775807) :
    PureC Tryd.prog G0 6 [stateA s, .agg [.int .i64 p, .int .i64 n]] (.bool true) := by
  have hfar := k_far s hs hc
  by_cases hf : farM s = true
  · rw [hf] at hfar
    exact checks_far s p n hfar
  · have hf' : farM s = false := by simpa using hf
    rw [hf'] at hfar
    obtain ⟨g1, g2, g3⟩ := far_false hf'
    have g4 : ∀ p ∈ s, p.2.length ≤ 100 := fun p hp => by have := g3 p hp; omega
    have w1 := k_fresh s p n (by omega) g4 fun h0 => (check_good h0).1
    have w2 := k_rfresh s p n (by omega) g4
    have go : ∀ (e : Int) (r : List Page), r.length ≤ 3000 → (∀ p ∈ r, p.2.length ≤ 100) → PureC Tryd.prog G0 24 [stateA s, .agg [.int .i64 p, .int .i64 n]] (.tup [stateA r, .int .i64 e]) → PureC Tryd.prog G0 25 [stateA s, .agg [.int .i64 p, .int .i64 n]] (.tup [stateA r, .int .i64 e]) → PureC Tryd.prog G0 6 [stateA s, .agg [.int .i64 p, .int .i64 n]] (.bool true) := fun e r hr hr2 w1 w2 => by
      have h5 := k_same r r hr hr2 hr hr2
      rw [sameP_self] at h5
      exact checks_walk s r p n e _ hfar w1 w2 (k_check s (by omega) g4) (k_rcheck s (by omega) g4) h5
    by_cases h0 : checkM s = 0 ∧ okSpan p n = true
    · obtain ⟨c0, ho⟩ := h0
      obtain ⟨hg, hcan⟩ := check_good c0
      have hb : 0 ≤ p ∧ p < 1024 ∧ 1 ≤ n ∧ n ≤ 1024 - p := by simpa [okSpan] using ho
      rw [if_pos ⟨c0, ho⟩] at w1 w2
      obtain ⟨q, rfl⟩ := Int.eq_ofNat_of_zero_le (show 0 ≤ p by omega)
      simp only [Int.toNat_natCast] at w1
      rw [clear_ref hcan] at w1
      have hl := freshN_len s (q : Nat) n.toNat
      have hmem : ∀ m, ∀ x ∈ freshN s (q : Nat) m, x ∈ s := fun m => by
        induction m with
        | zero => exact fun x hx => hx
        | succ m ih => exact fun x hx => ih x (List.mem_filter.1 hx).1
      exact go _ _ (by omega) (fun x hx => g4 x (hmem _ x hx)) w1 w2
    · rw [if_neg h0] at w1 w2
      exact go _ [] (by simp) (fun p hp => by cases hp) w1 w2
end Go.Proofs.YtjhmknnokloneaaDoor
