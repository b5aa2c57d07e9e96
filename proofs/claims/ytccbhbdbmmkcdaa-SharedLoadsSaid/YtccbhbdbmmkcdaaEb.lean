/-
  The law of loads.
-/
import Derived.Test.YtccbhbdbmmkcdaaAmWt
import Derived.Test.YtccbhbdbmmkcdaaShE
import Derived.Test.YtccbhbdbmmkcdaaYl
set_option linter.unusedSimpArgs false
set_option linter.unusedVariables false
namespace Go.Proofs.Ytccbhbdbmmkcdaa.Sh
open Go Go.Am Go.Pol
theorem wx_Eb {p q : Prop} (hq : q) (h : HidP q → p := by (intro hQz; ((repeat' ((try (conv => whnf)); first | (with_reducible first | refine run_cons ?_ | refine runq_cons ?_ | refine code_seq ?_ | refine code_reg ?_ | refine code_cond ?_ | refine run_nil ?_ | refine runq_nil ?_ | refine rund_op rfl ?_ | refine rund_nil ?_ | refine code_block ?_ | refine code_skip ?_ | refine code_exit ?_ | refine code_ret ?_ | refine code_range ?_ | refine rund_fast (by decide +kernel) ?_ | refine rund_slow (by decide +kernel) ?_ | refine br_tt ?_ | refine br_ff ?_ | refine br_n ?_ | refine br_and ?_ | refine br_or ?_ | refine br_t (by assumption) ?_ | refine br_f (by assumption) ?_ | refine eq_i64 (by omega) ?_ | refine el_tn ?_) | ((with_reducible refine br_dt ?_ ?_); focus omega) | ((with_reducible refine br_df ?_ ?_); focus omega) | ((with_reducible apply br_dq hQz) <;> (try intro hsp hQz)) | ((with_reducible refine ck_x ?_ ?_); focus (first | omega | rfl | assumption | decide | (simp only [List.length_map, List.length_cons, List.length_nil]; omega))) | (with_reducible first | refine eq_tn ?_ | refine eq_tn1 ?_ | refine eq_tn2 ?_ | refine eq_m1 ?_ | refine eq_m2 ?_ | refine eq_zm ?_ | refine eq_z ?_ | refine len_map ?_ | refine len_sl ?_ | refine len_nils ?_ | refine len_own' ?_ | refine len_isl ?_ | refine eq_u8 (by omega) ?_ | refine eq_u16 (by omega) ?_) | (with_reducible first | refine eq_rfl ?_ | refine ChkX.mk (by kernel_rfl) ?_ | refine code_q rfl ?_ | refine code_d (by decide +kernel) ?_ | refine end_go rfl ?_) | refine cx_pureS (by assumption) ?_ | refine len_map ?_ | refine len_isl ?_ | refine el_of rfl rfl ?_ | refine del_own ?_ | refine del_own' rfl ?_ | refine as_go rfl ?_ | refine rd_go rfl ?_ | refine rg_end rfl ?_ | refine flat_ownX ?_ | refine EqLX.mk ?_ | ((with_reducible apply br_bq hQz) <;> (try intro hsp hQz)) | exact hQz.out)) <;> (try (conv => whnf))))) : p := h ⟨hq⟩
theorem wx_Ebn {p q : Prop} (hq : q) (h : HidP q → p := by (intro hQz; ((repeat' ((try (conv => whnf)); first | (with_reducible first | refine run_cons ?_ | refine runq_cons ?_ | refine code_seq ?_ | refine code_reg ?_ | refine code_cond ?_ | refine run_nil ?_ | refine runq_nil ?_ | refine rund_op rfl ?_ | refine rund_nil ?_ | refine code_block ?_ | refine code_skip ?_ | refine code_exit ?_ | refine code_ret ?_ | refine code_range ?_ | refine rund_fast (by decide +kernel) ?_ | refine rund_slow (by decide +kernel) ?_ | refine br_tt ?_ | refine br_ff ?_ | refine br_n ?_ | refine br_and ?_ | refine br_or ?_ | refine br_t (by assumption) ?_ | refine br_f (by assumption) ?_ | refine eq_i64 (by omega) ?_ | refine el_tn ?_) | ((with_reducible refine br_dt ?_ ?_); focus omega) | ((with_reducible refine br_df ?_ ?_); focus omega) | ((with_reducible apply br_dq hQz) <;> (try intro hsp hQz)) | ((with_reducible refine ck_x ?_ ?_); focus (first | omega | rfl | assumption | decide | (simp only [List.length_map, List.length_cons, List.length_nil]; omega))) | (with_reducible first | refine eq_tn ?_ | refine eq_tn1 ?_ | refine eq_tn2 ?_ | refine eq_m1 ?_ | refine eq_m2 ?_ | refine eq_zm ?_ | refine eq_z ?_ | refine len_map ?_ | refine len_sl ?_ | refine len_nils ?_ | refine len_own' ?_ | refine len_isl ?_ | refine eq_u8 (by omega) ?_ | refine eq_u16 (by omega) ?_) | (with_reducible first | refine eq_rfl ?_ | refine ChkX.mk (by kernel_rfl) ?_ | refine code_d (by decide +kernel) ?_ | refine end_go rfl ?_) | refine cx_pureS (by assumption) ?_ | refine cx_LT (by assumption) ?_ | refine cx_tab (by assumption) rfl rfl rfl rfl rfl (by decide) rfl ?_ | refine dcx_pureS (by assumption) ?_ | refine dcx_tab (by assumption) rfl rfl rfl rfl rfl rfl rfl ?_ | refine len_map ?_ | refine len_isl ?_ | refine el_of rfl rfl ?_ | refine del_own ?_ | refine del_own' rfl ?_ | refine as_go rfl ?_ | refine rd_go rfl ?_ | refine rg_end rfl ?_ | refine flat_ownX ?_ | refine EqLX.mk ?_ | ((with_reducible apply br_bq hQz) <;> (try intro hsp hQz)) | exact hQz.out)) <;> (try (conv => whnf))))) : p := h ⟨hq⟩
section
variable {L : List Vw} {R : List Rw}
theorem loads_far (a : Int) (h : (300 < R.length ∧ R.length ≤ 2000) ∨ 2100 < R.length) : PureS 4 [.agg [.isl (R.map rwC)], .int .i64 a] (.bool true) := by
  refine PureS.mk (pure_x hmix b4 plainG ⟨plain_rsA, plain_int, trivial⟩ plain_bool rfl ?_)
  unfold c4
  have ha := k_awake
  (refine wx_Eb ?_; repeat' (first | with_reducible refine And.intro ?_ ?_ | intro hsp))
  all_goals exact end_bool rfl
theorem loads_bad {i e : Int} (a : Int) (h : ChkR R i e) (he : e ≠ 0) (hl : ¬ ((300 < R.length ∧ R.length ≤ 2000) ∨ 2100 < R.length)) : PureS 4 [.agg [.isl (R.map rwC)], .int .i64 a] (.bool true) := by
  refine PureS.mk (pure_x hmix b4 plainG ⟨plain_rsA, plain_int, trivial⟩ plain_bool rfl ?_)
  unfold c4
  have ha := k_awake
  have h1 := p_check h
  have h2 := q_check h
  have h3 := l_Load_no h he
  (refine wx_Eb ?_; repeat' (first | with_reducible refine And.intro ?_ ?_ | intro hsp))
  all_goals first | exact end_bool rfl | (exfalso; simp [he] at hsp; done)
theorem loads_ok (a : Int) (hs : srt L) (hl : L.length ≤ 300) (ho : ∀ v ∈ L, v.1 < 64 ∧ v.2.1 < 1024 ∧ v.2.2.1 < 1024) : PureS 4 [.agg [.isl (L.map vwC)], .int .i64 a] (.bool true) := by
  refine PureS.mk (pure_x hmix b4 plainG ⟨plain_vsA, plain_int, trivial⟩ plain_bool rfl ?_)
  unfold c4
  have ha := k_awake
  have h := chk_of (i := 0) hs (by omega) ho
  have h1 := p_check h
  have h2 := q_check h
  rw [rw_map] at h1 h2
  obtain ⟨t, ht, h3⟩ := l_Load hs (by omega) ho
  have h4 := t_Save ht
  have h5 := t_walkedI ht a
  have h6 := q_of (L := L) a (by omega)
  have h7 := q_same (L := L) (by omega)
  have h8 := q_same (L := ofI a L) (Nat.le_trans (List.length_filter_le ..) (by omega))
  (refine wx_Ebn ?_; repeat' (first | with_reducible refine And.intro ?_ ?_ | intro hsp))
  all_goals first | exact end_bool rfl | (exfalso; simp at hsp; done)
theorem law_loads (R : List Rw) (a : Int) : PureS 4 [.agg [.isl (R.map rwC)], .int .i64 a] (.bool true) := by
  by_cases hf : (300 < R.length ∧ R.length ≤ 2000) ∨ 2100 < R.length
  · exact loads_far a hf
  obtain ⟨i, e, h⟩ := chk_ex R
  by_cases he : e = 0
  · subst he
    obtain ⟨L, hR, h1, h2, h3⟩ := chk_views h
    subst hR
    rw [rw_map]
    rw [List.length_map] at hf
    exact loads_ok a h1 (by omega) h3
  · exact loads_bad a h he hf
end
end Go.Proofs.Ytccbhbdbmmkcdaa.Sh
