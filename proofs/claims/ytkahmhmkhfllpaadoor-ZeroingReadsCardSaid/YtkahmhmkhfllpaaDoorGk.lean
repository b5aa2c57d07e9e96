/-
 Cost,of the program.
-/
import Derived.Test.YtkahmhmkhfllpaaDoorZsA
set_option linter.unusedSimpArgs false
set_option linter.unusedVariables false
namespace Go.Proofs.YtkahmhmkhfllpaaDoor
open Go Go.Am Go.Pol
theorem wvx_Gk {p:Prop} (h:p:=by ((first|exact wk_undef|exact wk_int (by first|rfl|omega|(dsimp only;omega))|exact wk_bool rfl|exact wk_ptr rfl (by first|decide|simp|omega)|exact wk_sl rfl (by first|decide|simp|omega) (by first|rfl|omega|simp) (by first|omega|simp) (by first|omega|simp)|exact wk_int (by simp [sumL])|exact wk_int (by rw [hst])|exact wk_own rfl (by first|decide|simp|omega)|exact wk_nil0 (by first|rfl|simp)|exact wk_slown rfl (by first|decide|omega|(simp;done)) (by first|omega|(simp;done)) (by first|rfl|omega|(simp;done)|(simp;omega))|exact wk_plain hs plx_Yn|(with_reducible refine wk_fn ?_ ?_<;>repeat' (first|with_reducible exact wkl_nil|with_reducible refine wkl_cons ?_ ?_|exact wk_ptr rfl (by first|decide|simp|omega)))|(with_reducible refine wk_agg ?_;repeat' (first|with_reducible exact wkl_nil|with_reducible refine wkl_cons ?_ ?_|exact wk_int (by first|rfl|omega|(dsimp only;omega))|exact wk_bool rfl))|exact wk_yld rfl (by first|decide|simp|omega)|fail);first|done|fail)):p:=h
theorem wkx_Gk {p:Prop} (h:p:=by (refine weak_s (by exact oneOf_of rfl) (by exact subH_of rfl) (by intro hs;(repeat' ((try (conv=>whnf));first|with_reducible exact True.intro|with_reducible refine And.intro ?_ ?_|(with_reducible refine WkX.mk ?_;first|exact wvx_Gk|fail)))) (by intro hs;(try dsimp only);(repeat' (first|with_reducible exact wko_nil|refine wko_plain hs (by first|decide|omega|simp) rfl (by first|rfl) (by (first|exact ppx_Yn|fail|((refine plain_app ?_ ?_)<;>(first|exact ppx_Yn|fail)))) ?_|refine wko_cells (by first|decide|omega|simp) rfl (by repeat' (first|with_reducible exact wkl_nil|with_reducible refine wkl_cons ?_ ?_|(first|exact wvx_Gk|fail))) ?_|refine wko_loop (by first|decide|omega|simp) rfl (by ((try subst hF);(try subst hF2);exact wkl_sd (wkf_sget (by (repeat' ((try (conv=>whnf));first|with_reducible exact True.intro|with_reducible refine And.intro ?_ ?_|(with_reducible refine WkX.mk ?_;first|exact wvx_Gk|fail))))))) ?_|exact wko_nil))))):p:=h
theorem wx_Gk {p q:Prop} (hq:q) (h:HidP q→p:=by (intro hQz;((repeat' ((try (conv=>whnf));first|(with_reducible first|refine run_cons ?_|refine runq_cons ?_|refine code_seq ?_|refine code_reg ?_|refine code_cond ?_|refine run_nil ?_|refine runq_nil ?_|refine rund_op rfl ?_|refine rund_nil ?_|refine code_block ?_|refine code_skip ?_|refine code_exit ?_|refine code_ret ?_|refine code_range ?_|refine rund_fast (by decide +kernel) ?_|refine rund_slow (by decide +kernel) ?_|refine br_tt ?_|refine br_ff ?_|refine br_n ?_|refine br_and ?_|refine br_or ?_|refine br_t (by assumption) ?_|refine br_f (by assumption) ?_|refine eq_i64 (by omega) ?_|refine el_tn ?_)|((with_reducible refine br_dt ?_ ?_);focus omega)|((with_reducible refine br_df ?_ ?_);focus omega)|((with_reducible apply br_dq hQz)<;>(try intro hsp hQz))|((with_reducible refine ck_x ?_ ?_);focus (first|omega|rfl|assumption|decide|(simp only [List.length_map,List.length_cons,List.length_nil];omega)))|(with_reducible first|refine eq_tn ?_|refine eq_tn1 ?_|refine eq_tn2 ?_|refine eq_m1 ?_|refine eq_m2 ?_|refine eq_zm ?_|refine eq_z ?_|refine len_map ?_|refine len_sl ?_|refine len_nils ?_|refine len_own' ?_|refine len_isl ?_|refine eq_u8 (by omega) ?_|refine eq_u16 (by omega) ?_)|refine el_map (0,0) cut_len (by omega) ?_|(with_reducible first|refine eq_rfl ?_|refine ChkX.mk (by kernel_rfl) ?_|refine code_q rfl ?_|refine code_d (by decide +kernel) ?_|refine end_go rfl ?_)|refine cx_pure (hk) ?_|refine qcx (hk) ?_|refine dcx_pure (hk) ?_|refine len_map ?_|refine len_isl ?_|refine el_of rfl rfl ?_|refine del_own ?_|refine del_own' rfl ?_|refine as_go rfl ?_|refine rd_go rfl ?_|refine rg_end rfl ?_|refine flat_ownX ?_|refine EqLX.mk ?_|((with_reducible apply br_bq hQz)<;>(try intro hsp hQz))|exact hQz.out))<;>(try (conv=>whnf))))):p:=h ⟨hq⟩
theorem k_cost (s:List Page) (a n e:Int) (L:List Cut) (hL:L.length≤1000000) (hv:∀ z ∈ L,0≤z.2∧z.2≤65536) (hk:PureC Tryd.prog G0 19 [stateA s,.int .i64 a,.int .i64 n] (.tup [cutsA L,.int .i64 e])) :
  PureC Tryd.prog G0 18 [stateA s,.int .i64 a,.int .i64 n] (.tup [.int .i64 (sumL L),.int .i64 e]):=by
 refine pure_x hmix b18 plainG ⟨plain_state,plain_int,plain_int,trivial⟩ (plain_tup (plain_two plain_int plain_int)) rfl ?_
 unfold c18
 simp only [stateA,pagesA,cutsA] at *
 (refine wx_Gk ?_;repeat' (first|with_reducible refine And.intro ?_ ?_|intro hsp))
 (refine loop_x [9,20,21] (fun (i:Nat)=>[(10,.int .i64 (sumL (L.take i))),(22,.int .i64 (i:Nat))]) (fun (i:Nat)=>⟨[],1⟩) (fun (i:Nat)=>i≤L.length) (fun (i:Nat)=>L.length - i) (0) [] rfl (fun _=>by first|exact Nat.zero_le _|(dsimp only;omega)) ?_ (by ((try (conv=>whnf));exact wkx_Gk)) ?_)
 ·exact Nat.zero_le _
 intro i hi
 have hb:=sum_bound (L.take i) fun z hz=>hv z (List.mem_of_mem_take hz)
 rw [List.length_take] at hb
 by_cases hil:i < L.length
 ·have hst:=sum_take hil
  have hv1:=hv _ (nth_mem (d:=(0,0)) hil)
  (refine wx_Gk ?_;repeat' (first|with_reducible refine And.intro ?_ ?_|intro hsp))
  exact next_x (i+1) [] (by (try dsimp only);omega) (by first|omega|(dsimp only;omega)) rfl (by exact wkx_Gk)
 ·rw [List.take_of_length_le (by omega)]
  (refine wx_Gk ?_;repeat' (first|with_reducible refine And.intro ?_ ?_|intro hsp))
  exact end_wk (wk_tup ⟨wk_int rfl,wk_int rfl,trivial⟩)
end Go.Proofs.YtkahmhmkhfllpaaDoor
