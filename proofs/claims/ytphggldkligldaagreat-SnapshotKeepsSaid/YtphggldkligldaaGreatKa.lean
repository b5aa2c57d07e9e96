/-
 SnapshotNone.
-/
import Derived.Test.YtphggldkligldaaGreatSnK
set_option linter.unusedSimpArgs false
set_option linter.unusedVariables false
namespace Go.Proofs.YtphggldkligldaaGreat.Sh
open Go Go.Am Go.Pol
theorem wx_Ka {p q:Prop} (hq:q) (h:HidP q→p:=by (intro hQz;((repeat' ((try (conv=>whnf));first|(with_reducible first|refine run_cons ?_|refine runq_cons ?_|refine code_seq ?_|refine code_reg ?_|refine code_cond ?_|refine run_nil ?_|refine runq_nil ?_|refine rund_op rfl ?_|refine rund_nil ?_|refine code_block ?_|refine code_skip ?_|refine code_exit ?_|refine code_ret ?_|refine code_range ?_|refine rund_fast (by decide +kernel) ?_|refine rund_slow (by decide +kernel) ?_|refine br_tt ?_|refine br_ff ?_|refine br_n ?_|refine br_and ?_|refine br_or ?_|refine br_t (by assumption) ?_|refine br_f (by assumption) ?_|refine eq_i64 (by omega) ?_|refine el_tn ?_)|((with_reducible refine br_dt ?_ ?_);focus omega)|((with_reducible refine br_df ?_ ?_);focus omega)|((with_reducible apply br_dq hQz)<;>(try intro hsp hQz))|((with_reducible refine ck_x ?_ ?_);focus (first|omega|rfl|assumption|decide|(simp only [List.length_map,List.length_cons,List.length_nil];omega)))|(with_reducible first|refine eq_tn ?_|refine eq_tn1 ?_|refine eq_tn2 ?_|refine eq_m1 ?_|refine eq_m2 ?_|refine eq_zm ?_|refine eq_z ?_|refine len_map ?_|refine len_sl ?_|refine len_nils ?_|refine len_own' ?_|refine len_isl ?_|refine eq_u8 (by omega) ?_|refine eq_u16 (by omega) ?_)|refine nthK_of h0 ?_|(with_reducible first|refine eq_rfl ?_|refine ChkX.mk (by kernel_rfl) ?_|refine code_q rfl ?_|refine code_d (by decide +kernel) ?_|refine end_go rfl ?_)|refine cx_pureS h ?_|(refine cx_in hmix b51 rfl ?_;unfold c51)|(refine cx_in hmix b30 rfl ?_;unfold c30)|(refine cx_in hmix b31 rfl ?_;unfold c31)|(refine cx_in hmix b32 rfl ?_;unfold c32)|(refine cx_in hmix b16 rfl ?_;unfold c16)|(refine cx_in hmix b33 rfl ?_;unfold c33)|(refine cx_in hmix b34 rfl ?_;unfold c34)|(refine cx_in hmix b35 rfl ?_;unfold c35)|(refine cx_in hmix b36 rfl ?_;unfold c36)|(refine cx_in hmix b37 rfl ?_;unfold c37)|(refine cx_in hmix b27 rfl ?_;unfold c27)|refine cx_pureS hs ?_|(refine cx_in hmix b38 rfl ?_;unfold c38)|(refine cx_in hmix b24 rfl ?_;unfold c24)|(refine cx_in hmix b39 rfl ?_;unfold c39)|(refine cx_in hmix b82 rfl ?_;unfold c82)|refine cx_pureS hsh ?_|refine len_map ?_|refine len_isl ?_|refine el_of rfl rfl ?_|refine del_own ?_|refine del_own' rfl ?_|refine as_go rfl ?_|refine rd_go rfl ?_|refine rg_end rfl ?_|refine flat_ownX ?_|refine EqLX.mk ?_|((with_reducible apply br_bq hQz)<;>(try intro hsp hQz))|exact hQz.out))<;>(try (conv=>whnf))))):p:=h ⟨hq⟩
theorem k_same {a n:Int} {L:List Vw} (hl:L.length≤4000):PureS 26 [.agg [.int .i64 a,.int .i64 n,.isl (L.map vwC)],.agg [.int .i64 a,.int .i64 n,.isl (L.map vwC)]] (.bool true):=by
 have h:=q_same hl
 refine PureS.mk (pure_x hmix b26 plainG ⟨plain_sn,plain_sn,trivial⟩ plain_bool rfl ?_)
 unfold c26
 (refine wx_Ka ?_;repeat' (first|with_reducible refine And.intro ?_ ?_|intro hsp))
 all_goals first|exact end_bool rfl|(exfalso;omega)
end Go.Proofs.YtphggldkligldaaGreat.Sh
