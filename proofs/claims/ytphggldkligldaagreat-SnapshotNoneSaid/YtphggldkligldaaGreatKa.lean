/-
 SnapshotNone.
-/
import Derived.Test.YtphggldkligldaaGreatJk
set_option linter.unusedSimpArgs false
set_option linter.unusedVariables false
namespace Go.Proofs.YtphggldkligldaaGreat.Sh
open Go Go.Am Go.Pol
theorem plx_Ka {p:Prop} (h:p:=by ((first|assumption|exact plain_int|exact plain_bool|exact plain_undef|exact plain_nils|exact plain_nilp|exact plain_nilf|exact plain_str|with_reducible apply plain_int|with_reducible apply plain_bool|with_reducible apply plain_vwC|with_reducible apply plain_vwE|with_reducible apply plain_vs|with_reducible apply plain_stA|with_reducible apply plain_ns|with_reducible apply plain_bc|with_reducible apply plain_none|with_reducible apply plain_is|with_reducible apply plain_pl|with_reducible apply plain_rls|with_reducible apply plain_ac _|with_reducible apply plain_sn|with_reducible apply plain_sn0|fail);first|done|fail)):p:=h
theorem prx_Ka {p:Prop} (h:p:=by (((repeat' (first|exact plain_all0|refine plain_all2 ?_ ?_|exact plain_int|first|assumption|exact plain_int|exact plain_bool|exact plain_undef|exact plain_nils|exact plain_nilp|exact plain_nilf|exact plain_str|with_reducible apply plain_int|with_reducible apply plain_bool|with_reducible apply plain_vwC|with_reducible apply plain_vwE|with_reducible apply plain_vs|with_reducible apply plain_stA|with_reducible apply plain_ns|with_reducible apply plain_bc|with_reducible apply plain_none|with_reducible apply plain_is|with_reducible apply plain_pl|with_reducible apply plain_rls|with_reducible apply plain_ac _|with_reducible apply plain_sn|with_reducible apply plain_sn0)));first|done|fail)):p:=h
theorem ppx_Ka {p:Prop} (h:p:=by ((first|with_reducible assumption|with_reducible apply cells_plain|with_reducible apply ends_plain|with_reducible apply cnt_plain|with_reducible apply memI_plain _ _|with_reducible apply vw_plain|with_reducible apply nat_plain|with_reducible apply a_plain|with_reducible apply b_plain|with_reducible apply rdK_plain|with_reducible apply bc_plain|with_reducible apply plain_flat int1_plain|with_reducible apply ac_plain _|with_reducible apply hy|with_reducible apply plain_map (fun _=>plain_int)|with_reducible apply plain_map (fun _=>plain_bool)|exact prx_Ka|fail);first|done|fail)):p:=h
theorem wvx_Ka {p:Prop} (h:p:=by ((first|exact wk_undef|exact wk_int (by first|rfl|omega|(dsimp only;omega))|exact wk_bool rfl|exact wk_ptr rfl (by first|decide|simp|omega)|exact wk_map rfl (by first|decide|simp|omega)|exact wk_sl rfl (by first|decide|simp|omega) (by first|rfl|omega|simp) (by first|omega|simp) (by first|omega|simp)|exact wk_own rfl (by first|decide|simp|omega)|exact wk_nil0 (by first|rfl|simp)|exact wk_slown rfl (by first|decide|omega|(simp;done)) (by first|omega|(simp;done)) (by first|rfl|omega|(simp;done)|(simp;omega))|exact wk_plain hs plx_Ka|(with_reducible refine wk_fn ?_ ?_<;>repeat' (first|with_reducible exact wkl_nil|with_reducible refine wkl_cons ?_ ?_|exact wk_ptr rfl (by first|decide|simp|omega)))|(with_reducible refine wk_agg ?_;repeat' (first|with_reducible exact wkl_nil|with_reducible refine wkl_cons ?_ ?_|exact wk_int (by first|rfl|omega|(dsimp only;omega))|exact wk_bool rfl))|exact wk_yld rfl (by first|decide|simp|omega)|(with_reducible refine wk_tup ?_;repeat' (first|with_reducible exact wkl_nil|with_reducible refine wkl_cons ?_ ?_|exact wk_int (by first|rfl|omega|(dsimp only;omega))|exact wk_bool rfl|exact wk_ptr rfl (by first|decide|simp|omega)))|fail);first|done|fail)):p:=h
theorem wkx_Ka {p:Prop} (h:p:=by (refine weak_s (by exact oneOf_of rfl) (by exact subH_of rfl) (by intro hs;(repeat' ((try (conv=>whnf));first|with_reducible exact True.intro|with_reducible refine And.intro ?_ ?_|(with_reducible refine WkX.mk ?_;first|exact wvx_Ka|fail)))) (by intro hs;(try dsimp only);(repeat' (first|with_reducible exact wko_nil|refine wko_tab hs (by first|decide|omega|simp) rfl rfl (by first|decide|omega|simp) rfl (by first|decide|omega|simp) ?_|refine wko_maps hs (by first|decide|omega|simp) rfl rfl key_plain ?_|refine wko_plain hs (by first|decide|omega|simp) rfl (by first|rfl) (by (first|exact ppx_Ka|fail|((refine plain_app ?_ ?_)<;>(first|exact ppx_Ka|fail)))) ?_|refine wko_cells (by first|decide|omega|simp) rfl (by repeat' (first|with_reducible exact wkl_nil|with_reducible refine wkl_cons ?_ ?_|(first|exact wvx_Ka|fail))) ?_|refine wko_loop (by first|decide|omega|simp) rfl (by ((try subst hF);(try subst hF2);exact wkl_sd (wkf_sget (by (repeat' ((try (conv=>whnf));first|with_reducible exact True.intro|with_reducible refine And.intro ?_ ?_|(with_reducible refine WkX.mk ?_;first|exact wvx_Ka|fail))))))) ?_|exact wko_nil))))):p:=h
theorem wx_Ka {p q:Prop} (hq:q) (h:HidP q→p:=by (intro hQz;((repeat' ((try (conv=>whnf));first|(with_reducible first|refine run_cons ?_|refine runq_cons ?_|refine code_seq ?_|refine code_reg ?_|refine code_cond ?_|refine run_nil ?_|refine runq_nil ?_|refine rund_op rfl ?_|refine rund_nil ?_|refine code_block ?_|refine code_skip ?_|refine code_exit ?_|refine code_ret ?_|refine code_range ?_|refine rund_fast (by decide +kernel) ?_|refine rund_slow (by decide +kernel) ?_|refine br_tt ?_|refine br_ff ?_|refine br_n ?_|refine br_and ?_|refine br_or ?_|refine br_t (by assumption) ?_|refine br_f (by assumption) ?_|refine eq_i64 (by omega) ?_|refine el_tn ?_)|((with_reducible refine br_dt ?_ ?_);focus omega)|((with_reducible refine br_df ?_ ?_);focus omega)|((with_reducible apply br_dq hQz)<;>(try intro hsp hQz))|((with_reducible refine ck_x ?_ ?_);focus (first|omega|rfl|assumption|decide|(simp only [List.length_map,List.length_cons,List.length_nil];omega)))|(with_reducible first|refine eq_tn ?_|refine eq_tn1 ?_|refine eq_tn2 ?_|refine eq_m1 ?_|refine eq_m2 ?_|refine eq_zm ?_|refine eq_z ?_|refine len_map ?_|refine len_sl ?_|refine len_nils ?_|refine len_own' ?_|refine len_isl ?_|refine eq_u8 (by omega) ?_|refine eq_u16 (by omega) ?_)|refine nthK_of h0 ?_|(with_reducible first|refine eq_rfl ?_|refine ChkX.mk (by kernel_rfl) ?_|refine code_q rfl ?_|refine code_d (by decide +kernel) ?_|refine end_go rfl ?_)|refine cx_pureS h ?_|(refine cx_in hmix b51 rfl ?_;unfold c51)|(refine cx_in hmix b30 rfl ?_;unfold c30)|(refine cx_in hmix b31 rfl ?_;unfold c31)|(refine cx_in hmix b32 rfl ?_;unfold c32)|(refine cx_in hmix b16 rfl ?_;unfold c16)|(refine cx_in hmix b33 rfl ?_;unfold c33)|(refine cx_in hmix b34 rfl ?_;unfold c34)|(refine cx_in hmix b35 rfl ?_;unfold c35)|(refine cx_in hmix b36 rfl ?_;unfold c36)|(refine cx_in hmix b37 rfl ?_;unfold c37)|(refine cx_in hmix b27 rfl ?_;unfold c27)|refine cx_pureS hs ?_|(refine cx_in hmix b38 rfl ?_;unfold c38)|(refine cx_in hmix b24 rfl ?_;unfold c24)|(refine cx_in hmix b39 rfl ?_;unfold c39)|(refine cx_in hmix b82 rfl ?_;unfold c82)|refine cx_pureS hsh ?_|refine len_map ?_|refine len_isl ?_|refine el_of rfl rfl ?_|refine del_own ?_|refine del_own' rfl ?_|refine as_go rfl ?_|refine rd_go rfl ?_|refine rg_end rfl ?_|refine flat_ownX ?_|refine EqLX.mk ?_|((with_reducible apply br_bq hQz)<;>(try intro hsp hQz))|exact hQz.out))<;>(try (conv=>whnf))))):p:=h ⟨hq⟩
theorem zP_pl:∀ x ∈ zP,Plain x:=fun x hx=>by
 unfold zP at hx
 rcases List.mem_cons.1 hx with rfl|hx
 ·exact plain_nils
 ·obtain rfl:=List.eq_of_mem_replicate hx;exact plain_int
theorem sysZ_0s:sysZ[0]? = some (.bool false):=by unfold sysZ;rw [List.getElem?_cons_zero]
theorem sysZ_pl:∀ x ∈ sysZ,Plain x:=fun x hx=>by
 obtain ⟨i,hi⟩:=List.getElem?_of_mem hx
 by_cases h:i=0
 ·subst h;rw [sysZ_0s] at hi;cases hi;exact plain_bool
 ·have e:(sysZ.set 0 (.bool true))[i]? = some x:=by rw [List.getElem?_set_ne (by omega),hi]
  rw [sysZ_0] at e;exact sys_plain zP_pl _ (List.mem_of_getElem? e)
theorem plain_sn0:Plain (.agg [.int .i64 0,.int .i64 0,.nils]):=plain_agg fun x hx=>by
 simp only [List.mem_cons,List.not_mem_nil,or_false] at hx
 rcases hx with rfl|rfl|rfl<;>first|exact plain_int|exact plain_nils
theorem k_same {a n:Int} {L:List Vw} (hl:L.length≤4000):PureS 26 [.agg [.int .i64 a,.int .i64 n,.isl (L.map vwC)],.agg [.int .i64 a,.int .i64 n,.isl (L.map vwC)]] (.bool true):=by
 have h:=q_same hl
 refine PureS.mk (pure_x hmix b26 plainG ⟨plain_sn,plain_sn,trivial⟩ plain_bool rfl ?_)
 unfold c26
 (refine wx_Ka ?_;repeat' (first|with_reducible refine And.intro ?_ ?_|intro hsp))
 all_goals first|exact end_bool rfl|(exfalso;omega)
theorem k_same0:PureS 26 [.agg [.int .i64 0,.int .i64 0,.nils],.agg [.int .i64 0,.int .i64 0,.nils]] (.bool true) :=
 ⟨(k_same (a:=0) (n:=0) (L:=[]) (Nat.zero_le _)).out.weak (WkAs.args ⟨wkA_agg ⟨wkA_rfl,wkA_rfl,wkA_nil,trivial⟩,wkA_agg ⟨wkA_rfl,wkA_rfl,wkA_nil,trivial⟩,trivial⟩)⟩
set_option maxHeartbeats 3200000 in
theorem k_none (x:Ax):PureS 6 [.agg (acE x)] (.bool true):=by
 obtain ⟨y,hy0⟩:∃ y,y=sysZ:=⟨_,rfl⟩
 have hy:∀ x ∈ y,Plain x:=by rw [hy0];exact sysZ_pl
 have h0:y[0]? = some (.bool false):=by rw [hy0];exact sysZ_0s
 have hs:=k_same0
 have hsh:=k_shown
 refine PureS.mk (pure_x hmix b6 plainG ⟨plain_ac x,trivial⟩ plain_bool rfl ?_)
 unfold c6
 rw [← hy0]
 clear hy0
 unfold acE
 (refine wx_Ka ?_;repeat' (first|with_reducible refine And.intro ?_ ?_|intro hsp))
 (refine loop_x [1] (fun (i:Nat)=>[(3,.int .i64 (i:Nat))]) (fun (i:Nat)=>⟨[(0,.cells [.int .u8 x.w,.int .i64 x.a,.int .i64 x.b,.int .i64 x.t,.int .u8 x.v,.isl (x.l.map rlA)])],1⟩) (fun (i:Nat)=>i≤2) (fun (i:Nat)=>2 - i) (0) [] rfl (fun _=>by first|exact Nat.zero_le _|(dsimp only;omega)) ?_ (by ((try (conv=>whnf));exact wkx_Ka)) ?_)
 ·exact Nat.zero_le _
 intro i hi
 by_cases e0:i=0
 ·subst e0
  (refine wx_Ka ?_;repeat' (first|with_reducible refine And.intro ?_ ?_|intro hsp))
  all_goals first|exact end_bool rfl|exact next_x 1 [] (by (try dsimp only);omega) (by first|omega|(dsimp only;omega)) rfl (by exact wkx_Ka)
 ·by_cases e1:i=1
  ·subst e1
   (refine wx_Ka ?_;repeat' (first|with_reducible refine And.intro ?_ ?_|intro hsp))
   all_goals first|exact end_bool rfl|exact next_x 2 [] (by (try dsimp only);omega) (by first|omega|(dsimp only;omega)) rfl (by exact wkx_Ka)
  ·obtain rfl:i=2:=by omega
   (refine wx_Ka ?_;repeat' (first|with_reducible refine And.intro ?_ ?_|intro hsp))
   all_goals exact end_bool rfl
end Go.Proofs.YtphggldkligldaaGreat.Sh
