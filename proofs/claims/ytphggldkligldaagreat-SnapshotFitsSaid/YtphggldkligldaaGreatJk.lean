/-
 The example.
-/
import Derived.Test.YtphggldkligldaaGreatJj
set_option linter.unusedSimpArgs false
set_option linter.unusedVariables false
namespace Go.Pol
open Go.Am
theorem differ_N {b:Bk} {x y:Nat} (hx:x < 64) (hy:y < 64):b.differ (x:Nat) (y:Nat)=(b.difN x y 1024,0):=by
 unfold Bk.differ
 rw [if_neg (by rw [Classical.not_not];exact ⟨⟨by omega,by omega⟩,by omega,by omega⟩),Int.toNat_natCast,Int.toNat_natCast]
 rfl
end Go.Pol
namespace Go.Proofs.YtphggldkligldaaGreat.Sh
open Go Go.Am Go.Pol
theorem wx_Jk {p q:Prop} (hq:q) (h:HidP q→p:=by (intro hQz;((repeat' ((try (conv=>whnf));first|(with_reducible first|refine run_cons ?_|refine runq_cons ?_|refine code_seq ?_|refine code_reg ?_|refine code_cond ?_|refine run_nil ?_|refine runq_nil ?_|refine rund_op rfl ?_|refine rund_nil ?_|refine code_block ?_|refine code_skip ?_|refine code_exit ?_|refine code_ret ?_|refine code_range ?_|refine rund_fast (by decide +kernel) ?_|refine rund_slow (by decide +kernel) ?_|refine br_tt ?_|refine br_ff ?_|refine br_n ?_|refine br_and ?_|refine br_or ?_|refine br_t (by assumption) ?_|refine br_f (by assumption) ?_|refine eq_i64 (by omega) ?_|refine el_tn ?_)|((with_reducible refine br_dt ?_ ?_);focus omega)|((with_reducible refine br_df ?_ ?_);focus omega)|((with_reducible apply br_dq hQz)<;>(try intro hsp hQz))|((with_reducible refine ck_x ?_ ?_);focus (first|omega|rfl|assumption|decide|(simp only [List.length_map,List.length_cons,List.length_nil];omega)))|(with_reducible first|refine eq_tn ?_|refine eq_tn1 ?_|refine eq_tn2 ?_|refine eq_m1 ?_|refine eq_m2 ?_|refine eq_zm ?_|refine eq_z ?_|refine len_map ?_|refine len_sl ?_|refine len_nils ?_|refine len_own' ?_|refine len_isl ?_|refine eq_u8 (by omega) ?_|refine eq_u16 (by omega) ?_)|(with_reducible first|refine eq_rfl ?_|refine ChkX.mk (by kernel_rfl) ?_|refine code_q rfl ?_|refine code_d (by decide +kernel) ?_|refine end_go rfl ?_)|refine cx_locN hn ?_|refine cx_BN h0 rfl (by decide) ?_|refine cx_b0 c1 rfl rfl rfl rfl rfl rfl rfl rfl (by decide) rfl ?_|refine cx_b0 c2 rfl rfl rfl rfl rfl rfl rfl rfl (by decide) rfl ?_|refine cx_b0 c3 rfl rfl rfl rfl rfl rfl rfl rfl (by decide) rfl ?_|refine cx_b0 c4 rfl rfl rfl rfl rfl rfl rfl rfl (by decide) rfl ?_|refine cx_b0 r4 rfl rfl rfl rfl rfl rfl rfl rfl (by decide) rfl ?_|refine cx_b0 n4 rfl rfl rfl rfl rfl rfl rfl rfl (by decide) rfl ?_|refine cx_b0 d4 rfl rfl rfl rfl rfl rfl rfl rfl (by decide) rfl ?_|refine cx_b0 c5 rfl rfl rfl rfl rfl rfl rfl rfl (by decide) rfl ?_|refine cx_b0 c6 rfl rfl rfl rfl rfl rfl rfl rfl (by decide) rfl ?_|refine cx_b0 c7 rfl rfl rfl rfl rfl rfl rfl rfl (by decide) rfl ?_|refine cx_b0 c8 rfl rfl rfl rfl rfl rfl rfl rfl (by decide) rfl ?_|refine cx_b0 r8 rfl rfl rfl rfl rfl rfl rfl rfl (by decide) rfl ?_|refine len_map ?_|refine len_isl ?_|refine el_of rfl rfl ?_|refine del_own ?_|refine del_own' rfl ?_|refine as_go rfl ?_|refine rd_go rfl ?_|refine rg_end rfl ?_|refine flat_ownX ?_|refine EqLX.mk ?_|((with_reducible apply br_bq hQz)<;>(try intro hsp hQz))|exact hQz.out))<;>(try (conv=>whnf))))):p:=h ⟨hq⟩
set_option maxHeartbeats 3200000 in
theorem k_shown:PureS 11 [] (.bool true):=by
 have hn:=n_new
 have hc0:(chkP []).2=0:=by decide
 have h0:LocBN 38 [.int .i64 8,.int .i64 2] (Sy.new []) sh0 T0:=b_New (good_new hc0) (a:=8) (n:=2) (by decide) sh_0
 have g0:GoodB sh0:=(new_book (l:=[]) (a:=8) (n:=2) hc0 (by decide) sh_0 sh0 rfl).1
 obtain ⟨t1,k1,c1⟩:=b_Map g0 tok_0 0 3
 have g1:GoodB sh1:=good_map g0 0 3
 rw [sh_1,show (sh0.map 0 3).2=sh1 from rfl] at c1
 rw [show (sh0.map 0 3).2=sh1 from rfl] at k1
 obtain ⟨t2,k2,c2⟩:=b_Write g1 k1 0 192 7
 have g2:GoodB sh2:=good_write' g1 0 192 7
 rw [sh_2,show (sh1.write 0 192 7).2=sh2 from rfl] at c2
 rw [show (sh1.write 0 192 7).2=sh2 from rfl] at k2
 obtain ⟨t3,k3,c3⟩:=b_Take k2 0 1
 have g3:GoodB sh3:=good_take g2 0 1
 rw [sh_3.1,sh_3.2,show (sh2.take 0 1).2.2=sh3 from rfl] at c3
 rw [show (sh2.take 0 1).2.2=sh3 from rfl] at k3
 obtain ⟨t4,k4,c4⟩:=b_Write g3 k3 0 192 8
 have g4:GoodB sh4:=good_write' g3 0 192 8
 rw [sh_4,show (sh3.write 0 192 8).2=sh4 from rfl] at c4
 rw [show (sh3.write 0 192 8).2=sh4 from rfl] at k4
 have r4:=b_Read k4 1 192
 rw [sh_r4] at r4
 have n4:=b_Counts g4 k4
 rw [sh_c4.1,sh_c4.2.1,sh_c4.2.2] at n4
 have d4:=b_Differ g4 k4 (x:=0) (y:=1) (by decide) (by decide)
 have e4:=(differ_N (b:=sh4) (x:=0) (y:=1) (by decide) (by decide)).symm.trans sh_d4
 rw [(Prod.mk.inj e4).1] at d4
 clear e4
 obtain ⟨t5,k5,c5⟩:=b_Take k4 1 2
 have g5:GoodB sh5:=good_take g4 1 2
 rw [sh_5.1,sh_5.2,show (sh4.take 1 2).2.2=sh5 from rfl] at c5
 rw [show (sh4.take 1 2).2.2=sh5 from rfl] at k5
 obtain ⟨t6,k6,c6⟩:=b_Write g5 k5 2 192 9
 have g6:GoodB sh6:=good_write' g5 2 192 9
 rw [sh_6,show (sh5.write 2 192 9).2=sh6 from rfl] at c6
 rw [show (sh5.write 2 192 9).2=sh6 from rfl] at k6
 obtain ⟨t7,k7,c7⟩:=b_Drop g6 k6 0
 have g7:GoodB sh7:=good_drop g6 0
 rw [sh_7.1,sh_7.2,show (sh6.drop 0).2.2=sh7 from rfl] at c7
 rw [show (sh6.drop 0).2.2=sh7 from rfl] at k7
 obtain ⟨t8,k8,c8⟩:=b_Write g7 k7 2 192 9
 rw [sh_8,show (sh7.write 2 192 9).2=sh8 from rfl] at c8
 rw [show (sh7.write 2 192 9).2=sh8 from rfl] at k8
 have r8:=b_Read k8 1 192
 rw [sh_r8] at r8
 clear g0 g1 g2 g3 g4 g5 g6 g7 k1 k2 k3 k4 k5 k6 k7 k8 hc0
 generalize T0=t0 at *
 generalize Sy.new []=s0 at *
 generalize sh0=q0 at *
 generalize sh1=q1 at *
 generalize sh2=q2 at *
 generalize sh3=q3 at *
 generalize sh4=q4 at *
 generalize sh5=q5 at *
 generalize sh6=q6 at *
 generalize sh7=q7 at *
 generalize sh8=q8 at *
 refine PureS.mk (pure_x hmix b11 plainG trivial plain_bool rfl ?_)
 unfold c11
 (refine wx_Jk ?_;repeat' (first|with_reducible refine And.intro ?_ ?_|intro hsp))
 all_goals first|exact end_bool rfl|(exfalso;omega)|(exfalso;simp at hsp;done)|(exfalso;simp_all;done)
end Go.Proofs.YtphggldkligldaaGreat.Sh
