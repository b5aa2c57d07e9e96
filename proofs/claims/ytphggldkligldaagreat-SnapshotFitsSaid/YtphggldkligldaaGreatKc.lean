/-
 SnapshotFits.
-/
import Derived.Test.YtphggldkligldaaGreatKb
set_option linter.unusedSimpArgs false
set_option linter.unusedVariables false
namespace Go.Pol
open Go.Am
def Bk.run (b:Bk) (X:List Ax):Nat→Bk
 | 0=>b
 | k+1=>((b.run X k).al (nth dA X k)).2
theorem run_s {b:Bk} {X:List Ax} {k:Nat}:b.run X (k+1)=((b.run X k).al (nth dA X k)).2:=rfl
theorem run_a {b:Bk} {X:List Ax}:∀ k,(b.run X k).a=b.a∧(b.run X k).n=b.n
 | 0=>⟨rfl,rfl⟩
 | k+1=>by
  have h:=run_a (b:=b) (X:=X) k
  have:=call_a (b:=b.run X k) ((nth dA X k).w.toNat % 14) (nth dA X k).a (nth dA X k).b (nth dA X k).t (nth dA X k).v (nth dA X k).l
  rw [run_s]
  exact ⟨this.1.trans h.1,this.2.trans h.2⟩
theorem run_good {b:Bk} {X:List Ax} (g:GoodB b):∀ k,GoodB (b.run X k)
 | 0=>g
 | k+1=>call_good (run_good g k) ..
theorem run_out {b:Bk} {X:List Ax} (g:GoodB b) (h:OutB b):∀ k,OutB (b.run X k)
 | 0=>h
 | k+1=>by exact call_out (run_good g k) (run_out g h k) _ _ _ _ _ _
end Go.Pol
namespace Go.Proofs.YtphggldkligldaaGreat.Sh
open Go Go.Am Go.Pol
theorem plx_Kc {p:Prop} (h:p:=by ((first|assumption|exact plain_int|exact plain_bool|exact plain_undef|exact plain_nils|exact plain_nilp|exact plain_nilf|exact plain_str|with_reducible apply plain_int|with_reducible apply plain_bool|with_reducible apply plain_vwC|with_reducible apply plain_vwE|with_reducible apply plain_vs|with_reducible apply plain_stA|with_reducible apply plain_ns|with_reducible apply plain_bc|with_reducible apply plain_none|with_reducible apply plain_is|with_reducible apply plain_pl|with_reducible apply plain_rls|with_reducible apply plain_sn|with_reducible apply plain_acs|with_reducible apply plain_py _|with_reducible apply plain_ac _|fail);first|done|fail)):p:=h
theorem prx_Kc {p:Prop} (h:p:=by (((repeat' (first|exact plain_all0|refine plain_all2 ?_ ?_|exact plain_int|first|assumption|exact plain_int|exact plain_bool|exact plain_undef|exact plain_nils|exact plain_nilp|exact plain_nilf|exact plain_str|with_reducible apply plain_int|with_reducible apply plain_bool|with_reducible apply plain_vwC|with_reducible apply plain_vwE|with_reducible apply plain_vs|with_reducible apply plain_stA|with_reducible apply plain_ns|with_reducible apply plain_bc|with_reducible apply plain_none|with_reducible apply plain_is|with_reducible apply plain_pl|with_reducible apply plain_rls|with_reducible apply plain_sn|with_reducible apply plain_acs|with_reducible apply plain_py _|with_reducible apply plain_ac _)));first|done|fail)):p:=h
theorem ppx_Kc {p:Prop} (h:p:=by ((first|with_reducible assumption|with_reducible apply cells_plain|with_reducible apply ends_plain|with_reducible apply cnt_plain|with_reducible apply memI_plain _ _|with_reducible apply vw_plain|with_reducible apply nat_plain|with_reducible apply a_plain|with_reducible apply b_plain|with_reducible apply rdK_plain|with_reducible apply bc_plain|with_reducible apply plain_flat int1_plain|with_reducible apply sn_plain|with_reducible apply py_plain _|with_reducible apply ac_plain _|with_reducible apply plain_map (fun _=>plain_int)|with_reducible apply plain_map (fun _=>plain_bool)|exact prx_Kc|fail);first|done|fail)):p:=h
theorem wvx_Kc {p:Prop} (h:p:=by ((first|exact wk_undef|exact wk_int (by first|rfl|omega|(dsimp only;omega))|exact wk_bool rfl|exact wk_ptr rfl (by first|decide|simp|omega)|exact wk_map rfl (by first|decide|simp|omega)|exact wk_sl rfl (by first|decide|simp|omega) (by first|rfl|omega|simp) (by first|omega|simp) (by first|omega|simp)|exact wk_own rfl (by first|decide|simp|omega)|exact wk_nil0 (by first|rfl|simp)|exact wk_slown rfl (by first|decide|omega|(simp;done)) (by first|omega|(simp;done)) (by first|rfl|omega|(simp;done)|(simp;omega))|exact wk_plain hs plx_Kc|(with_reducible refine wk_fn ?_ ?_<;>repeat' (first|with_reducible exact wkl_nil|with_reducible refine wkl_cons ?_ ?_|exact wk_ptr rfl (by first|decide|simp|omega)))|(with_reducible refine wk_agg ?_;repeat' (first|with_reducible exact wkl_nil|with_reducible refine wkl_cons ?_ ?_|exact wk_int (by first|rfl|omega|(dsimp only;omega))|exact wk_bool rfl))|exact wk_yld rfl (by first|decide|simp|omega)|(with_reducible refine wk_tup ?_;repeat' (first|with_reducible exact wkl_nil|with_reducible refine wkl_cons ?_ ?_|exact wk_int (by first|rfl|omega|(dsimp only;omega))|exact wk_bool rfl|exact wk_ptr rfl (by first|decide|simp|omega)))|fail);first|done|fail)):p:=h
theorem wkx_Kc {p:Prop} (h:p:=by (refine weak_s (by exact oneOf_of rfl) (by exact subH_of rfl) (by intro hs;(repeat' ((try (conv=>whnf));first|with_reducible exact True.intro|with_reducible refine And.intro ?_ ?_|(with_reducible refine WkX.mk ?_;first|exact wvx_Kc|fail)))) (by intro hs;(try dsimp only);(repeat' (first|with_reducible exact wko_nil|refine wko_tab hs (by first|decide|omega|simp) rfl rfl (by first|decide|omega|simp) rfl (by first|decide|omega|simp) ?_|refine wko_maps hs (by first|decide|omega|simp) rfl rfl key_plain ?_|refine wko_plain hs (by first|decide|omega|simp) rfl (by first|rfl) (by (first|exact ppx_Kc|fail|((refine plain_app ?_ ?_)<;>(first|exact ppx_Kc|fail)))) ?_|refine wko_cells (by first|decide|omega|simp) rfl (by repeat' (first|with_reducible exact wkl_nil|with_reducible refine wkl_cons ?_ ?_|(first|exact wvx_Kc|fail))) ?_|refine wko_loop (by first|decide|omega|simp) rfl (by ((try subst hF);(try subst hF2);exact wkl_sd (wkf_sget (by (repeat' ((try (conv=>whnf));first|with_reducible exact True.intro|with_reducible refine And.intro ?_ ?_|(with_reducible refine WkX.mk ?_;first|exact wvx_Kc|fail))))))) ?_|exact wko_nil))))):p:=h
theorem wx_Kc {p q:Prop} (hq:q) (h:HidP q→p:=by (intro hQz;((repeat' ((try (conv=>whnf));first|(with_reducible first|refine run_cons ?_|refine runq_cons ?_|refine code_seq ?_|refine code_reg ?_|refine code_cond ?_|refine run_nil ?_|refine runq_nil ?_|refine rund_op rfl ?_|refine rund_nil ?_|refine code_block ?_|refine code_skip ?_|refine code_exit ?_|refine code_ret ?_|refine code_range ?_|refine rund_fast (by decide +kernel) ?_|refine rund_slow (by decide +kernel) ?_|refine br_tt ?_|refine br_ff ?_|refine br_n ?_|refine br_and ?_|refine br_or ?_|refine br_t (by assumption) ?_|refine br_f (by assumption) ?_|refine eq_i64 (by omega) ?_|refine el_tn ?_)|((with_reducible refine br_dt ?_ ?_);focus omega)|((with_reducible refine br_df ?_ ?_);focus omega)|((with_reducible apply br_dq hQz)<;>(try intro hsp hQz))|((with_reducible refine ck_x ?_ ?_);focus (first|omega|rfl|assumption|decide|(simp only [List.length_map,List.length_cons,List.length_nil];omega)))|(with_reducible first|refine eq_tn ?_|refine eq_tn1 ?_|refine eq_tn2 ?_|refine eq_m1 ?_|refine eq_m2 ?_|refine eq_zm ?_|refine eq_z ?_|refine len_map ?_|refine len_sl ?_|refine len_nils ?_|refine len_own' ?_|refine len_isl ?_|refine eq_u8 (by omega) ?_|refine eq_u16 (by omega) ?_)|refine el_mapE (d:=dA) acE_len (by first|assumption|omega) (by with_reducible assumption) ?_|(with_reducible first|refine eq_rfl ?_|refine ChkX.mk (by kernel_rfl) ?_|refine code_q rfl ?_|refine code_d (by decide +kernel) ?_|refine end_go rfl ?_)|refine cx_pureS (by assumption) ?_|refine cx_BE hb ?_|refine cx_BB hb ?_|refine cx_A ha rfl rfl rfl rfl rfl rfl rfl rfl (by decide) rfl ?_|refine cx_b0 hcn rfl rfl rfl rfl rfl rfl rfl rfl (by decide) rfl ?_|refine cx_b0 hsv rfl rfl rfl rfl rfl rfl rfl rfl (by decide) rfl ?_|refine cx_locS hcs rfl (by decide) ?_|refine cx_BN hld rfl (by decide) ?_|refine len_map ?_|refine len_isl ?_|refine el_of rfl rfl ?_|refine del_own ?_|refine del_own' rfl ?_|refine as_go rfl ?_|refine rd_go rfl ?_|refine rg_end rfl ?_|refine flat_ownX ?_|refine EqLX.mk ?_|((with_reducible apply br_bq hQz)<;>(try intro hsp hQz))|exact hQz.out))<;>(try (conv=>whnf))))):p:=h ⟨hq⟩
theorem py_good {p:Py} (h1:(chkP p.l).2=0) (h2:stat p.a p.n) (h3:((Sy.new p.l).chg p.a p.n 0 1 0).1=0):GoodB p.b∧OutB p.b∧OwnB p.b∧ByS p.b.s∧(p.l=[]→Tight p.b) :=
 new_book h1 ⟨h2.1,h2.2.2.1,by have:=h2.2.2.2;omega⟩ h3 p.b rfl
theorem al_chain {b:Bk} {X:List Ax} (hw:∀ x ∈ X,0≤x.w) (g:GoodB b) (h:TOk b.L T0):∃ T:Nat→TS,T 0=T0∧(∀ k,k≤X.length→TOk (b.run X k).L (T k))∧∀ k,k < X.length→LocA (nth dA X k) (b.run X k) (T k) ((b.run X k).al (nth dA X k)).1 (b.run X (k+1)) (T (k+1)):=by
 refine chain (n:=X.length) (P:=fun k t=>TOk (b.run X k).L t) (S:=fun k t t'=>LocA (nth dA X k) (b.run X k) t ((b.run X k).al (nth dA X k)).1 (b.run X (k+1)) t') T0 h fun k t hk ht=>?_
 exact l_alone (run_good g k) ht (nth dA X k) (hw _ (nth_mem (d:=dA) hk))
set_option maxHeartbeats 3200000 in
theorem k_fits {p:Py} (hl:p.X.length≤maxLen) (hw:∀ x ∈ p.X,0≤x.w):PureS 7 [.agg (pyE p)] (.bool true):=by
 obtain ⟨fb,hfar,hok⟩:=k_far p hl
 have hsh:=k_shown
 refine PureS.mk (pure_x hmix b7 plainG ⟨plain_py p,trivial⟩ plain_bool rfl ?_)
 unfold c7
 cases fb with
 | true =>
  unfold pyE at hfar ⊢
  (refine wx_Kc ?_;repeat' (first|with_reducible refine And.intro ?_ ?_|intro hsp))
  all_goals first|exact end_bool rfl|(exfalso;omega)
 | false =>
  have hok:=hok rfl
  rcases l_begun p with ⟨e,he,hb⟩ | ⟨e,ds,he,hb⟩ | ⟨h1,h2,h3,hb⟩
  ·unfold pyE at hfar hb ⊢
   (refine wx_Kc ?_;repeat' (first|with_reducible refine And.intro ?_ ?_|intro hsp))
   all_goals first|exact end_bool rfl|(exfalso;omega)
  ·unfold pyE at hfar hb ⊢
   (refine wx_Kc ?_;repeat' (first|with_reducible refine And.intro ?_ ?_|intro hsp))
   all_goals first|exact end_bool rfl|(exfalso;omega)
  ·obtain ⟨g1,g2,-,-,-⟩:=py_good h1 h2 h3
   obtain ⟨T,hT0,hT,hst⟩:=al_chain (b:=p.b) hw g1 tok_0
   have hR0:p.b.run p.X 0=p.b:=rfl
   have hG:=run_good (X:=p.X) g1
   have hO:=run_out (X:=p.X) g1 g2
   have hA:=run_a (b:=p.b) (X:=p.X)
   have hna:((p.b.n:Nat):Int)=p.n:=Int.toNat_of_nonneg (by have:=h2.2.2.1;omega)
   have h40:=hok.1
   unfold pyE at hfar hb ⊢
   generalize p.b.run p.X=R at *
   generalize p.b=b0 at *
   generalize T0=t0 at *
   (refine wx_Kc ?_;repeat' (first|with_reducible refine And.intro ?_ ?_|intro hsp))
   (refine loop_x [1,3,4] (fun (k:Nat)=>[(6,.int .i64 (k:Nat))]) (fun (k:Nat)=>⟨[(0,.cells [.int .i64 p.a,.int .i64 p.n,.isl (p.l.map rlA),.isl (p.X.map acE)])]++bkN (R k) (T k) 1 2 3 4 5 6 7 8,9⟩) (fun (k:Nat)=>k≤p.X.length) (fun (k:Nat)=>p.X.length - k) (0) [] rfl (fun _=>by first|exact Nat.zero_le _|(dsimp only;omega)) ?_ (by ((try (conv=>whnf));(rw [hR0,hT0]);exact wkx_Kc)) ?_)
   ·exact Nat.zero_le _
   intro k hk
   unfold bkN rdN
   by_cases hkl:k < p.X.length
   ·have ha:=hst k hkl
    have hTk:=hT (k+1) hkl
    have hGk:=hG (k+1)
    have hcn:=b_Counts hGk hTk
    have hsv:=b_Save hTk
    obtain ⟨t2,-,hld⟩:=b_Load hGk
    have hcs:=p_counts hGk.good
    unfold Sy.counts at hcs
    have hft:=fits hGk (hO (k+1))
    have hAk:=hA (k+1)
    have hul:=used_le hGk
    have hrg:=hGk.rng
    generalize cntK (R (k+1)).s.K 0 1024=n0 at *
    generalize cntK (R (k+1)).s.K 1 1024=n1 at *
    generalize cntK (R (k+1)).s.K 2 1024=n2 at *
    generalize cntK (R (k+1)).s.K 3 1024=n3 at *
    generalize cntG (R (k+1)).s.G 64=n4 at *
    generalize (R (k+1)).used=u1 at *
    generalize (R (k+1)).idle=u2 at *
    generalize (R (k+1)).many=u3 at *
    clear hG hO hT hst hT0 hR0 hok hfar hb hA
    generalize ((R k).al (nth dA p.X k)).1=e at *
    generalize hx:nth dA p.X k=x at *
    (refine wx_Kc ?_;repeat' (first|with_reducible refine And.intro ?_ ?_|intro hsp))
    all_goals first|(exfalso;omega)|exact next_x (k+1) [] (by (try dsimp only);omega) (by first|omega|(dsimp only;omega)) rfl (by exact wkx_Kc)
   ·(refine wx_Kc ?_;repeat' (first|with_reducible refine And.intro ?_ ?_|intro hsp))
    all_goals exact end_bool rfl
end Go.Proofs.YtphggldkligldaaGreat.Sh
