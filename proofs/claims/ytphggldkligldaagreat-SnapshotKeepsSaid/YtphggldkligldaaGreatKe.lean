/-
 SnapshotKeeps.
-/
import Derived.Test.YtphggldkligldaaGreatSnL
import Derived.Test.YtphggldkligldaaGreatKa
set_option linter.unusedSimpArgs false
set_option linter.unusedVariables false
namespace Go.Proofs.YtphggldkligldaaGreat.Sh
open Go Go.Am Go.Pol
theorem ppx_Ke {p:Prop} (h:p:=by ((first|with_reducible assumption|with_reducible apply cells_plain|with_reducible apply ends_plain|with_reducible apply cnt_plain|with_reducible apply memI_plain _ _|with_reducible apply vw_plain|with_reducible apply nat_plain|with_reducible apply a_plain|with_reducible apply b_plain|with_reducible apply rdK_plain|with_reducible apply bc_plain|with_reducible apply plain_flat int1_plain|with_reducible apply sn_plain|with_reducible apply py_plain _|with_reducible apply ac_plain _|with_reducible apply vsA_plain _|with_reducible apply plain_map (fun _=>plain_int)|with_reducible apply plain_map (fun _=>plain_bool)|exact prx_Kc|fail);first|done|fail)):p:=h
theorem wkx_Ke {p:Prop} (h:p:=by (refine weak_s (by exact oneOf_of rfl) (by exact subH_of rfl) (by intro hs;(repeat' ((try (conv=>whnf));first|with_reducible exact True.intro|with_reducible refine And.intro ?_ ?_|(with_reducible refine WkX.mk ?_;first|exact wvx_Kc|fail)))) (by intro hs;(try dsimp only);(repeat' (first|with_reducible exact wko_nil|refine wko_tab hs (by first|decide|omega|simp) rfl rfl (by first|decide|omega|simp) rfl (by first|decide|omega|simp) ?_|refine wko_maps hs (by first|decide|omega|simp) rfl rfl key_plain ?_|refine wko_plain hs (by first|decide|omega|simp) rfl (by first|rfl) (by (first|exact ppx_Ke|fail|((refine plain_app ?_ ?_)<;>(first|exact ppx_Ke|fail)))) ?_|refine wko_cells (by first|decide|omega|simp) rfl (by repeat' (first|with_reducible exact wkl_nil|with_reducible refine wkl_cons ?_ ?_|(first|exact wvx_Kc|fail))) ?_|refine wko_loop (by first|decide|omega|simp) rfl (by ((try subst hF);(try subst hF2);exact wkl_sd (wkf_sget (by (repeat' ((try (conv=>whnf));first|with_reducible exact True.intro|with_reducible refine And.intro ?_ ?_|(with_reducible refine WkX.mk ?_;first|exact wvx_Kc|fail))))))) ?_|exact wko_nil))))):p:=h
theorem wx_Ke {p q:Prop} (hq:q) (h:HidP q→p:=by (intro hQz;((repeat' ((try (conv=>whnf));first|(with_reducible first|refine run_cons ?_|refine runq_cons ?_|refine code_seq ?_|refine code_reg ?_|refine code_cond ?_|refine run_nil ?_|refine runq_nil ?_|refine rund_op rfl ?_|refine rund_nil ?_|refine code_block ?_|refine code_skip ?_|refine code_exit ?_|refine code_ret ?_|refine code_range ?_|refine rund_fast (by decide +kernel) ?_|refine rund_slow (by decide +kernel) ?_|refine br_tt ?_|refine br_ff ?_|refine br_n ?_|refine br_and ?_|refine br_or ?_|refine br_t (by assumption) ?_|refine br_f (by assumption) ?_|refine eq_i64 (by omega) ?_|refine el_tn ?_)|((with_reducible refine br_dt ?_ ?_);focus omega)|((with_reducible refine br_df ?_ ?_);focus omega)|((with_reducible apply br_dq hQz)<;>(try intro hsp hQz))|((with_reducible refine ck_x ?_ ?_);focus (first|omega|rfl|assumption|decide|(simp only [List.length_map,List.length_cons,List.length_nil];omega)))|(with_reducible first|refine eq_tn ?_|refine eq_tn1 ?_|refine eq_tn2 ?_|refine eq_m1 ?_|refine eq_m2 ?_|refine eq_zm ?_|refine eq_z ?_|refine len_map ?_|refine len_sl ?_|refine len_nils ?_|refine len_own' ?_|refine len_isl ?_|refine eq_u8 (by omega) ?_|refine eq_u16 (by omega) ?_)|refine el_mapE (d:=dA) acE_len (by first|assumption|omega) (by with_reducible assumption) ?_|refine el_mapE (d:=dV) vw_len (by first|assumption|omega) (by with_reducible assumption) ?_|(with_reducible first|refine eq_rfl ?_|refine ChkX.mk (by kernel_rfl) ?_|refine code_q rfl ?_|refine code_d (by decide +kernel) ?_|refine end_go rfl ?_)|refine cx_pureS (by assumption) ?_|refine cx_BE hb ?_|refine cx_BB hb ?_|refine cx_A ha rfl rfl rfl rfl rfl rfl rfl rfl (by decide) rfl ?_|refine cx_b0 s1 rfl rfl rfl rfl rfl rfl rfl rfl (by decide) rfl ?_|refine cx_locS v1 rfl (by decide) ?_|refine cx_b0 s2 rfl rfl rfl rfl rfl rfl rfl rfl (by decide) rfl ?_|refine cx_locS v2 rfl (by decide) ?_|refine cx_pureS d1 ?_|refine cx_pureS d2 ?_|refine dcx_pureS d1 ?_|refine dcx_pureS d2 ?_|refine qcx_pureS d1 ?_|refine qcx_pureS d2 ?_|refine eqlx_of hq ?_|refine len_map ?_|refine len_isl ?_|refine el_of rfl rfl ?_|refine del_own ?_|refine del_own' rfl ?_|refine as_go rfl ?_|refine rd_go rfl ?_|refine rg_end rfl ?_|refine flat_ownX ?_|refine EqLX.mk ?_|((with_reducible apply br_bq hQz)<;>(try intro hsp hQz))|exact hQz.out))<;>(try (conv=>whnf))))):p:=h ⟨hq⟩
set_option maxHeartbeats 3200000 in
theorem k_keeps {p:Py} (hl:p.X.length≤maxLen) (hw:∀ x ∈ p.X,0≤x.w) (y:Ax) (hy:0≤y.w):PureS 5 [.agg (pyE p),.agg (acE y)] (.bool true):=by
 obtain ⟨fb,hfar,hok⟩:=k_far p hl
 have hsh:=k_shown
 refine PureS.mk (pure_x hmix b5 plainG ⟨plain_py p,plain_ac y,trivial⟩ plain_bool rfl ?_)
 unfold c5
 cases fb with
 | true =>
  unfold pyE at hfar ⊢
  rw [show acE y=[.int .u8 y.w,.int .i64 y.a,.int .i64 y.b,.int .i64 y.t,.int .u8 y.v,.isl (y.l.map rlA)] from rfl]
  (refine wx_Ke ?_;repeat' (first|with_reducible refine And.intro ?_ ?_|intro hsp))
  all_goals first|exact end_bool rfl|(exfalso;omega)
 | false =>
  have hok:=hok rfl
  rcases l_begun p with ⟨e,he,hb⟩ | ⟨e,ds,he,hb⟩ | ⟨h1,h2,h3,hb⟩
  ·unfold pyE at hfar hb ⊢
   rw [show acE y=[.int .u8 y.w,.int .i64 y.a,.int .i64 y.b,.int .i64 y.t,.int .u8 y.v,.isl (y.l.map rlA)] from rfl]
   (refine wx_Ke ?_;repeat' (first|with_reducible refine And.intro ?_ ?_|intro hsp))
   all_goals first|exact end_bool rfl|(exfalso;omega)
  ·unfold pyE at hfar hb ⊢
   rw [show acE y=[.int .u8 y.w,.int .i64 y.a,.int .i64 y.b,.int .i64 y.t,.int .u8 y.v,.isl (y.l.map rlA)] from rfl]
   (refine wx_Ke ?_;repeat' (first|with_reducible refine And.intro ?_ ?_|intro hsp))
   all_goals first|exact end_bool rfl|(exfalso;omega)
  ·obtain ⟨g1,g2,g3,-,-⟩:=py_good h1 h2 h3
   obtain ⟨T,hT0,hT,hst⟩:=al_chain (b:=p.b) hw g1 tok_0
   have hR0:p.b.run p.X 0=p.b:=rfl
   have hG:=run_good (X:=p.X) g1
   have hO:=run_own (X:=p.X) g1 g3
   have h40:=hok.1
   unfold pyE at hfar hb ⊢
   generalize p.b.run p.X=R at *
   generalize p.b=b0 at *
   generalize T0=t0 at *
   by_cases h60:60 < y.l.length
   ·rw [show acE y=[.int .u8 y.w,.int .i64 y.a,.int .i64 y.b,.int .i64 y.t,.int .u8 y.v,.isl (y.l.map rlA)] from rfl]
    (refine wx_Ke ?_;repeat' (first|with_reducible refine And.intro ?_ ?_|intro hsp))
    all_goals first|exact end_bool rfl|(exfalso;omega)
   rw [show acE y=[.int .u8 y.w,.int .i64 y.a,.int .i64 y.b,.int .i64 y.t,.int .u8 y.v,.isl (y.l.map rlA)] from rfl]
   (refine wx_Ke ?_;repeat' (first|with_reducible refine And.intro ?_ ?_|intro hsp))
   (refine loop_x [2,3,5,6] (fun (k:Nat)=>[(8,.int .i64 (k:Nat))]) (fun (k:Nat)=>⟨[(0,.cells [.int .i64 p.a,.int .i64 p.n,.isl (p.l.map rlA),.isl (p.X.map acE)]),(1,.cells [.int .u8 y.w,.int .i64 y.a,.int .i64 y.b,.int .i64 y.t,.int .u8 y.v,.isl (y.l.map rlA)])]++bkN (R k) (T k) 2 3 4 5 6 7 8 9,10⟩) (fun (k:Nat)=>k≤p.X.length) (fun (k:Nat)=>p.X.length - k) (0) [] rfl (fun _=>by first|exact Nat.zero_le _|(dsimp only;omega)) ?_ (by ((try (conv=>whnf));(rw [hR0,hT0]);exact wkx_Ke)) ?_)
   ·exact Nat.zero_le _
   intro k hk
   unfold bkN rdN
   by_cases hkl:k < p.X.length
   ·have ha:=hst k hkl
    clear hG hO hT hst hT0 hR0 hok hfar hb
    generalize ((R k).al (nth dA p.X k)).1=e at *
    generalize hx:nth dA p.X k=x at *
    (refine wx_Ke ?_;repeat' (first|with_reducible refine And.intro ?_ ?_|intro hsp))
    all_goals first|(exfalso;omega)|exact next_x (k+1) [] (by (try dsimp only);omega) (by first|omega|(dsimp only;omega)) rfl (by exact wkx_Ke)
   ·obtain rfl:k=p.X.length:=by omega
    have hTk:=hT _ (Nat.le_refl _)
    have hGk:=hG p.X.length
    have hOk:=hO p.X.length
    obtain ⟨t2,h5,ha⟩:=l_alone hGk hTk y hy
    have hG2:GoodB ((R p.X.length).al y).2:=call_good hGk _ _ _ _ _ _
    have hca:=call_a (b:=R p.X.length) (y.w.toNat % 14) y.a y.b y.t y.v y.l
    rw [show (R p.X.length).call (y.w.toNat % 14) y.a y.b y.t y.v y.l=(R p.X.length).al y from rfl] at hca
    have hno:=call_no hGk hOk (y.w.toNat % 14) y.a y.b y.t y.v y.l
    rw [show (R p.X.length).call (y.w.toNat % 14) y.a y.b y.t y.v y.l=(R p.X.length).al y from rfl] at hno
    clear hG hO hT hst hT0 hR0 hok hfar hb
    generalize T p.X.length=t1 at *
    generalize hq1:R p.X.length=q1 at *
    generalize q1.al y=r at *
    obtain ⟨e,q2⟩:=r
    dsimp only at *
    have s1:=b_Save hTk
    have v1:=p_save hGk.good
    have vp1:=vsA_plain q1.s.save
    by_cases he:e=0
    ·subst he
     (refine wx_Ke ?_;repeat' (first|with_reducible refine And.intro ?_ ?_|intro hsp))
     all_goals first|exact end_bool rfl|(exfalso;omega)
    ·obtain ⟨hL,hB⟩:=hno he
     have s2:=b_Save h5
     have v2:=p_save hG2.good
     have vp2:=vsA_plain q2.s.save
     rw [hL,hca.1,hca.2] at s2
     have vq1:=vp1
     have vq2:=vp2
     unfold vsA Go.Pol.stA at vq1 vq2
     (refine wx_Ke ?_;repeat' (first|with_reducible refine And.intro ?_ ?_|intro hsp))
     (refine loop_x [9,10,11,12] (fun (i:Nat)=>[(13,.int .i64 (i:Nat))]) (fun (i:Nat)=>⟨[(10,.cells [.int .i64 (q1.a:Nat),.int .i64 (q1.n:Nat),.isl (q1.L.map vwC)]),(11,.cells (vsA q1.s.save)),(12,.cells [.int .i64 (q1.a:Nat),.int .i64 (q1.n:Nat),.isl (q1.L.map vwC)]),(13,.cells (vsA q2.s.save))],14⟩) (fun (i:Nat)=>i≤q1.L.length) (fun (i:Nat)=>q1.L.length - i) (0) [] rfl (fun _=>by first|exact Nat.zero_le _|(dsimp only;omega)) ?_ (by ((try (conv=>whnf));exact wkx_Ke)) ?_)
     ·exact Nat.zero_le _
     intro i hi
     have hlen:=hGk.len
     by_cases hil:i < q1.L.length
     ·have hm:=nth_mem (d:=dV) hil
      have hf:=(hGk.ok _ hm).2.2
      have d1:=k_data (s:=q1.s) (nth dV q1.L i).2.2.1 hf vp1
      have d2:=k_data (s:=q2.s) (nth dV q1.L i).2.2.1 hf vp2
      rw [hB _ (cnt_posE.2 ⟨_,hm,rfl⟩)] at d2
      have hq:=eqL_bc (f:=q1.s.B (nth dV q1.L i).2.2.1) (g:=q1.s.B (nth dV q1.L i).2.2.1)
      rw [decide_eq_true (show eqB _ _ from fun _ _=>rfl)] at hq
      clear hB hno
      generalize q1.s.B (nth dV q1.L i).2.2.1=bb at *
      generalize hx:nth dV q1.L i=x at *
      generalize bcA bb=bl at *
      (refine wx_Ke ?_;repeat' (first|with_reducible refine And.intro ?_ ?_|intro hsp))
      all_goals first|(exfalso;omega)|exact next_x (i+1) [] (by (try dsimp only);omega) (by first|omega|(dsimp only;omega)) rfl (by exact wkx_Ke)
     ·have hsm:=k_same (a:=(q1.a:Nat)) (n:=(q1.n:Nat)) (L:=q1.L) (by omega)
      (refine wx_Ke ?_;repeat' (first|with_reducible refine And.intro ?_ ?_|intro hsp))
      all_goals first|exact end_bool rfl|(exfalso;omega)
end Go.Proofs.YtphggldkligldaaGreat.Sh
