/-
 SnapshotBack.
-/
import Derived.Test.YtphggldkligldaaKy
set_option linter.unusedSimpArgs false
set_option linter.unusedVariables false
namespace Go.Pol
open Go.Am
def Bk.rnB (b:Bk) (X:List Ax):Nat→Bk
 | 0=>b
 | k+1=>if (nth dA X k).w.toNat % 14=13 then b.rnB X k else ((b.rnB X k).al (nth dA X k)).2
theorem rnB_y {b:Bk} {X:List Ax} {k:Nat} (h:(nth dA X k).w.toNat % 14=13):b.rnB X (k+1)=b.rnB X k:=if_pos h
theorem rnB_n {b:Bk} {X:List Ax} {k:Nat} (h:¬ (nth dA X k).w.toNat % 14=13):b.rnB X (k+1)=((b.rnB X k).al (nth dA X k)).2:=if_neg h
theorem rnB_all {b:Bk} {X:List Ax} (g:GoodB b) (o:OutB b) (t:Tight b):∀ k,GoodB (b.rnB X k)∧OutB (b.rnB X k)∧Tight (b.rnB X k)
 | 0=>⟨g,o,t⟩
 | k+1=>by
  obtain ⟨h1,h2,h3⟩:=rnB_all g o t k
  by_cases h:(nth dA X k).w.toNat % 14=13
  ·rw [rnB_y h];exact ⟨h1,h2,h3⟩
  ·rw [rnB_n h];exact ⟨call_good h1 _ _ _ _ _ _,call_out h1 h2 _ _ _ _ _ _,call_tight h1 h3 _ h _ _ _ _ _⟩
end Go.Pol
namespace Go.Proofs.Ytphggldkligldaa.Sh
open Go Go.Am Go.Pol
theorem plx_Kr {p:Prop} (h:p:=by ((first|assumption|exact plain_int|exact plain_bool|exact plain_undef|exact plain_nils|exact plain_nilp|exact plain_nilf|exact plain_str|with_reducible apply plain_int|with_reducible apply plain_bool|with_reducible apply plain_vwC|with_reducible apply plain_vwE|with_reducible apply plain_vs|with_reducible apply plain_stA|with_reducible apply plain_ns|with_reducible apply plain_bc|with_reducible apply plain_none|with_reducible apply plain_is|with_reducible apply plain_pl|with_reducible apply plain_rls|with_reducible apply plain_sna|with_reducible apply plain_acs|with_reducible apply plain_py _|with_reducible apply plain_ac _|fail);first|done|fail)):p:=h
theorem prx_Kr {p:Prop} (h:p:=by (((repeat' (first|exact plain_all0|refine plain_all2 ?_ ?_|exact plain_int|first|assumption|exact plain_int|exact plain_bool|exact plain_undef|exact plain_nils|exact plain_nilp|exact plain_nilf|exact plain_str|with_reducible apply plain_int|with_reducible apply plain_bool|with_reducible apply plain_vwC|with_reducible apply plain_vwE|with_reducible apply plain_vs|with_reducible apply plain_stA|with_reducible apply plain_ns|with_reducible apply plain_bc|with_reducible apply plain_none|with_reducible apply plain_is|with_reducible apply plain_pl|with_reducible apply plain_rls|with_reducible apply plain_sna|with_reducible apply plain_acs|with_reducible apply plain_py _|with_reducible apply plain_ac _)));first|done|fail)):p:=h
theorem ppx_Kr {p:Prop} (h:p:=by ((first|with_reducible assumption|with_reducible apply cells_plain|with_reducible apply ends_plain|with_reducible apply cnt_plain|with_reducible apply memI_plain _ _|with_reducible apply vw_plain|with_reducible apply nat_plain|with_reducible apply a_plain|with_reducible apply b_plain|with_reducible apply rdK_plain|with_reducible apply bc_plain|with_reducible apply plain_flat int1_plain|with_reducible apply py_plain _|with_reducible apply ac_plain _|with_reducible apply plain_map (fun _=>plain_int)|with_reducible apply plain_map (fun _=>plain_bool)|exact prx_Kr|fail);first|done|fail)):p:=h
theorem wvx_Kr {p:Prop} (h:p:=by ((first|exact wk_undef|exact wk_int (by first|rfl|omega|(dsimp only;omega))|exact wk_bool rfl|exact wk_ptr rfl (by first|decide|simp|omega)|exact wk_map rfl (by first|decide|simp|omega)|exact wk_sl rfl (by first|decide|simp|omega) (by first|rfl|omega|simp) (by first|omega|simp) (by first|omega|simp)|exact wk_own rfl (by first|decide|simp|omega)|exact wk_nil0 (by first|rfl|simp)|exact wk_slown rfl (by first|decide|omega|(simp;done)) (by first|omega|(simp;done)) (by first|rfl|omega|(simp;done)|(simp;omega))|exact wk_plain hs plx_Kr|(with_reducible refine wk_fn ?_ ?_<;>repeat' (first|with_reducible exact wkl_nil|with_reducible refine wkl_cons ?_ ?_|exact wk_ptr rfl (by first|decide|simp|omega)))|(with_reducible refine wk_agg ?_;repeat' (first|with_reducible exact wkl_nil|with_reducible refine wkl_cons ?_ ?_|exact wk_int (by first|rfl|omega|(dsimp only;omega))|exact wk_bool rfl))|exact wk_yld rfl (by first|decide|simp|omega)|(with_reducible refine wk_tup ?_;repeat' (first|with_reducible exact wkl_nil|with_reducible refine wkl_cons ?_ ?_|exact wk_int (by first|rfl|omega|(dsimp only;omega))|exact wk_bool rfl|exact wk_ptr rfl (by first|decide|simp|omega)))|fail);first|done|fail)):p:=h
theorem wkx_Kr {p:Prop} (h:p:=by (refine weak_s (by exact oneOf_of rfl) (by exact subH_of rfl) (by intro hs;(repeat' ((try (conv=>whnf));first|with_reducible exact True.intro|with_reducible refine And.intro ?_ ?_|(with_reducible refine WkX.mk ?_;first|exact wvx_Kr|fail)))) (by intro hs;(try dsimp only);(repeat' (first|with_reducible exact wko_nil|refine wko_tab hs (by first|decide|omega|simp) rfl rfl (by first|decide|omega|simp) rfl (by first|decide|omega|simp) ?_|refine wko_maps hs (by first|decide|omega|simp) rfl rfl key_plain ?_|refine wko_plain hs (by first|decide|omega|simp) rfl (by first|rfl) (by (first|exact ppx_Kr|fail|((refine plain_app ?_ ?_)<;>(first|exact ppx_Kr|fail)))) ?_|refine wko_cells (by first|decide|omega|simp) rfl (by repeat' (first|with_reducible exact wkl_nil|with_reducible refine wkl_cons ?_ ?_|(first|exact wvx_Kr|fail))) ?_|refine wko_loop (by first|decide|omega|simp) rfl (by ((try subst hF);(try subst hF2);exact wkl_sd (wkf_sget (by (repeat' ((try (conv=>whnf));first|with_reducible exact True.intro|with_reducible refine And.intro ?_ ?_|(with_reducible refine WkX.mk ?_;first|exact wvx_Kr|fail))))))) ?_|exact wko_nil))))):p:=h
theorem wx_Kr {p q:Prop} (hq:q) (h:HidP q→p:=by (intro hQz;((repeat' ((try (conv=>whnf));first|(with_reducible first|refine run_cons ?_|refine runq_cons ?_|refine code_seq ?_|refine code_reg ?_|refine code_cond ?_|refine run_nil ?_|refine runq_nil ?_|refine rund_op rfl ?_|refine rund_nil ?_|refine code_block ?_|refine code_skip ?_|refine code_exit ?_|refine code_ret ?_|refine code_range ?_|refine rund_fast (by decide +kernel) ?_|refine rund_slow (by decide +kernel) ?_|refine br_tt ?_|refine br_ff ?_|refine br_n ?_|refine br_and ?_|refine br_or ?_|refine br_t (by assumption) ?_|refine br_f (by assumption) ?_|refine eq_i64 (by omega) ?_|refine el_tn ?_)|((with_reducible refine br_dt ?_ ?_);focus omega)|((with_reducible refine br_df ?_ ?_);focus omega)|((with_reducible apply br_dq hQz)<;>(try intro hsp hQz))|((with_reducible refine ck_x ?_ ?_);focus (first|omega|rfl|assumption|decide|(simp only [List.length_map,List.length_cons,List.length_nil];omega)))|(with_reducible first|refine eq_tn ?_|refine eq_tn1 ?_|refine eq_tn2 ?_|refine eq_m1 ?_|refine eq_m2 ?_|refine eq_zm ?_|refine eq_z ?_|refine len_map ?_|refine len_sl ?_|refine len_nils ?_|refine len_own' ?_|refine len_isl ?_|refine eq_u8 (by omega) ?_|refine eq_u16 (by omega) ?_)|refine el_mapE (d:=dA) acE_len (by first|assumption|omega) (by with_reducible assumption) ?_|refine eq_of (by with_reducible assumption) ?_|(with_reducible first|refine eq_rfl ?_|refine ChkX.mk (by kernel_rfl) ?_|refine code_q rfl ?_|refine code_d (by decide +kernel) ?_|refine end_go rfl ?_)|refine cx_pureS (by assumption) ?_|refine cx_BE hb ?_|refine cx_BB hb ?_|refine el_mapE (d:=dA) acE_len (by first|assumption|omega) (by with_reducible assumption) ?_|refine eq_of (by with_reducible assumption) ?_|refine cx_A ha rfl rfl rfl rfl rfl rfl rfl rfl (by decide) rfl ?_|refine cx_b0 hd rfl rfl rfl rfl rfl rfl rfl rfl (by decide) rfl ?_|refine cx_b0 hcn rfl rfl rfl rfl rfl rfl rfl rfl (by decide) rfl ?_|refine cx_b0 hsv rfl rfl rfl rfl rfl rfl rfl rfl (by decide) rfl ?_|refine cx_locS hcs rfl (by decide) ?_|refine cx_pureS hsh ?_|refine len_map ?_|refine len_isl ?_|refine el_of rfl rfl ?_|refine del_own ?_|refine del_own' rfl ?_|refine as_go rfl ?_|refine rd_go rfl ?_|refine rg_end rfl ?_|refine flat_ownX ?_|refine EqLX.mk ?_|((with_reducible apply br_bq hQz)<;>(try intro hsp hQz))|exact hQz.out))<;>(try (conv=>whnf))))):p:=h ⟨hq⟩
theorem rnB_chain {b:Bk} {X:List Ax} (hw:∀ x ∈ X,0≤x.w) (g:GoodB b) (o:OutB b) (tt:Tight b) (h:TOk b.L T0):∃ T:Nat→TS,T 0=T0∧(∀ k,k≤X.length→TOk (b.rnB X k).L (T k))∧∀ k,k < X.length→((nth dA X k).w.toNat % 14=13∧T (k+1)=T k∧b.rnB X (k+1)=b.rnB X k)∨(¬ (nth dA X k).w.toNat % 14=13∧∃ e,LocA (nth dA X k) (b.rnB X k) (T k) e (b.rnB X (k+1)) (T (k+1))):=by
 refine chain (n:=X.length) (P:=fun k t=>TOk (b.rnB X k).L t) (S:=fun k t t'=>((nth dA X k).w.toNat % 14=13∧t'=t∧b.rnB X (k+1)=b.rnB X k)∨(¬ (nth dA X k).w.toNat % 14=13∧∃ e,LocA (nth dA X k) (b.rnB X k) t e (b.rnB X (k+1)) t')) T0 h fun k t hk ht=>?_
 by_cases h13:(nth dA X k).w.toNat % 14=13
 ·exact ⟨t,by rw [rnB_y h13];exact ht,.inl ⟨h13,rfl,rnB_y h13⟩⟩
 ·obtain ⟨t',h1,h2⟩:=l_alone (rnB_all g o tt k).1 ht (nth dA X k) (hw _ (nth_mem (d:=dA) hk))
  exact ⟨t',by rw [rnB_n h13];exact h1,.inr ⟨h13,_,by rw [rnB_n h13];exact h2⟩⟩
theorem drop_chain {b:Bk} {t:TS} (g:GoodB b) (o:OutB b) (tt:Tight b) (h:TOk b.L t):∃ T:Nat→TS,T 0=t∧(∀ k,k≤64→TOk (b.drops k).L (T k))∧∀ k,k < 64→∃ n,LocB 12 0 [.int .i64 (k:Nat)] (b.drops k) (T k) (.tup [.int .i64 n,.int .i64 0]) (b.drops (k+1)) (T (k+1)):=by
 refine chain (n:=64) (P:=fun k t=>TOk (b.drops k).L t) (S:=fun k t t'=>∃ n,LocB 12 0 [.int .i64 (k:Nat)] (b.drops k) t (.tup [.int .i64 n,.int .i64 0]) (b.drops (k+1)) t') t h fun k t hk ht=>?_
 obtain ⟨t',h1,h2⟩:=b_Drop (drops_all g o tt k (by omega)).1 ht (k:Nat)
 rw [drop_zero k hk] at h2
 exact ⟨t',h1,_,h2⟩
theorem wkA_py {a n:Int} {X:List Ax}:WkA (.agg [.int .i64 a,.int .i64 n,.nils,.isl (X.map acE)]) (.agg (pyE ⟨a,n,[],X⟩)):=wkA_agg ⟨wkA_rfl,wkA_rfl,wkA_nil,wkA_rfl,trivial⟩
theorem plain_py0 {a n:Int} {X:List Ax}:Plain (.agg [.int .i64 a,.int .i64 n,.nils,.isl (X.map acE)]):=plain_agg fun x hx=>by
 simp only [List.mem_cons,List.not_mem_nil,or_false] at hx
 rcases hx with rfl|rfl|rfl|rfl<;>first|exact plain_int|exact plain_nils|exact plain_acs
theorem pa_py0 {a n:Int} {X:List Ax}:∀ x ∈ [AV.agg [.int .i64 a,.int .i64 n,.nils,.isl (X.map acE)]],Plain x:=fun x hx=>by obtain rfl:=List.mem_singleton.1 hx;exact plain_py0
theorem l_begun0 (a n:Int) (X:List Ax):(∃ e,e ≠ 0∧PureS 7 [.agg [.int .i64 a,.int .i64 n,.nils,.isl (X.map acE)]] (.tup [.nilp,.nilp,.int .i64 e]))∨(∃ e ds,e ≠ 0∧LocBE [.agg [.int .i64 a,.int .i64 n,.nils,.isl (X.map acE)]] e ds)∨(stat a n∧((Sy.new []).chg a n 0 1 0).1=0∧LocBB [.agg [.int .i64 a,.int .i64 n,.nils,.isl (X.map acE)]] (Py.b ⟨a,n,[],X⟩) T0):=by
 rcases l_begun ⟨a,n,[],X⟩ with ⟨e,he,hb⟩ | ⟨e,ds,he,hb⟩ | ⟨h1,h2,h3,hb⟩
 ·exact .inl ⟨e,he,⟨hb.out.weak (WkAs.args ⟨wkA_py,trivial⟩)⟩⟩
 ·exact .inr (.inl ⟨e,ds,he,⟨hb.out.weak (WkAs.args ⟨wkA_py,trivial⟩),pa_py0,hb.pd⟩⟩)
 ·exact .inr (.inr ⟨h2,h3,⟨hb.out.weak (WkAs.args ⟨wkA_py,trivial⟩),pa_py0⟩⟩)
set_option maxHeartbeats 3200000 in
theorem k_back {p:Py} (hl:p.X.length≤maxLen) (hw:∀ x ∈ p.X,0≤x.w):PureS 4 [.agg (pyE p)] (.bool true):=by
 obtain ⟨fb,hfar,hok⟩:=k_far p hl
 have hsh:=k_shown
 refine PureS.mk (pure_x hmix b4 plainG ⟨plain_py p,trivial⟩ plain_bool rfl ?_)
 unfold c4
 cases fb with
 | true =>
  unfold pyE at hfar ⊢
  (refine wx_Kr ?_;repeat' (first|with_reducible refine And.intro ?_ ?_|intro hsp))
  all_goals first|exact end_bool rfl|(exfalso;omega)
 | false =>
  have hok:=hok rfl
  rcases l_begun0 p.a p.n p.X with ⟨e,he,hb⟩ | ⟨e,ds,he,hb⟩ | ⟨h2,h3,hb⟩
  ·unfold pyE at hfar ⊢
   (refine wx_Kr ?_;repeat' (first|with_reducible refine And.intro ?_ ?_|intro hsp))
   all_goals first|exact end_bool rfl|(exfalso;omega)
  ·unfold pyE at hfar ⊢
   (refine wx_Kr ?_;repeat' (first|with_reducible refine And.intro ?_ ?_|intro hsp))
   all_goals first|exact end_bool rfl|(exfalso;omega)
  ·obtain ⟨g1,g2,-,-,g5⟩:=py_good (p:=⟨p.a,p.n,[],p.X⟩) (show (chkP []).2=0 by decide) h2 h3
   have g5:=g5 rfl
   obtain ⟨T,hT0,hT,hst⟩:=rnB_chain (X:=p.X) hw g1 g2 g5 tok_0
   have hR0:(Py.b ⟨p.a,p.n,[],p.X⟩).rnB p.X 0=Py.b ⟨p.a,p.n,[],p.X⟩:=rfl
   obtain ⟨e1,e2,e3⟩:=rnB_all (X:=p.X) g1 g2 g5 p.X.length
   have h40:=hok.1
   have hwt:∀ k,k < p.X.length→(nth dA p.X k).w.tmod 14=(((nth dA p.X k).w.toNat % 14:Nat):Int):=fun k hk=>by
    have:=hw _ (nth_mem (d:=dA) hk)
    rw [Int.tmod_eq_emod_of_nonneg this];omega
   unfold pyE at hfar ⊢
   generalize (Py.b ⟨p.a,p.n,[],p.X⟩).rnB p.X=R at *
   generalize Py.b ⟨p.a,p.n,[],p.X⟩=b0 at *
   generalize T0=t0 at *
   (refine wx_Kr ?_;repeat' (first|with_reducible refine And.intro ?_ ?_|intro hsp))
   (refine loop_x [1,3,4] (fun (k:Nat)=>[(6,.int .i64 (k:Nat))]) (fun (k:Nat)=>⟨[(0,.cells [.int .i64 p.a,.int .i64 p.n,.nils,.isl (p.X.map acE)])]++bkN (R k) (T k) 1 2 3 4 5 6 7 8,9⟩) (fun (k:Nat)=>k≤p.X.length) (fun (k:Nat)=>p.X.length - k) (0) [] rfl (fun _=>by first|exact Nat.zero_le _|(dsimp only;omega)) ?_ (by ((try (conv=>whnf));(rw [hR0,hT0]);exact wkx_Kr)) ?_)
   ·exact Nat.zero_le _
   intro k hk
   unfold bkN rdN
   by_cases hkl:k < p.X.length
   ·have hs:=hst k hkl
    have hm:=hwt k hkl
    clear hwt hst hT hw hb hfar
    rcases hs with ⟨h13,hT1,hR1⟩ | ⟨h13,e,ha⟩
    ·generalize hx:nth dA p.X k=x at *
     (refine wx_Kr ?_;repeat' (first|with_reducible refine And.intro ?_ ?_|intro hsp))
     all_goals first|(exfalso;omega)|exact next_x (k+1) [] (by (try dsimp only);omega) (by first|omega|(dsimp only;omega)) rfl (by ((try dsimp only);rw [hR1,hT1]);exact wkx_Kr)
    ·generalize hx:nth dA p.X k=x at *
     (refine wx_Kr ?_;repeat' (first|with_reducible refine And.intro ?_ ?_|intro hsp))
     all_goals first|(exfalso;omega)|exact next_x (k+1) [] (by (try dsimp only);omega) (by first|omega|(dsimp only;omega)) rfl (by exact wkx_Kr)
   ·obtain rfl:k=p.X.length:=by omega
    obtain ⟨U,hU0,hU,hus⟩:=drop_chain e1 e2 e3 (hT _ (Nat.le_refl _))
    have hD0:(R p.X.length).drops 0=R p.X.length:=rfl
    have hbk:=back e1 e2 e3
    have gD:=drops_all e1 e2 e3
    clear hwt hst hT hw hb hfar hT0 hR0
    generalize T p.X.length=t1 at *
    generalize hD:(R p.X.length).drops=D at *
    generalize R p.X.length=q1 at *
    (refine wx_Kr ?_;repeat' (first|with_reducible refine And.intro ?_ ?_|intro hsp))
    (refine loop_x [3,4] (fun (j:Nat)=>[(7,.int .i64 (j:Nat))]) (fun (j:Nat)=>⟨bkN (D j) (U j) 1 2 3 4 5 6 7 8,9⟩) (fun (j:Nat)=>j≤64) (fun (j:Nat)=>64 - j) (0) [] rfl (fun _=>by first|exact Nat.zero_le _|(dsimp only;omega)) ?_ (by ((try (conv=>whnf));(rw [hD0,hU0]);exact wkx_Kr)) ?_)
    ·exact Nat.zero_le _
    intro j hj
    unfold bkN rdN
    by_cases hj6:j < 64
    ·obtain ⟨n,hd⟩:=hus j hj6
     clear hus hU gD hbk
     (refine wx_Kr ?_;repeat' (first|with_reducible refine And.intro ?_ ?_|intro hsp))
     all_goals first|(exfalso;omega)|exact next_x (j+1) [] (by (try dsimp only);omega) (by first|omega|(dsimp only;omega)) rfl (by exact wkx_Kr)
    ·obtain rfl:j=64:=by omega
     have gD:=(gD 64 (Nat.le_refl _)).1
     have hUo:=hU 64 (Nat.le_refl _)
     have hcn:=b_Counts gD hUo
     have hcs:=p_counts gD.good
     have hsv:=b_Save hUo
     obtain ⟨x1,x2,x3,x4,x5⟩:=hbk
     rw [x1,x2,x3] at hcn
     unfold Sy.counts at hcs
     rw [x4] at hcs
     rw [x5] at hsv
     generalize cntK (D 64).s.K 0 1024=n0 at *
     generalize cntK (D 64).s.K 1 1024=n1 at *
     generalize cntK (D 64).s.K 3 1024=n3 at *
     generalize cntG (D 64).s.G 64=n4 at *
     (refine wx_Kr ?_;repeat' (first|with_reducible refine And.intro ?_ ?_|intro hsp))
     all_goals first|exact end_bool rfl|(exfalso;omega)|(exfalso;simp at hsp;done)
end Go.Proofs.Ytphggldkligldaa.Sh
