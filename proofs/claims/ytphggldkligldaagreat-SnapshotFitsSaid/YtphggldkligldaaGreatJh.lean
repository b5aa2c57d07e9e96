/-
 A book's calls: Differ.
-/
import Derived.Test.YtphggldkligldaaGreatJg
set_option linter.unusedSimpArgs false
set_option linter.unusedVariables false
namespace Go.Proofs.YtphggldkligldaaGreat.Sh
open Go Go.Am Go.Pol
theorem plx_Jh {p:Prop} (h:p:=by ((first|assumption|exact plain_int|exact plain_bool|exact plain_undef|exact plain_nils|exact plain_nilp|exact plain_nilf|exact plain_str|with_reducible apply plain_int|with_reducible apply plain_bool|with_reducible apply plain_vwC|with_reducible apply plain_vwE|with_reducible apply plain_vs|with_reducible apply plain_stA|with_reducible apply plain_ns|with_reducible apply plain_bc|with_reducible apply plain_none|with_reducible apply plain_is|fail);first|done|fail)):p:=h
theorem prx_Jh {p:Prop} (h:p:=by (((repeat' (first|exact plain_all0|refine plain_all2 ?_ ?_|exact plain_int|first|assumption|exact plain_int|exact plain_bool|exact plain_undef|exact plain_nils|exact plain_nilp|exact plain_nilf|exact plain_str|with_reducible apply plain_int|with_reducible apply plain_bool|with_reducible apply plain_vwC|with_reducible apply plain_vwE|with_reducible apply plain_vs|with_reducible apply plain_stA|with_reducible apply plain_ns|with_reducible apply plain_bc|with_reducible apply plain_none|with_reducible apply plain_is)));first|done|fail)):p:=h
theorem ppx_Jh {p:Prop} (h:p:=by ((first|with_reducible assumption|with_reducible apply cells_plain|with_reducible apply ends_plain|with_reducible apply cnt_plain|with_reducible apply memI_plain _ _|with_reducible apply vw_plain|with_reducible apply nat_plain|with_reducible apply a_plain|with_reducible apply b_plain|with_reducible apply rdK_plain|with_reducible apply bc_plain|with_reducible apply plain_flat int1_plain|with_reducible apply plain_map (fun _=>plain_int)|with_reducible apply plain_map (fun _=>plain_bool)|exact prx_Jh|fail);first|done|fail)):p:=h
theorem wvx_Jh {p:Prop} (h:p:=by ((first|exact wk_undef|exact wk_int (by first|rfl|omega|(dsimp only;omega))|exact wk_bool rfl|exact wk_ptr rfl (by first|decide|simp|omega)|exact wk_map rfl (by first|decide|simp|omega)|exact wk_sl rfl (by first|decide|simp|omega) (by first|rfl|omega|simp) (by first|omega|simp) (by first|omega|simp)|exact wk_own rfl (by first|decide|simp|omega)|exact wk_nil0 (by first|rfl|simp)|exact wk_slown rfl (by first|decide|omega|(simp;done)) (by first|omega|(simp;done)) (by first|rfl|omega|(simp;done)|(simp;omega))|exact wk_plain hs plx_Jh|(with_reducible refine wk_fn ?_ ?_<;>repeat' (first|with_reducible exact wkl_nil|with_reducible refine wkl_cons ?_ ?_|exact wk_ptr rfl (by first|decide|simp|omega)))|(with_reducible refine wk_agg ?_;repeat' (first|with_reducible exact wkl_nil|with_reducible refine wkl_cons ?_ ?_|exact wk_int (by first|rfl|omega|(dsimp only;omega))|exact wk_bool rfl))|exact wk_yld rfl (by first|decide|simp|omega)|(with_reducible refine wk_tup ?_;repeat' (first|with_reducible exact wkl_nil|with_reducible refine wkl_cons ?_ ?_|exact wk_int (by first|rfl|omega|(dsimp only;omega))|exact wk_bool rfl|exact wk_ptr rfl (by first|decide|simp|omega)))|fail);first|done|fail)):p:=h
theorem wkx_Jh {p:Prop} (h:p:=by (refine weak_o (by rfl) (by rfl) (fun hz=>by first|exact absurd rfl hz|(simp [lk,lk_ownE hz];done)|exact lk_ownE hz|rfl) (by rfl) (int1_plain) (by intro hs;(repeat' ((try (conv=>whnf));first|with_reducible exact True.intro|with_reducible refine And.intro ?_ ?_|(with_reducible refine WkX.mk ?_;first|exact wvx_Jh|fail)))) (by intro hs;(repeat' (first|with_reducible exact wko_nil|refine wko_tab hs (by first|decide|omega|simp) rfl rfl (by first|decide|omega|simp) rfl (by first|decide|omega|simp) ?_|refine wko_maps hs (by first|decide|omega|simp) rfl rfl key_plain ?_|refine wko_plain hs (by first|decide|omega|simp) rfl (by first|rfl) (by (first|exact ppx_Jh|fail|((refine plain_app ?_ ?_)<;>(first|exact ppx_Jh|fail)))) ?_|refine wko_cells (by first|decide|omega|simp) rfl (by repeat' (first|with_reducible exact wkl_nil|with_reducible refine wkl_cons ?_ ?_|(first|exact wvx_Jh|fail))) ?_|refine wko_loop (by first|decide|omega|simp) rfl (by ((try subst hF);(try subst hF2);exact wkl_sd (wkf_sget (by (repeat' ((try (conv=>whnf));first|with_reducible exact True.intro|with_reducible refine And.intro ?_ ?_|(with_reducible refine WkX.mk ?_;first|exact wvx_Jh|fail))))))) ?_|exact wko_nil))))):p:=h
theorem wx_Jh {p q:Prop} (hq:q) (h:HidP q→p:=by (intro hQz;((repeat' ((try (conv=>whnf));first|(with_reducible first|refine run_cons ?_|refine runq_cons ?_|refine code_seq ?_|refine code_reg ?_|refine code_cond ?_|refine run_nil ?_|refine runq_nil ?_|refine rund_op rfl ?_|refine rund_nil ?_|refine code_block ?_|refine code_skip ?_|refine code_exit ?_|refine code_ret ?_|refine code_range ?_|refine rund_fast (by decide +kernel) ?_|refine rund_slow (by decide +kernel) ?_|refine br_tt ?_|refine br_ff ?_|refine br_n ?_|refine br_and ?_|refine br_or ?_|refine br_t (by assumption) ?_|refine br_f (by assumption) ?_|refine eq_i64 (by omega) ?_|refine el_tn ?_)|((with_reducible refine br_dt ?_ ?_);focus omega)|((with_reducible refine br_df ?_ ?_);focus omega)|((with_reducible apply br_dq hQz)<;>(try intro hsp hQz))|((with_reducible refine ck_x ?_ ?_);focus (first|omega|rfl|assumption|decide|(simp only [List.length_map,List.length_cons,List.length_nil];omega)))|(with_reducible first|refine eq_tn ?_|refine eq_tn1 ?_|refine eq_tn2 ?_|refine eq_m1 ?_|refine eq_m2 ?_|refine eq_zm ?_|refine eq_z ?_|refine len_map ?_|refine len_sl ?_|refine len_nils ?_|refine len_own' ?_|refine len_isl ?_|refine eq_u8 (by omega) ?_|refine eq_u16 (by omega) ?_)|(with_reducible first|refine eq_rfl ?_|refine ChkX.mk (by kernel_rfl) ?_|refine code_q rfl ?_|refine code_d (by decide +kernel) ?_|refine end_go rfl ?_)|refine cx_b0 hi rfl rfl rfl rfl rfl rfl rfl rfl (by decide) rfl ?_|refine cx_pureS (by assumption) ?_|refine apps_own (f:=int1) (l2:=[((k:Nat):Int)]) int1_len (src_of rfl (by first|rfl|(simp;done)|(simp [*];done))) (fun hz=>by first|(simp [lk,lk_own,lk_ownS hz,lk_ownE hz];done)|rfl) (fun hz=>by first|(simp [lk,lk_own,lk_ownO,lk_tN hz,lk_ownN hz];done)|rfl) (by first|rfl|(simp [flat,int1];done)|(simp [flat,int1, *];done)) (by decide) ⟨by omega,by omega⟩ rfl ?_|((with_reducible apply appx_q hQz);intro hQa hQb;refine appx_own (f:=int1) (l2:=[((k:Nat):Int)]) int1_len (src_of rfl (by first|rfl|(simp;done)|(simp [*];done))) (fun hz=>by first|(simp [lk,lk_own,lk_ownS hz,lk_ownE hz];done)|rfl) (by first|rfl|(simp [flat,int1];done)|(simp [flat,int1, *];done)) (by decide) ⟨by omega,by omega⟩ ?_ ?_<;>intro hzz<;>first|(have hQz:=HidP.mk (hQa.out hzz))|(have hQz:=HidP.mk (hQb.out hzz)))|refine filt_own rfl ?_|refine cx_tab f1 rfl rfl rfl rfl rfl (by decide) rfl ?_|refine cx_tab f2 rfl rfl rfl rfl rfl (by decide) rfl ?_|refine len_map ?_|refine len_isl ?_|refine el_of rfl rfl ?_|refine del_own ?_|refine del_own' rfl ?_|refine as_go rfl ?_|refine rd_go rfl ?_|refine rg_end rfl ?_|refine flat_ownX ?_|refine EqLX.mk ?_|((with_reducible apply br_bq hQz)<;>(try intro hsp hQz))|exact hQz.out))<;>(try (conv=>whnf))))):p:=h ⟨hq⟩
theorem wx_Jhn {p q:Prop} (hq:q) (h:HidP q→p:=by (intro hQz;((repeat' ((try (conv=>whnf));first|(with_reducible first|refine run_cons ?_|refine runq_cons ?_|refine code_seq ?_|refine code_reg ?_|refine code_cond ?_|refine run_nil ?_|refine runq_nil ?_|refine rund_op rfl ?_|refine rund_nil ?_|refine code_block ?_|refine code_skip ?_|refine code_exit ?_|refine code_ret ?_|refine code_range ?_|refine rund_fast (by decide +kernel) ?_|refine rund_slow (by decide +kernel) ?_|refine br_tt ?_|refine br_ff ?_|refine br_n ?_|refine br_and ?_|refine br_or ?_|refine br_t (by assumption) ?_|refine br_f (by assumption) ?_|refine eq_i64 (by omega) ?_|refine el_tn ?_)|((with_reducible refine br_dt ?_ ?_);focus omega)|((with_reducible refine br_df ?_ ?_);focus omega)|((with_reducible apply br_dq hQz)<;>(try intro hsp hQz))|((with_reducible refine ck_x ?_ ?_);focus (first|omega|rfl|assumption|decide|(simp only [List.length_map,List.length_cons,List.length_nil];omega)))|(with_reducible first|refine eq_tn ?_|refine eq_tn1 ?_|refine eq_tn2 ?_|refine eq_m1 ?_|refine eq_m2 ?_|refine eq_zm ?_|refine eq_z ?_|refine len_map ?_|refine len_sl ?_|refine len_nils ?_|refine len_own' ?_|refine len_isl ?_|refine eq_u8 (by omega) ?_|refine eq_u16 (by omega) ?_)|(with_reducible first|refine eq_rfl ?_|refine ChkX.mk (by kernel_rfl) ?_|refine code_d (by decide +kernel) ?_|refine end_go rfl ?_)|refine apps_own (f:=int1) (l2:=[((k:Nat):Int)]) int1_len (src_of rfl (by first|rfl|(simp;done)|(simp [*];done))) (fun hz=>by first|(simp [lk,lk_own,lk_ownS hz,lk_ownE hz];done)|rfl) (fun hz=>by first|(simp [lk,lk_own,lk_ownO,lk_tN hz,lk_ownN hz];done)|rfl) (by first|rfl|(simp [flat,int1];done)|(simp [flat,int1, *];done)) (by decide) ⟨by omega,by omega⟩ rfl ?_|((with_reducible apply appx_q hQz);intro hQa hQb;refine appx_own (f:=int1) (l2:=[((k:Nat):Int)]) int1_len (src_of rfl (by first|rfl|(simp;done)|(simp [*];done))) (fun hz=>by first|(simp [lk,lk_own,lk_ownS hz,lk_ownE hz];done)|rfl) (by first|rfl|(simp [flat,int1];done)|(simp [flat,int1, *];done)) (by decide) ⟨by omega,by omega⟩ ?_ ?_<;>intro hzz<;>first|(have hQz:=HidP.mk (hQa.out hzz))|(have hQz:=HidP.mk (hQb.out hzz)))|refine filt_own rfl ?_|refine cx_tab f1 rfl rfl rfl rfl rfl (by decide) rfl ?_|refine cx_tab f2 rfl rfl rfl rfl rfl (by decide) rfl ?_|refine cx_b1 (o:=0) y1 rfl rfl rfl rfl rfl rfl rfl rfl (by decide) rfl ?_|refine dcx_b1 (o:=0) y1 rfl rfl rfl rfl rfl rfl rfl rfl rfl rfl ?_|refine cx_b1 (o:=0) y2 rfl rfl rfl rfl rfl rfl rfl rfl (by decide) rfl ?_|refine dcx_b1 (o:=0) y2 rfl rfl rfl rfl rfl rfl rfl rfl rfl rfl ?_|refine eqlx_of hq ?_|refine len_map ?_|refine len_isl ?_|refine el_of rfl rfl ?_|refine del_own ?_|refine del_own' rfl ?_|refine as_go rfl ?_|refine rd_go rfl ?_|refine rg_end rfl ?_|refine flat_ownX ?_|refine EqLX.mk ?_|((with_reducible apply br_bq hQz)<;>(try intro hsp hQz))|exact hQz.out))<;>(try (conv=>whnf))))):p:=h ⟨hq⟩
theorem dcx_b1 {f:Nat} {avs:List AV} {q q':Bk} {t t':TS} {o i a b c d e g:Nat} {h:Hp} {r:AV} {K:AV→Up→List Nat→Prop} (hc:LocB f 1 avs q t r q' t')
  (g1:lk h.l i=some (.cells [.ptr a 0,.ptr g 0,.int .i64 (q.a:Nat),.int .i64 (q.n:Nat)])) (g0:lk h.l o=some (.cells [.ptr i 0])) (h0:lk h.l a=some (.cells (tabC b e t.C))) (h1:lk h.l b=some (.cells [.sl c 0 t.n t.n 7,.sl d 0 t.m t.m 3,.int .i64 (t.S.fr:Nat)])) (h2:lk h.l c=some (.cells (cellsB t.n t.V t.W t.V3 t.V4 t.S.L t.S.N t.S.P))) (h3:lk h.l d=some (.cells (endsB t.m t.S.A t.S.B t.S.C))) (h4:lk h.l e=some (.maps (t.E.map keyE))) (h5:lk h.l g=some (.cells q.s.a))
  (hd:nodB [o,i,a,b,c,d,e,g]=true) (hnx':[o,i,a,b,c,d,e,g].contains h.next=false)
  (hk:K r [(o,some (.cells [.ptr i 0])),(i,some (.cells [.ptr a 0,.ptr g 0,.int .i64 (q'.a:Nat),.int .i64 (q'.n:Nat)])),(a,some (.cells (tabC b e t'.C))),(b,some (.cells [.sl c 0 t'.n t'.n 7,.sl d 0 t'.m t'.m 3,.int .i64 (t'.S.fr:Nat)])),(c,some (.cells (cellsB t'.n t'.V t'.W t'.V3 t'.V4 t'.S.L t'.S.N t'.S.P))),(d,some (.cells (endsB t'.m t'.S.A t'.S.B t'.S.C))),(e,some (.maps (t'.E.map keyE))),(g,some (.cells q'.s.a))] [o,i,a,b,c,d,e,g]):DCallX Tryz.prog G0 f (.ptr i 0::avs) h K:=by
 have hnx:h.next ∉ [o,i,a,b,c,d,e,g]:=fun hm=>by rw [List.contains_eq_mem,decide_eq_false_iff_not] at hnx';exact hnx' hm
 have e0:enter [o,i,a,b,c,d,e,g] o 0:=rfl
 have e1:enter [o,i,a,b,c,d,e,g] i 1:=rfl
 have e2:enter [o,i,a,b,c,d,e,g] a 2:=rfl
 have e3:enter [o,i,a,b,c,d,e,g] b 3:=rfl
 have e4:enter [o,i,a,b,c,d,e,g] c 4:=rfl
 have e5:enter [o,i,a,b,c,d,e,g] d 5:=rfl
 have e6:enter [o,i,a,b,c,d,e,g] e 6:=rfl
 have e7:enter [o,i,a,b,c,d,e,g] g 7:=rfl
 have k0:enterB [o,i,a,b,c,d,e,g] 0 o:=rfl
 have k1:enterB [o,i,a,b,c,d,e,g] 1 i:=rfl
 have k2:enterB [o,i,a,b,c,d,e,g] 2 a:=rfl
 have k3:enterB [o,i,a,b,c,d,e,g] 3 b:=rfl
 have k4:enterB [o,i,a,b,c,d,e,g] 4 c:=rfl
 have k5:enterB [o,i,a,b,c,d,e,g] 5 d:=rfl
 have k6:enterB [o,i,a,b,c,d,e,g] 6 e:=rfl
 have k7:enterB [o,i,a,b,c,d,e,g] 7 g:=rfl
 refine dcx_loc (l1:=bkN q' t' o i a b c d e g) [o,i,a,b,c,d,e,g] hc.out plainG hd
  (.cons e0 g0 ⟨rn_ptr e1,trivial⟩ (.cons e1 g1 ⟨rn_ptr e2,rn_ptr e7,rn_plain plain_int,rn_plain plain_int,trivial⟩ (.cons e2 h0 (rn_tabC e3 e6) (.cons e3 h1 ⟨rn_sl e4,rn_sl e5,rn_plain plain_int,trivial⟩ (.cons e4 h2 rnl_cells (.cons e5 h3 rnl_ends (.maps e6 h4 key_plain (.cons e7 h5 (rnl_plain a_plain) .nil))))))))
  hnx ?_ ?_ ⟨rn_ptr e1,rnl_plain hc.pa⟩ (rn_plain hc.pr)
  (.cons k0 ⟨rn_ptr k1,trivial⟩ (.cons k1 ⟨rn_ptr k2,rn_ptr k7,rn_plain plain_int,rn_plain plain_int,trivial⟩ (.cons k2 (rn_tabC k3 k6) (.cons k3 ⟨rn_sl k4,rn_sl k5,rn_plain plain_int,trivial⟩ (.cons k4 rnl_cells (.cons k5 rnl_ends (.maps k6 key_plain (.cons k7 (rnl_plain a_plain) .nil)))))))) hk
 ·intro x hx
  simp only [bkN,rdN,lk]
  repeat' split
  all_goals first|exact ⟨_,rfl⟩|(exfalso;simp only [List.mem_cons,List.not_mem_nil,or_false] at hx;omega)
 ·intro j x hx
  have : j < 8:=(List.getElem?_eq_some_iff.1 hx).1
  simp only [bkN,rdN,lk]
  repeat' split
  all_goals first|exact ⟨_,rfl⟩|(exfalso;omega)
section
variable {q:Bk} {t:TS}
theorem plain_di {l:List Int} {e:Int}:Plain (.tup [.isl (l.map int1),.int .i64 e]):=plain_tup fun x hx=>by
 simp only [List.mem_cons,List.not_mem_nil,or_false] at hx
 rcases hx with rfl|rfl<;>first|exact plain_int|exact plain_is
theorem fnd_cases (L:List Vw) (a k:Nat):fndL L a k=none∨∃ v,fndL L a k=some v:=by cases fndL L a k;exact .inl rfl;exact .inr ⟨_,rfl⟩
set_option maxHeartbeats 3200000 in
theorem b_Differ (hg:GoodB q) (h:TOk q.L t) {x y:Nat} (hx:x < 64) (hy:y < 64):LocB 33 0 [.int .i64 (x:Nat),.int .i64 (y:Nat)] q t (.tup [.isl ((q.difN x y 1024).map int1),.int .i64 0]) q t:=by
 have hi:=b_is (q:=q) (t:=t)
 have hs1:=k_space (x:Nat)
 have hs2:=k_space (y:Nat)
 rw [decide_eq_true (inR64 hx)] at hs1
 rw [decide_eq_true (inR64 hy)] at hs2
 refine LocB.mk (loc_x hmix b33 rfl ?_) plain_i2 plain_di
 unfold c33
 unfold bkN rdN
 (refine wx_Jh ?_;repeat' (first|with_reducible refine And.intro ?_ ?_|intro hsp))
 (refine loop_x [0,1,2,8] (fun (k:Nat)=>[(9,ownV 8 1 (q.difN x y k).length),(30,.int .i64 (k:Nat))]) (fun (k:Nat)=>⟨bkN q t 0 1 2 3 4 5 6 7++ownH 8 int1 (q.difN x y k),9⟩) (fun (k:Nat)=>k≤1024) (fun (k:Nat)=>1024 - k) (0) [] rfl (fun _=>by first|exact Nat.zero_le _|(dsimp only;omega)) ?_ (by ((try (conv=>whnf));(rw [dif_0]);exact wkx_Jh)) ?_)
 ·exact Nat.zero_le _
 intro k hk
 have hln:=dif_le (b:=q) (x:=x) (y:=y) (k:=k)
 by_cases hkl:k < 1024
 ·have htk:=dif_s (b:=q) (x:=x) (y:=y) (k:=k)
  have hin1:inR 64 (x:Nat)∧inR 1024 (k:Nat):=⟨inR64 hx,inR1k hkl⟩
  have hin2:inR 64 (y:Nat)∧inR 1024 (k:Nat):=⟨inR64 hy,inR1k hkl⟩
  unfold Bk.dif at htk
  unfold bkN rdN
  rcases fnd_cases q.L x k with h1 | ⟨u,h1⟩<;>rcases fnd_cases q.L y k with h2 | ⟨v,h2⟩
  ·have f1:=u_Find_none h hin1 h1
   have f2:=u_Find_none h hin2 h2
   rw [h1,h2] at htk
   dsimp only at htk
   rw [if_neg (by decide)] at htk
   generalize q.difN x y k=O at *
   (refine wx_Jh ?_;repeat' (first|with_reducible refine And.intro ?_ ?_|intro hsp))
   all_goals exact next_x (k+1) [] (by (try dsimp only);omega) (by first|omega|(dsimp only;omega)) rfl (by ((try dsimp only);rw [htk]);exact wkx_Jh)
  ·have f1:=u_Find_none h hin1 h1
   have f2:=u_Find h hin2 h2
   rw [h1,h2] at htk
   dsimp only at htk
   rw [if_pos rfl] at htk
   generalize q.difN x y k=O at *
   (refine wx_Jh ?_;repeat' (first|with_reducible refine And.intro ?_ ?_|intro hsp))
   all_goals exact next_x (k+1) [(8,36)] (by (try dsimp only);omega) (by first|omega|(dsimp only;omega)) rfl (by ((try dsimp only);rw [htk]);exact wkx_Jh)
  ·have f1:=u_Find h hin1 h1
   have f2:=u_Find_none h hin2 h2
   rw [h1,h2] at htk
   dsimp only at htk
   rw [if_pos rfl] at htk
   generalize q.difN x y k=O at *
   (refine wx_Jh ?_;repeat' (first|with_reducible refine And.intro ?_ ?_|intro hsp))
   all_goals exact next_x (k+1) [(8,36)] (by (try dsimp only);omega) (by first|omega|(dsimp only;omega)) rfl (by ((try dsimp only);rw [htk]);exact wkx_Jh)
  ·have f1:=u_Find h hin1 h1
   have f2:=u_Find h hin2 h2
   have g1:=hg.view (fnd_some h1).1
   have g2:=hg.view (fnd_some h2).1
   have y1:=b_bytes (q:=q) (t:=t) (f:=u.2.2.1) (by have:=hg.rng.2;omega) g1.2.2
   have y2:=b_bytes (q:=q) (t:=t) (f:=v.2.2.1) (by have:=hg.rng.2;omega) g2.2.2
   rw [h1,h2] at htk
   dsimp only at htk
   have hq:=eqL_bc (f:=q.s.B u.2.2.1) (g:=q.s.B v.2.2.1)
   have hqe:u.2.2.1=v.2.2.1→eqB (q.s.B u.2.2.1) (q.s.B v.2.2.1):=fun e=>by rw [e];exact fun _ _=>rfl
   by_cases hE:eqB (q.s.B u.2.2.1) (q.s.B v.2.2.1)
   ·rw [decide_eq_true hE] at hq
    simp only [decide_eq_true hE,Bool.not_true,Bool.false_eq_true,if_false] at htk
    generalize q.difN x y k=O at *
    generalize bcA (q.s.B u.2.2.1)=z1 at *
    generalize bcA (q.s.B v.2.2.1)=z2 at *
    (refine wx_Jhn ?_;repeat' (first|with_reducible refine And.intro ?_ ?_|intro hsp))
    all_goals exact next_x (k+1) [] (by (try dsimp only);omega) (by first|omega|(dsimp only;omega)) rfl (by ((try dsimp only);rw [htk]);exact wkx_Jh)
   ·rw [decide_eq_false hE] at hq
    simp only [decide_eq_false hE,Bool.not_false,if_true] at htk
    have hne:u.2.2.1 ≠ v.2.2.1:=fun e=>hE (hqe e)
    generalize q.difN x y k=O at *
    generalize bcA (q.s.B u.2.2.1)=z1 at *
    generalize bcA (q.s.B v.2.2.1)=z2 at *
    (refine wx_Jhn ?_;repeat' (first|with_reducible refine And.intro ?_ ?_|intro hsp))
    all_goals exact next_x (k+1) [(8,36)] (by (try dsimp only);omega) (by first|omega|(dsimp only;omega)) rfl (by ((try dsimp only);rw [htk]);exact wkx_Jh)
 ·obtain rfl:k=1024:=by omega
  unfold bkN rdN
  (refine wx_Jh ?_;repeat' (first|with_reducible refine And.intro ?_ ?_|intro hsp))
  exact end_BK (fun hs=>wk_tup (wkl_cons (wk_frzI (fun hz=>by simp [lk,lk_ownE hz]) (bk_not (by decide)) hs) (wkl_cons (wk_int rfl) wkl_nil))) rfl rfl rfl rfl rfl rfl rfl rfl
end
end Go.Proofs.YtphggldkligldaaGreat.Sh
