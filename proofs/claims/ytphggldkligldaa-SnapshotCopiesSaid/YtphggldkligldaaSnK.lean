/-
 far,alone.
 The example.
-/
import Derived.Test.YtphggldkligldaaSnJ
set_option linter.unusedSimpArgs false
set_option linter.unusedVariables false
namespace Go.Pol
open Go.Am
def Bk.al (q:Bk) (x:Ax):Int × Bk:=q.call (x.w.toNat % 14) x.a x.b x.t x.v x.l
def Py.ok (p:Py):Prop:=p.X.length≤40∧p.l.length≤60∧(p.n≤100∨1024 < p.n)
instance (p:Py):Decidable p.ok:=by unfold Py.ok;infer_instance
end Go.Pol
namespace Go.Proofs.Ytphggldkligldaa.Sh
open Go Go.Am Go.Pol
theorem plx_Jj {p:Prop} (h:p:=by ((first|assumption|exact plain_int|exact plain_bool|exact plain_undef|exact plain_nils|exact plain_nilp|exact plain_nilf|exact plain_str|with_reducible apply plain_int|with_reducible apply plain_bool|with_reducible apply plain_vwC|with_reducible apply plain_vwE|with_reducible apply plain_vs|with_reducible apply plain_stA|with_reducible apply plain_ns|with_reducible apply plain_bc|with_reducible apply plain_none|with_reducible apply plain_is|with_reducible apply plain_pl|with_reducible apply plain_rls|with_reducible apply plain_ac _|with_reducible apply plain_py _|with_reducible apply plain_acs|fail);first|done|fail)):p:=h
theorem prx_Jj {p:Prop} (h:p:=by (((repeat' (first|exact plain_all0|refine plain_all2 ?_ ?_|exact plain_int|first|assumption|exact plain_int|exact plain_bool|exact plain_undef|exact plain_nils|exact plain_nilp|exact plain_nilf|exact plain_str|with_reducible apply plain_int|with_reducible apply plain_bool|with_reducible apply plain_vwC|with_reducible apply plain_vwE|with_reducible apply plain_vs|with_reducible apply plain_stA|with_reducible apply plain_ns|with_reducible apply plain_bc|with_reducible apply plain_none|with_reducible apply plain_is|with_reducible apply plain_pl|with_reducible apply plain_rls|with_reducible apply plain_ac _|with_reducible apply plain_py _|with_reducible apply plain_acs)));first|done|fail)):p:=h
theorem ppx_Jj {p:Prop} (h:p:=by ((first|with_reducible assumption|with_reducible apply cells_plain|with_reducible apply ends_plain|with_reducible apply cnt_plain|with_reducible apply memI_plain _ _|with_reducible apply vw_plain|with_reducible apply nat_plain|with_reducible apply a_plain|with_reducible apply b_plain|with_reducible apply rdK_plain|with_reducible apply bc_plain|with_reducible apply plain_flat int1_plain|with_reducible apply py_plain _|with_reducible apply ac_plain _|with_reducible apply plain_map (fun _=>plain_int)|with_reducible apply plain_map (fun _=>plain_bool)|exact prx_Jj|fail);first|done|fail)):p:=h
theorem wvx_Jj {p:Prop} (h:p:=by ((first|exact wk_undef|exact wk_int (by first|rfl|omega|(dsimp only;omega))|exact wk_bool rfl|exact wk_ptr rfl (by first|decide|simp|omega)|exact wk_map rfl (by first|decide|simp|omega)|exact wk_sl rfl (by first|decide|simp|omega) (by first|rfl|omega|simp) (by first|omega|simp) (by first|omega|simp)|exact wk_own rfl (by first|decide|simp|omega)|exact wk_nil0 (by first|rfl|simp)|exact wk_slown rfl (by first|decide|omega|(simp;done)) (by first|omega|(simp;done)) (by first|rfl|omega|(simp;done)|(simp;omega))|exact wk_plain hs plx_Jj|(with_reducible refine wk_fn ?_ ?_<;>repeat' (first|with_reducible exact wkl_nil|with_reducible refine wkl_cons ?_ ?_|exact wk_ptr rfl (by first|decide|simp|omega)))|(with_reducible refine wk_agg ?_;repeat' (first|with_reducible exact wkl_nil|with_reducible refine wkl_cons ?_ ?_|exact wk_int (by first|rfl|omega|(dsimp only;omega))|exact wk_bool rfl))|exact wk_yld rfl (by first|decide|simp|omega)|(with_reducible refine wk_tup ?_;repeat' (first|with_reducible exact wkl_nil|with_reducible refine wkl_cons ?_ ?_|exact wk_int (by first|rfl|omega|(dsimp only;omega))|exact wk_bool rfl|exact wk_ptr rfl (by first|decide|simp|omega)))|fail);first|done|fail)):p:=h
theorem wkx_Jj {p:Prop} (h:p:=by (refine weak_s (by exact oneOf_of rfl) (by exact subH_of rfl) (by intro hs;(repeat' ((try (conv=>whnf));first|with_reducible exact True.intro|with_reducible refine And.intro ?_ ?_|(with_reducible refine WkX.mk ?_;first|exact wvx_Jj|fail)))) (by intro hs;(try dsimp only);(repeat' (first|with_reducible exact wko_nil|refine wko_tab hs (by first|decide|omega|simp) rfl rfl (by first|decide|omega|simp) rfl (by first|decide|omega|simp) ?_|refine wko_maps hs (by first|decide|omega|simp) rfl rfl key_plain ?_|refine wko_plain hs (by first|decide|omega|simp) rfl (by first|rfl) (by (first|exact ppx_Jj|fail|((refine plain_app ?_ ?_)<;>(first|exact ppx_Jj|fail)))) ?_|refine wko_cells (by first|decide|omega|simp) rfl (by repeat' (first|with_reducible exact wkl_nil|with_reducible refine wkl_cons ?_ ?_|(first|exact wvx_Jj|fail))) ?_|refine wko_loop (by first|decide|omega|simp) rfl (by ((try subst hF);(try subst hF2);exact wkl_sd (wkf_sget (by (repeat' ((try (conv=>whnf));first|with_reducible exact True.intro|with_reducible refine And.intro ?_ ?_|(with_reducible refine WkX.mk ?_;first|exact wvx_Jj|fail))))))) ?_|exact wko_nil))))):p:=h
theorem wx_Jj {p q:Prop} (hq:q) (h:HidP q→p:=by (intro hQz;((repeat' ((try (conv=>whnf));first|(with_reducible first|refine run_cons ?_|refine runq_cons ?_|refine code_seq ?_|refine code_reg ?_|refine code_cond ?_|refine run_nil ?_|refine runq_nil ?_|refine rund_op rfl ?_|refine rund_nil ?_|refine code_block ?_|refine code_skip ?_|refine code_exit ?_|refine code_ret ?_|refine code_range ?_|refine rund_fast (by decide +kernel) ?_|refine rund_slow (by decide +kernel) ?_|refine br_tt ?_|refine br_ff ?_|refine br_n ?_|refine br_and ?_|refine br_or ?_|refine br_t (by assumption) ?_|refine br_f (by assumption) ?_|refine eq_i64 (by omega) ?_|refine el_tn ?_)|((with_reducible refine br_dt ?_ ?_);focus omega)|((with_reducible refine br_df ?_ ?_);focus omega)|((with_reducible apply br_dq hQz)<;>(try intro hsp hQz))|((with_reducible refine ck_x ?_ ?_);focus (first|omega|rfl|assumption|decide|(simp only [List.length_map,List.length_cons,List.length_nil];omega)))|(with_reducible first|refine eq_tn ?_|refine eq_tn1 ?_|refine eq_tn2 ?_|refine eq_m1 ?_|refine eq_m2 ?_|refine eq_zm ?_|refine eq_z ?_|refine len_map ?_|refine len_sl ?_|refine len_nils ?_|refine len_own' ?_|refine len_isl ?_|refine eq_u8 (by omega) ?_|refine eq_u16 (by omega) ?_)|(with_reducible first|refine eq_rfl ?_|refine ChkX.mk (by kernel_rfl) ?_|refine code_q rfl ?_|refine code_d (by decide +kernel) ?_|refine end_go rfl ?_)|refine el_mapE (d:=dA) acE_len (by first|assumption|omega) (by with_reducible assumption) ?_|refine cx_b0 h2 rfl rfl rfl rfl rfl rfl rfl rfl (by decide) rfl ?_|refine eq_of (by with_reducible assumption) ?_|refine cx_locS h2 rfl (by decide) ?_|refine len_map ?_|refine len_isl ?_|refine el_of rfl rfl ?_|refine del_own ?_|refine del_own' rfl ?_|refine as_go rfl ?_|refine rd_go rfl ?_|refine rg_end rfl ?_|refine flat_ownX ?_|refine EqLX.mk ?_|((with_reducible apply br_bq hQz)<;>(try intro hsp hQz))|exact hQz.out))<;>(try (conv=>whnf))))):p:=h ⟨hq⟩
theorem k_far_yes {p:Py} (hl:p.X.length≤maxLen) (h:∃ x ∈ p.X,60 < x.l.length):PureS 5 [.agg (pyE p)] (.bool true):=by
 have hl:p.X.length≤9223372036854775807:=hl
 refine PureS.mk (pure_x hmix b5 plainG ⟨plain_py p,trivial⟩ plain_bool rfl ?_)
 unfold c5
 have hp:=py_plain p
 unfold pyE at hp ⊢
 (refine wx_Jj ?_;repeat' (first|with_reducible refine And.intro ?_ ?_|intro hsp))
 (refine loop_x [1] (fun (i:Nat)=>[(3,.int .i64 (i:Nat))]) (fun (i:Nat)=>⟨[(0,.cells [.int .i64 p.a,.int .i64 p.n,.isl (p.l.map rlA),.isl (p.X.map acE)])],1⟩) (fun (i:Nat)=>∃ j,i≤j∧j < p.X.length∧60 < (nth dA p.X j).l.length) (fun (i:Nat)=>p.X.length - i) (0) [] rfl (fun _=>by first|exact Nat.zero_le _|(dsimp only;omega)) ?_ (by ((try (conv=>whnf));exact wkx_Jj)) ?_)
 ·obtain ⟨x,hx,h6⟩:=h
  obtain ⟨j,hj,rfl⟩:=List.getElem_of_mem hx
  exact ⟨j,Nat.zero_le _,hj,by rw [nth_get hj];exact h6⟩
 intro i hi
 obtain ⟨j,h1,h2,h3⟩:=hi
 have hil:i < p.X.length:=by omega
 have hne:¬ 60 < (nth dA p.X i).l.length→∃ j,i+1≤j∧j < p.X.length∧60 < (nth dA p.X j).l.length:=fun hn=>⟨j,by
  by_cases e:i=j
  ·exact absurd (e▸h3) hn
  ·omega,h2,h3⟩
 clear h1 h2 h3
 by_cases hn:60 < (nth dA p.X i).l.length
 ·clear hne
  generalize hx:nth dA p.X i=x at *
  (refine wx_Jj ?_;repeat' (first|with_reducible refine And.intro ?_ ?_|intro hsp))
  all_goals first|exact end_bool rfl|(exfalso;omega)
 ·have hne2:=hne hn
  clear hne
  generalize hx:nth dA p.X i=x at *
  (refine wx_Jj ?_;repeat' (first|with_reducible refine And.intro ?_ ?_|intro hsp))
  all_goals first|(exfalso;omega)|exact next_x (i+1) [] hne2 (by first|omega|(dsimp only;omega)) rfl (by exact wkx_Jj)
theorem k_far_no {p:Py} (hl:p.X.length≤maxLen) (h:¬ ∃ x ∈ p.X,60 < x.l.length):PureS 5 [.agg (pyE p)] (.bool (decide (¬ p.ok))):=by
 have hl:p.X.length≤9223372036854775807:=hl
 refine PureS.mk (pure_x hmix b5 plainG ⟨plain_py p,trivial⟩ plain_bool rfl ?_)
 unfold c5
 unfold pyE
 (refine wx_Jj ?_;repeat' (first|with_reducible refine And.intro ?_ ?_|intro hsp))
 (refine loop_x [1] (fun (i:Nat)=>[(3,.int .i64 (i:Nat))]) (fun (i:Nat)=>⟨[(0,.cells [.int .i64 p.a,.int .i64 p.n,.isl (p.l.map rlA),.isl (p.X.map acE)])],1⟩) (fun (i:Nat)=>i≤p.X.length) (fun (i:Nat)=>p.X.length - i) (0) [] rfl (fun _=>by first|exact Nat.zero_le _|(dsimp only;omega)) ?_ (by ((try (conv=>whnf));exact wkx_Jj)) ?_)
 ·exact Nat.zero_le _
 intro i hi
 by_cases hil:i < p.X.length
 ·have hn:¬ 60 < (nth dA p.X i).l.length:=fun h2=>h ⟨_,nth_mem (d:=dA) hil,h2⟩
  generalize hx:nth dA p.X i=x at *
  (refine wx_Jj ?_;repeat' (first|with_reducible refine And.intro ?_ ?_|intro hsp))
  all_goals first|(exfalso;omega)|exact next_x (i+1) [] (by (try dsimp only);omega) (by first|omega|(dsimp only;omega)) rfl (by exact wkx_Jj)
 ·clear h
  (refine wx_Jj ?_;repeat' (first|with_reducible refine And.intro ?_ ?_|intro hsp))
  all_goals exact end_bool (by first|exact (decide_eq_true (show ¬ p.ok from fun ⟨h1,h2,h3⟩=>by omega)).symm|exact (decide_eq_false (show ¬ ¬ p.ok from fun hn=>hn ⟨by omega,by omega,by omega⟩)).symm|exact decide_eq_decide.2 ⟨fun h4 ⟨h1,h2,h3⟩=>(by omega),fun hn=>Classical.byContradiction fun h4=>hn ⟨by omega,by omega,by omega⟩⟩)
theorem k_far (p:Py) (hl:p.X.length≤maxLen):∃ b,PureS 5 [.agg (pyE p)] (.bool b)∧(b=false→p.ok):=by
 by_cases h:∃ x ∈ p.X,60 < x.l.length
 ·exact ⟨true,k_far_yes hl h,fun e=>by cases e⟩
 ·refine ⟨_,k_far_no hl h,fun e=>?_⟩
  have:=of_decide_eq_false e
  exact Classical.not_not.1 this
structure LocA (x:Ax) (q:Bk) (t:TS) (e:Int) (q':Bk) (t':TS):Prop where
 out:LocC Try.prog G0 10 [.ptr 7 0,.ptr 0 0,.agg (acE x)] (bkN q t 0 1 2 3 4 5 6 7) 8 fun y h1=>y = .int .i64 e∧h1=⟨bkN q' t' 0 1 2 3 4 5 6 7,8⟩
theorem cx_A {x:Ax} {q q':Bk} {t t':TS} {v:Int} {o i a b c d e g nx:Nat} {l:List (Nat × AObj)} {K:AV→Hp→Prop} (hc:LocA x q t v q' t')
  (g0:lk l o=some (.cells [.ptr i 0])) (g1:lk l i=some (.cells [.ptr a 0,.ptr g 0,.int .i64 (q.a:Nat),.int .i64 (q.n:Nat)])) (h0:lk l a=some (.cells (tabC b e t.C))) (h1:lk l b=some (.cells [.sl c 0 t.n t.n 7,.sl d 0 t.m t.m 3,.int .i64 (t.S.fr:Nat)])) (h2:lk l c=some (.cells (cellsB t.n t.V t.W t.V3 t.V4 t.S.L t.S.N t.S.P))) (h3:lk l d=some (.cells (endsB t.m t.S.A t.S.B t.S.C))) (h4:lk l e=some (.maps (t.E.map keyE))) (h5:lk l g=some (.cells q.s.a))
  (hlt:o < nx∧i < nx∧a < nx∧b < nx∧c < nx∧d < nx∧e < nx∧g < nx) (hd:nodB [o,i,a,b,c,d,e,g]=true)
  (hk:filtK [o,i,a,b,c,d,e,g] l fun l2=>K (.int .i64 v) ⟨([(o,.cells [.ptr i 0]),(i,.cells [.ptr a 0,.ptr g 0,.int .i64 (q'.a:Nat),.int .i64 (q'.n:Nat)]),(a,.cells (tabC b e t'.C)),(b,.cells [.sl c 0 t'.n t'.n 7,.sl d 0 t'.m t'.m 3,.int .i64 (t'.S.fr:Nat)]),(c,.cells (cellsB t'.n t'.V t'.W t'.V3 t'.V4 t'.S.L t'.S.N t'.S.P)),(d,.cells (endsB t'.m t'.S.A t'.S.B t'.S.C)),(e,.maps (t'.E.map keyE)),(g,.cells q'.s.a)]:List (Nat × AObj))++l2,nx⟩):CallX Try.prog G0 (.fn 10 [] []) [.ptr g 0,.ptr o 0,.agg (acE x)] ⟨l,nx⟩ K:=by
 have e0:enter [o,i,a,b,c,d,e,g] o 0:=rfl
 have e1:enter [o,i,a,b,c,d,e,g] i 1:=rfl
 have e2:enter [o,i,a,b,c,d,e,g] a 2:=rfl
 have e3:enter [o,i,a,b,c,d,e,g] b 3:=rfl
 have e4:enter [o,i,a,b,c,d,e,g] c 4:=rfl
 have e5:enter [o,i,a,b,c,d,e,g] d 5:=rfl
 have e6:enter [o,i,a,b,c,d,e,g] e 6:=rfl
 have e7:enter [o,i,a,b,c,d,e,g] g 7:=rfl
 have k0:back [o,i,a,b,c,d,e,g] nx 0 o:=rfl
 have k1:back [o,i,a,b,c,d,e,g] nx 1 i:=rfl
 have k2:back [o,i,a,b,c,d,e,g] nx 2 a:=rfl
 have k3:back [o,i,a,b,c,d,e,g] nx 3 b:=rfl
 have k4:back [o,i,a,b,c,d,e,g] nx 4 c:=rfl
 have k5:back [o,i,a,b,c,d,e,g] nx 5 d:=rfl
 have k6:back [o,i,a,b,c,d,e,g] nx 6 e:=rfl
 have k7:back [o,i,a,b,c,d,e,g] nx 7 g:=rfl
 refine cx_loc (l1:=bkN q' t' o i a b c d e g) [o,i,a,b,c,d,e,g] hc.out plainG hd
  (.cons e0 g0 ⟨rn_ptr e1,trivial⟩ (.cons e1 g1 ⟨rn_ptr e2,rn_ptr e7,rn_plain plain_int,rn_plain plain_int,trivial⟩ (.cons e2 h0 (rn_tabC e3 e6) (.cons e3 h1 ⟨rn_sl e4,rn_sl e5,rn_plain plain_int,trivial⟩ (.cons e4 h2 rnl_cells (.cons e5 h3 rnl_ends (.maps e6 h4 key_plain (.cons e7 h5 (rnl_plain a_plain) .nil))))))))
  ?_ (by intro x hx;simp only [List.mem_cons,List.not_mem_nil,or_false] at hx;omega) (rn_plain plain_int)
  (.cons k0 ⟨rn_ptr k1,trivial⟩ (.cons k1 ⟨rn_ptr k2,rn_ptr k7,rn_plain plain_int,rn_plain plain_int,trivial⟩ (.cons k2 (rn_tabC k3 k6) (.cons k3 ⟨rn_sl k4,rn_sl k5,rn_plain plain_int,trivial⟩ (.cons k4 rnl_cells (.cons k5 rnl_ends (.maps k6 key_plain (.cons k7 (rnl_plain a_plain) .nil)))))))) hk
 simp only [List.nil_append,List.append_nil]
 exact ⟨rn_ptr e7,rn_ptr e0,rn_plain (plain_ac x),trivial⟩
theorem end_A {top:Bool} {h:Hp} {N0:Nat} {e:Int} {q:Bk} {t:TS} (g0:lk h.l 0=some (.cells [.ptr 1 0])) (g1:lk h.l 1=some (.cells [.ptr 2 0,.ptr 7 0,.int .i64 (q.a:Nat),.int .i64 (q.n:Nat)])) (h0:lk h.l 2=some (.cells (tabC 3 6 t.C))) (h1:lk h.l 3=some (.cells [.sl 4 0 t.n t.n 7,.sl 5 0 t.m t.m 3,.int .i64 (t.S.fr:Nat)])) (h2:lk h.l 4=some (.cells (cellsB t.n t.V t.W t.V3 t.V4 t.S.L t.S.N t.S.P))) (h3:lk h.l 5=some (.cells (endsB t.m t.S.A t.S.B t.S.C))) (h4:lk h.l 6=some (.maps (t.E.map keyE))) (h5:lk h.l 7=some (.cells q.s.a)) (hN0:N0≤8:=by decide) :
  EndX top Try.prog N0 h (.int .i64 e) (fun r' h'=>r' = .int .i64 e∧h'=⟨bkN q t 0 1 2 3 4 5 6 7,8⟩):=end_bk rfl plain_int g0 g1 h0 h1 h2 h3 h4 h5 hN0
section
variable {q:Bk} {t:TS}
set_option maxHeartbeats 1600000 in
theorem l_alone (hg:GoodB q) (h:TOk q.L t) (x:Ax) (hw:0≤x.w):∃ t',TOk (q.al x).2.L t'∧LocA x q t (q.al x).1 (q.al x).2 t':=by
 have h0:x.w.tmod 14=x.w % 14:=Int.tmod_eq_emod_of_nonneg hw
 have hm:((x.w.toNat % 14:Nat):Int)=x.w.tmod 14:=by rw [h0];omega
 unfold Bk.al Bk.call
 generalize x.w.toNat % 14=w at *
 have hw14:0≤x.w.tmod 14∧x.w.tmod 14 < 14:=by rw [h0];omega
 by_cases c1:w < 2
 ·rw [if_pos c1]
  obtain ⟨t',h1,h2⟩:=b_Map hg h x.a x.b
  refine ⟨t',h1,⟨loc_x hmix b10 rfl ?_⟩⟩
  unfold c10
  unfold bkN rdN acE
  generalize q.map x.a x.b=r at *
  rcases (show x.w.tmod 14=0∨x.w.tmod 14=1 by omega) with hy|hy
  all_goals (refine wx_Jj ?_;repeat' (first|with_reducible refine And.intro ?_ ?_|intro hsp))
  all_goals first|exact end_A rfl rfl rfl rfl rfl rfl rfl rfl|(exfalso;omega)
 rw [if_neg c1]
 by_cases c2:w=2
 ·rw [if_pos c2]
  obtain ⟨t',h1,h2⟩:=b_Unmap hg h x.a x.b
  refine ⟨t',h1,⟨loc_x hmix b10 rfl ?_⟩⟩
  unfold c10
  unfold bkN rdN acE
  have hy:x.w.tmod 14=2:=by omega
  generalize q.unmap x.a x.b=r at *
  (refine wx_Jj ?_;repeat' (first|with_reducible refine And.intro ?_ ?_|intro hsp))
  all_goals first|exact end_A rfl rfl rfl rfl rfl rfl rfl rfl|(exfalso;omega)
 rw [if_neg c2]
 by_cases c3:w=3
 ·rw [if_pos c3]
  obtain ⟨t',h1,h2⟩:=b_Take h x.a x.b
  refine ⟨t',h1,⟨loc_x hmix b10 rfl ?_⟩⟩
  unfold c10
  unfold bkN rdN acE
  have hy:x.w.tmod 14=3:=by omega
  generalize q.take x.a x.b=r at *
  (refine wx_Jj ?_;repeat' (first|with_reducible refine And.intro ?_ ?_|intro hsp))
  all_goals first|exact end_A rfl rfl rfl rfl rfl rfl rfl rfl|(exfalso;omega)
 rw [if_neg c3]
 by_cases c4:w=4
 ·rw [if_pos c4]
  obtain ⟨t',h1,h2⟩:=b_Drop hg h x.a
  refine ⟨t',h1,⟨loc_x hmix b10 rfl ?_⟩⟩
  unfold c10
  unfold bkN rdN acE
  have hy:x.w.tmod 14=4:=by omega
  generalize q.drop x.a=r at *
  (refine wx_Jj ?_;repeat' (first|with_reducible refine And.intro ?_ ?_|intro hsp))
  all_goals first|exact end_A rfl rfl rfl rfl rfl rfl rfl rfl|(exfalso;omega)
 rw [if_neg c4]
 by_cases c5:w=5
 ·rw [if_pos c5]
  obtain ⟨t',h1,h2⟩:=b_Revert hg h x.a x.b
  refine ⟨t',h1,⟨loc_x hmix b10 rfl ?_⟩⟩
  unfold c10
  unfold bkN rdN acE
  have hy:x.w.tmod 14=5:=by omega
  generalize q.revert x.a x.b=r at *
  (refine wx_Jj ?_;repeat' (first|with_reducible refine And.intro ?_ ?_|intro hsp))
  all_goals first|exact end_A rfl rfl rfl rfl rfl rfl rfl rfl|(exfalso;omega)
 rw [if_neg c5]
 by_cases c6:w < 10
 ·rw [if_pos c6]
  obtain ⟨t',h1,h2⟩:=b_Write hg h x.a x.t x.v
  refine ⟨t',h1,⟨loc_x hmix b10 rfl ?_⟩⟩
  unfold c10
  unfold bkN rdN acE
  generalize q.write x.a x.t x.v=r at *
  rcases (show x.w.tmod 14=6∨x.w.tmod 14=7∨x.w.tmod 14=8∨x.w.tmod 14=9 by omega) with hy|hy|hy|hy
  all_goals (refine wx_Jj ?_;repeat' (first|with_reducible refine And.intro ?_ ?_|intro hsp))
  all_goals first|exact end_A rfl rfl rfl rfl rfl rfl rfl rfl|(exfalso;omega)
 rw [if_neg c6]
 by_cases c7:w=13
 ·rw [if_pos c7]
  have h2:=p_plan q.s x.l
  refine ⟨t,h,⟨loc_x hmix b10 rfl ?_⟩⟩
  unfold c10
  unfold bkN rdN acE
  have hy:x.w.tmod 14=13:=by omega
  generalize q.s.plan x.l=r at *
  (refine wx_Jj ?_;repeat' (first|with_reducible refine And.intro ?_ ?_|intro hsp))
  all_goals first|exact end_A (q:=⟨q.a,q.n,q.L,r.2⟩) rfl rfl rfl rfl rfl rfl rfl rfl|(exfalso;omega)
 ·rw [if_neg c7]
  refine ⟨t,h,⟨loc_x hmix b10 rfl ?_⟩⟩
  unfold c10
  unfold bkN rdN acE
  rcases (show x.w.tmod 14=10∨x.w.tmod 14=11∨x.w.tmod 14=12 by omega) with hy|hy|hy
  all_goals (refine wx_Jj ?_;repeat' (first|with_reducible refine And.intro ?_ ?_|intro hsp))
  all_goals first|exact end_A rfl rfl rfl rfl rfl rfl rfl rfl|(exfalso;omega)
end
end Go.Proofs.Ytphggldkligldaa.Sh
namespace Go.Pol
open Go.Am
theorem differ_N {b:Bk} {x y:Nat} (hx:x < 64) (hy:y < 64):b.differ (x:Nat) (y:Nat)=(b.difN x y 1024,0):=by
 unfold Bk.differ
 rw [if_neg (by rw [Classical.not_not];exact ⟨⟨by omega,by omega⟩,by omega,by omega⟩),Int.toNat_natCast,Int.toNat_natCast]
 rfl
end Go.Pol
namespace Go.Proofs.Ytphggldkligldaa.Sh
open Go Go.Am Go.Pol
theorem wx_Jk {p q:Prop} (hq:q) (h:HidP q→p:=by (intro hQz;((repeat' ((try (conv=>whnf));first|(with_reducible first|refine run_cons ?_|refine runq_cons ?_|refine code_seq ?_|refine code_reg ?_|refine code_cond ?_|refine run_nil ?_|refine runq_nil ?_|refine rund_op rfl ?_|refine rund_nil ?_|refine code_block ?_|refine code_skip ?_|refine code_exit ?_|refine code_ret ?_|refine code_range ?_|refine rund_fast (by decide +kernel) ?_|refine rund_slow (by decide +kernel) ?_|refine br_tt ?_|refine br_ff ?_|refine br_n ?_|refine br_and ?_|refine br_or ?_|refine br_t (by assumption) ?_|refine br_f (by assumption) ?_|refine eq_i64 (by omega) ?_|refine el_tn ?_)|((with_reducible refine br_dt ?_ ?_);focus omega)|((with_reducible refine br_df ?_ ?_);focus omega)|((with_reducible apply br_dq hQz)<;>(try intro hsp hQz))|((with_reducible refine ck_x ?_ ?_);focus (first|omega|rfl|assumption|decide|(simp only [List.length_map,List.length_cons,List.length_nil];omega)))|(with_reducible first|refine eq_tn ?_|refine eq_tn1 ?_|refine eq_tn2 ?_|refine eq_m1 ?_|refine eq_m2 ?_|refine eq_zm ?_|refine eq_z ?_|refine len_map ?_|refine len_sl ?_|refine len_nils ?_|refine len_own' ?_|refine len_isl ?_|refine eq_u8 (by omega) ?_|refine eq_u16 (by omega) ?_)|(with_reducible first|refine eq_rfl ?_|refine ChkX.mk (by kernel_rfl) ?_|refine code_q rfl ?_|refine code_d (by decide +kernel) ?_|refine end_go rfl ?_)|refine cx_locN hn ?_|refine cx_BN h0 rfl (by decide) ?_|refine cx_b0 y1 rfl rfl rfl rfl rfl rfl rfl rfl (by decide) rfl ?_|refine cx_b0 y2 rfl rfl rfl rfl rfl rfl rfl rfl (by decide) rfl ?_|refine cx_b0 y3 rfl rfl rfl rfl rfl rfl rfl rfl (by decide) rfl ?_|refine cx_b0 y4 rfl rfl rfl rfl rfl rfl rfl rfl (by decide) rfl ?_|refine cx_b0 r4 rfl rfl rfl rfl rfl rfl rfl rfl (by decide) rfl ?_|refine cx_b0 n4 rfl rfl rfl rfl rfl rfl rfl rfl (by decide) rfl ?_|refine cx_b0 d4 rfl rfl rfl rfl rfl rfl rfl rfl (by decide) rfl ?_|refine cx_b0 y5 rfl rfl rfl rfl rfl rfl rfl rfl (by decide) rfl ?_|refine cx_b0 y6 rfl rfl rfl rfl rfl rfl rfl rfl (by decide) rfl ?_|refine cx_b0 y7 rfl rfl rfl rfl rfl rfl rfl rfl (by decide) rfl ?_|refine cx_b0 y8 rfl rfl rfl rfl rfl rfl rfl rfl (by decide) rfl ?_|refine cx_b0 r8 rfl rfl rfl rfl rfl rfl rfl rfl (by decide) rfl ?_|refine len_map ?_|refine len_isl ?_|refine el_of rfl rfl ?_|refine del_own ?_|refine del_own' rfl ?_|refine as_go rfl ?_|refine rd_go rfl ?_|refine rg_end rfl ?_|refine flat_ownX ?_|refine EqLX.mk ?_|((with_reducible apply br_bq hQz)<;>(try intro hsp hQz))|exact hQz.out))<;>(try (conv=>whnf))))):p:=h ⟨hq⟩
set_option maxHeartbeats 3200000 in
theorem k_shown:PureS 6 [] (.bool true):=by
 have hn:=n_new
 have hc0:(chkP []).2=0:=by decide
 have h0:LocBN 15 [.int .i64 8,.int .i64 2] (Sy.new []) sh0 T0:=b_New (good_new hc0) (a:=8) (n:=2) (by decide) sh_0
 have g0:GoodB sh0:=(new_book (l:=[]) (a:=8) (n:=2) hc0 (by decide) sh_0 sh0 rfl).1
 obtain ⟨t1,k1,y1⟩:=b_Map g0 tok_0 0 3
 have g1:GoodB sh1:=good_map g0 0 3
 rw [sh_1,show (sh0.map 0 3).2=sh1 from rfl] at y1
 rw [show (sh0.map 0 3).2=sh1 from rfl] at k1
 obtain ⟨t2,k2,y2⟩:=b_Write g1 k1 0 192 7
 have g2:GoodB sh2:=good_write' g1 0 192 7
 rw [sh_2,show (sh1.write 0 192 7).2=sh2 from rfl] at y2
 rw [show (sh1.write 0 192 7).2=sh2 from rfl] at k2
 obtain ⟨t3,k3,y3⟩:=b_Take k2 0 1
 have g3:GoodB sh3:=good_take g2 0 1
 rw [sh_3.1,sh_3.2,show (sh2.take 0 1).2.2=sh3 from rfl] at y3
 rw [show (sh2.take 0 1).2.2=sh3 from rfl] at k3
 obtain ⟨t4,k4,y4⟩:=b_Write g3 k3 0 192 8
 have g4:GoodB sh4:=good_write' g3 0 192 8
 rw [sh_4,show (sh3.write 0 192 8).2=sh4 from rfl] at y4
 rw [show (sh3.write 0 192 8).2=sh4 from rfl] at k4
 have r4:=b_Read k4 1 192
 rw [sh_r4] at r4
 have n4:=b_Counts g4 k4
 rw [sh_c4.1,sh_c4.2.1,sh_c4.2.2] at n4
 have d4:=b_Differ g4 k4 (x:=0) (y:=1) (by decide) (by decide)
 have e4:=(differ_N (b:=sh4) (x:=0) (y:=1) (by decide) (by decide)).symm.trans sh_d4
 rw [(Prod.mk.inj e4).1] at d4
 clear e4
 obtain ⟨t5,k5,y5⟩:=b_Take k4 1 2
 have g5:GoodB sh5:=good_take g4 1 2
 rw [sh_5.1,sh_5.2,show (sh4.take 1 2).2.2=sh5 from rfl] at y5
 rw [show (sh4.take 1 2).2.2=sh5 from rfl] at k5
 obtain ⟨t6,k6,y6⟩:=b_Write g5 k5 2 192 9
 have g6:GoodB sh6:=good_write' g5 2 192 9
 rw [sh_6,show (sh5.write 2 192 9).2=sh6 from rfl] at y6
 rw [show (sh5.write 2 192 9).2=sh6 from rfl] at k6
 obtain ⟨t7,k7,y7⟩:=b_Drop g6 k6 0
 have g7:GoodB sh7:=good_drop g6 0
 rw [sh_7.1,sh_7.2,show (sh6.drop 0).2.2=sh7 from rfl] at y7
 rw [show (sh6.drop 0).2.2=sh7 from rfl] at k7
 obtain ⟨t8,k8,y8⟩:=b_Write g7 k7 2 192 9
 rw [sh_8,show (sh7.write 2 192 9).2=sh8 from rfl] at y8
 rw [show (sh7.write 2 192 9).2=sh8 from rfl] at k8
 have r8:=b_Read k8 1 192
 rw [sh_r8] at r8
 clear g0 g1 g2 g3 g4 g5 g6 g7 k1 k2 k3 k4 k5 k6 k7 k8 hc0
 generalize T0=t0 at *
 generalize Sy.new []=s0 at *
 generalize sh0=q0 at *
 generalize sh1=q1 at *
 generalize sh2=q2 at *
 generalize sh3=q3 at *
 generalize sh4=q4 at *
 generalize sh5=q5 at *
 generalize sh6=q6 at *
 generalize sh7=q7 at *
 generalize sh8=q8 at *
 refine PureS.mk (pure_x hmix b6 plainG trivial plain_bool rfl ?_)
 unfold c6
 (refine wx_Jk ?_;repeat' (first|with_reducible refine And.intro ?_ ?_|intro hsp))
 all_goals first|exact end_bool rfl|(exfalso;omega)|(exfalso;simp at hsp;done)|(exfalso;simp_all;done)
end Go.Proofs.Ytphggldkligldaa.Sh
