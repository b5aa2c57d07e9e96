/-
 Spaces that share nothing: their memory,begin,clear,pages.
 Spaces that share nothing: begin,pages,reads.
 A book and spaces that share nothing: reads.
-/
import Derived.Test.YtphggldkligldaaGreatSnK
set_option linter.unusedSimpArgs false
set_option linter.unusedVariables false
namespace Go.Pol
open Go.Am
theorem dec_good {s:Sy} (h:GoodS s) (k:Nat):GoodS (s.dec k):=good_chg h (by decide)
theorem clr_good {s:Sy} (h:GoodS s):∀ k,GoodS (s.clr k)
 | 0=>h
 | k+1=>dec_good (clr_good h k) k
end Go.Pol
namespace Go.Proofs.YtphggldkligldaaGreat.Sh
open Go Go.Am Go.Pol
theorem plx_Kf {p:Prop} (h:p:=by ((first|assumption|exact plain_int|exact plain_bool|exact plain_undef|exact plain_nils|exact plain_nilp|exact plain_nilf|exact plain_str|with_reducible apply plain_int|with_reducible apply plain_bool|with_reducible apply plain_none|with_reducible apply plain_pl|with_reducible apply plain_rls|fail);first|done|fail)):p:=h
theorem prx_Kf {p:Prop} (h:p:=by (((repeat' (first|exact plain_all0|refine plain_all2 ?_ ?_|exact plain_int|first|assumption|exact plain_int|exact plain_bool|exact plain_undef|exact plain_nils|exact plain_nilp|exact plain_nilf|exact plain_str|with_reducible apply plain_int|with_reducible apply plain_bool|with_reducible apply plain_none|with_reducible apply plain_pl|with_reducible apply plain_rls)));first|done|fail)):p:=h
theorem ppx_Kf {p:Prop} (h:p:=by ((first|with_reducible assumption|with_reducible apply cells_plain|with_reducible apply ends_plain|with_reducible apply cnt_plain|with_reducible apply memI_plain _ _|with_reducible apply vw_plain|with_reducible apply nat_plain|with_reducible apply a_plain|with_reducible apply b_plain|with_reducible apply plain_map (fun _=>plain_int)|with_reducible apply plain_map (fun _=>plain_bool)|exact prx_Kf|fail);first|done|fail)):p:=h
theorem wvx_Kf {p:Prop} (h:p:=by ((first|exact wk_undef|exact wk_int (by first|rfl|omega|(dsimp only;omega))|exact wk_bool rfl|exact wk_ptr rfl (by first|decide|simp|omega)|exact wk_map rfl (by first|decide|simp|omega)|exact wk_sl rfl (by first|decide|simp|omega) (by first|rfl|omega|simp) (by first|omega|simp) (by first|omega|simp)|exact wk_own rfl (by first|decide|simp|omega)|exact wk_nil0 (by first|rfl|simp)|exact wk_slown rfl (by first|decide|omega|(simp;done)) (by first|omega|(simp;done)) (by first|rfl|omega|(simp;done)|(simp;omega))|exact wk_plain hs plx_Kf|(with_reducible refine wk_fn ?_ ?_<;>repeat' (first|with_reducible exact wkl_nil|with_reducible refine wkl_cons ?_ ?_|exact wk_ptr rfl (by first|decide|simp|omega)))|(with_reducible refine wk_agg ?_;repeat' (first|with_reducible exact wkl_nil|with_reducible refine wkl_cons ?_ ?_|exact wk_int (by first|rfl|omega|(dsimp only;omega))|exact wk_bool rfl))|exact wk_yld rfl (by first|decide|simp|omega)|(with_reducible refine wk_tup ?_;repeat' (first|with_reducible exact wkl_nil|with_reducible refine wkl_cons ?_ ?_|exact wk_int (by first|rfl|omega|(dsimp only;omega))|exact wk_bool rfl|exact wk_ptr rfl (by first|decide|simp|omega)))|fail);first|done|fail)):p:=h
theorem wkx_Kf {p:Prop} (h:p:=by (refine weak_s (by exact oneOf_of rfl) (by exact subH_of rfl) (by intro hs;(repeat' ((try (conv=>whnf));first|with_reducible exact True.intro|with_reducible refine And.intro ?_ ?_|(with_reducible refine WkX.mk ?_;first|exact wvx_Kf|fail)))) (by intro hs;(try dsimp only);(repeat' (first|with_reducible exact wko_nil|refine wko_tab hs (by first|decide|omega|simp) rfl rfl (by first|decide|omega|simp) rfl (by first|decide|omega|simp) ?_|refine wko_maps hs (by first|decide|omega|simp) rfl rfl key_plain ?_|refine wko_plain hs (by first|decide|omega|simp) rfl (by first|rfl) (by (first|exact ppx_Kf|fail|((refine plain_app ?_ ?_)<;>(first|exact ppx_Kf|fail)))) ?_|refine wko_cells (by first|decide|omega|simp) rfl (by repeat' (first|with_reducible exact wkl_nil|with_reducible refine wkl_cons ?_ ?_|(first|exact wvx_Kf|fail))) ?_|refine wko_loop (by first|decide|omega|simp) rfl (by ((try subst hF);(try subst hF2);exact wkl_sd (wkf_sget (by (repeat' ((try (conv=>whnf));first|with_reducible exact True.intro|with_reducible refine And.intro ?_ ?_|(with_reducible refine WkX.mk ?_;first|exact wvx_Kf|fail))))))) ?_|exact wko_nil))))):p:=h
theorem wx_Kf {p q:Prop} (hq:q) (h:HidP q→p:=by (intro hQz;((repeat' ((try (conv=>whnf));first|(with_reducible first|refine run_cons ?_|refine runq_cons ?_|refine code_seq ?_|refine code_reg ?_|refine code_cond ?_|refine run_nil ?_|refine runq_nil ?_|refine rund_op rfl ?_|refine rund_nil ?_|refine code_block ?_|refine code_skip ?_|refine code_exit ?_|refine code_ret ?_|refine code_range ?_|refine rund_fast (by decide +kernel) ?_|refine rund_slow (by decide +kernel) ?_|refine br_tt ?_|refine br_ff ?_|refine br_n ?_|refine br_and ?_|refine br_or ?_|refine br_t (by assumption) ?_|refine br_f (by assumption) ?_|refine eq_i64 (by omega) ?_|refine el_tn ?_)|((with_reducible refine br_dt ?_ ?_);focus omega)|((with_reducible refine br_df ?_ ?_);focus omega)|((with_reducible apply br_dq hQz)<;>(try intro hsp hQz))|((with_reducible refine ck_x ?_ ?_);focus (first|omega|rfl|assumption|decide|(simp only [List.length_map,List.length_cons,List.length_nil];omega)))|(with_reducible first|refine eq_tn ?_|refine eq_tn1 ?_|refine eq_tn2 ?_|refine eq_m1 ?_|refine eq_m2 ?_|refine eq_zm ?_|refine eq_z ?_|refine len_map ?_|refine len_sl ?_|refine len_nils ?_|refine len_own' ?_|refine len_isl ?_|refine eq_u8 (by omega) ?_|refine eq_u16 (by omega) ?_)|(with_reducible first|refine eq_rfl ?_|refine ChkX.mk (by kernel_rfl) ?_|refine code_q rfl ?_|refine code_d (by decide +kernel) ?_|refine end_go rfl ?_)|refine cx_locS c1 rfl (by decide) ?_|refine cx_L hcl rfl rfl rfl rfl rfl (by decide) rfl ?_|refine cx_locS ck rfl (by decide) ?_|refine cx_locS cc rfl (by decide) ?_|refine cx_locS r1 rfl (by decide) ?_|refine cx_locS w1 rfl (by decide) ?_|refine len_map ?_|refine len_isl ?_|refine el_of rfl rfl ?_|refine del_own ?_|refine del_own' rfl ?_|refine as_go rfl ?_|refine rd_go rfl ?_|refine rg_end rfl ?_|refine flat_ownX ?_|refine EqLX.mk ?_|((with_reducible apply br_bq hQz)<;>(try intro hsp hQz))|exact hQz.out))<;>(try (conv=>whnf))))):p:=h ⟨hq⟩
def alN (A:Nat→Sy) (z a b c d:Nat):List (Nat × AObj):=[(z,.cells [.ptr a 0,.ptr b 0,.ptr c 0,.ptr d 0]),(a,.cells (A 0).a),(b,.cells (A 1).a),(c,.cells (A 2).a),(d,.cells (A 3).a)]
structure LocL (f:Nat) (avs:List AV) (A:Nat→Sy) (r:AV) (A':Nat→Sy):Prop where
 out:LocC Tryz.prog G0 f (.ptr 0 0::avs) (alN A 0 1 2 3 4) 5 fun x h1=>x=r∧h1=⟨alN A' 0 1 2 3 4,5⟩
 pa:∀ x ∈ avs,Plain x
 pr:Plain r
theorem end_LW {top:Bool} {h:Hp} {N0:Nat} {x r:AV} {A:Nat→Sy} (hr:SubH (rn []) h ⟨alN A 0 1 2 3 4,5⟩→WkV Tryz.prog (rn []) h ⟨alN A 0 1 2 3 4,5⟩ x r) (h0:lk h.l 0=some (.cells [.ptr 1 0,.ptr 2 0,.ptr 3 0,.ptr 4 0])) (h1:lk h.l 1=some (.cells (A 0).a)) (h2:lk h.l 2=some (.cells (A 1).a)) (h3:lk h.l 3=some (.cells (A 2).a)) (h4:lk h.l 4=some (.cells (A 3).a)) (hN0:N0≤5:=by decide) :
  EndX top Tryz.prog N0 h x (fun r' h'=>r'=r∧h'=⟨alN A 0 1 2 3 4,5⟩):=by
 have hs:SubH (rn []) h ⟨alN A 0 1 2 3 4,5⟩:=fun i o hi=>by
  simp only [alN,lk] at hi
  show ∃ o',lk h.l i=some o'
  split at hi
  ·rename_i e;subst e;exact ⟨_,h0⟩
  ·split at hi
   ·rename_i e;subst e;exact ⟨_,h1⟩
   ·split at hi
    ·rename_i e;subst e;exact ⟨_,h2⟩
    ·split at hi
     ·rename_i e;subst e;exact ⟨_,h3⟩
     ·split at hi
      ·rename_i e;subst e;exact ⟨_,h4⟩
      ·cases hi
 refine end_loc [] rfl hN0 (oneOf_of rfl) (hr hs) ?_ ⟨rfl,rfl⟩
 exact wko_cells (show 0 < 5 by decide) h0 (wkl_cons (wk_ptr (i:=1) rfl (show 1 < 5 by decide)) (wkl_cons (wk_ptr (i:=2) rfl (show 2 < 5 by decide)) (wkl_cons (wk_ptr (i:=3) rfl (show 3 < 5 by decide)) (wkl_cons (wk_ptr (i:=4) rfl (show 4 < 5 by decide)) wkl_nil))))
  (wko_plain hs (show 1 < 5 by decide) h1 rfl a_plain (wko_plain hs (show 2 < 5 by decide) h2 rfl a_plain (wko_plain hs (show 3 < 5 by decide) h3 rfl a_plain (wko_plain hs (show 4 < 5 by decide) h4 rfl a_plain wko_nil))))
theorem end_L {top:Bool} {h:Hp} {N0:Nat} {x r:AV} {A:Nat→Sy} (hx:x=r) (hp:Plain r) (h0:lk h.l 0=some (.cells [.ptr 1 0,.ptr 2 0,.ptr 3 0,.ptr 4 0])) (h1:lk h.l 1=some (.cells (A 0).a)) (h2:lk h.l 2=some (.cells (A 1).a)) (h3:lk h.l 3=some (.cells (A 2).a)) (h4:lk h.l 4=some (.cells (A 3).a)) (hN0:N0≤5:=by decide) :
  EndX top Tryz.prog N0 h x (fun r' h'=>r'=r∧h'=⟨alN A 0 1 2 3 4,5⟩):=by
 subst hx
 exact end_LW (fun hs=>wk_plain hs hp) h0 h1 h2 h3 h4 hN0
theorem cx_L {f:Nat} {avs:List AV} {A A':Nat→Sy} {r:AV} {z a b c d nx:Nat} {l:List (Nat × AObj)} {K:AV→Hp→Prop} (hc:LocL f avs A r A')
  (h0:lk l z=some (.cells [.ptr a 0,.ptr b 0,.ptr c 0,.ptr d 0])) (h1:lk l a=some (.cells (A 0).a)) (h2:lk l b=some (.cells (A 1).a)) (h3:lk l c=some (.cells (A 2).a)) (h4:lk l d=some (.cells (A 3).a))
  (hlt:z < nx∧a < nx∧b < nx∧c < nx∧d < nx) (hd:nodB [z,a,b,c,d]=true)
  (hk:filtK [z,a,b,c,d] l fun l2=>K r ⟨([(z,.cells [.ptr a 0,.ptr b 0,.ptr c 0,.ptr d 0]),(a,.cells (A' 0).a),(b,.cells (A' 1).a),(c,.cells (A' 2).a),(d,.cells (A' 3).a)]:List (Nat × AObj))++l2,nx⟩):CallX Tryz.prog G0 (.fn f [] []) (.ptr z 0::avs) ⟨l,nx⟩ K:=by
 have e0:enter [z,a,b,c,d] z 0:=rfl
 have e1:enter [z,a,b,c,d] a 1:=rfl
 have e2:enter [z,a,b,c,d] b 2:=rfl
 have e3:enter [z,a,b,c,d] c 3:=rfl
 have e4:enter [z,a,b,c,d] d 4:=rfl
 have k0:back [z,a,b,c,d] nx 0 z:=rfl
 have k1:back [z,a,b,c,d] nx 1 a:=rfl
 have k2:back [z,a,b,c,d] nx 2 b:=rfl
 have k3:back [z,a,b,c,d] nx 3 c:=rfl
 have k4:back [z,a,b,c,d] nx 4 d:=rfl
 refine cx_loc (l1:=alN A' z a b c d) [z,a,b,c,d] hc.out plainG hd
  (.cons e0 h0 ⟨rn_ptr e1,rn_ptr e2,rn_ptr e3,rn_ptr e4,trivial⟩ (.cons e1 h1 (rnl_plain a_plain) (.cons e2 h2 (rnl_plain a_plain) (.cons e3 h3 (rnl_plain a_plain) (.cons e4 h4 (rnl_plain a_plain) .nil)))))
  ?_ (by intro x hx;simp only [List.mem_cons,List.not_mem_nil,or_false] at hx;omega) (rn_plain hc.pr)
  (.cons k0 ⟨rn_ptr k1,rn_ptr k2,rn_ptr k3,rn_ptr k4,trivial⟩ (.cons k1 (rnl_plain a_plain) (.cons k2 (rnl_plain a_plain) (.cons k3 (rnl_plain a_plain) (.cons k4 (rnl_plain a_plain) .nil))))) hk
 simp only [List.nil_append,List.append_nil]
 exact ⟨rn_ptr e0,rnl_plain hc.pa⟩
section
variable {A:Nat→Sy}
theorem l_clear {x:Nat} (hx:x < 4) (hg:GoodS (A x)):LocL 113 [.int .i64 (x:Nat)] A (.tup []) (updA A x ((A x).clr 8)):=by
 refine LocL.mk (loc_x hmix b113 rfl ?_) plain_i1 plain_none
 unfold c113
 rcases (show x=0∨x=1∨x=2∨x=3 by omega) with rfl|rfl|rfl|rfl
 all_goals
  unfold alN
  (refine wx_Kf ?_;repeat' (first|with_reducible refine And.intro ?_ ?_|intro hsp))
 ·(refine loop_x [0,1] (fun (k:Nat)=>[(4,.int .i64 (k:Nat))]) (fun (k:Nat)=>⟨[(0,.cells [.ptr 1 0,.ptr 2 0,.ptr 3 0,.ptr 4 0]),(1,.cells ((A 0).clr k).a),(2,.cells (A 1).a),(3,.cells (A 2).a),(4,.cells (A 3).a)],5⟩) (fun (k:Nat)=>k≤8) (fun (k:Nat)=>8 - k) (0) [] rfl (fun _=>by first|exact Nat.zero_le _|(dsimp only;omega)) ?_ (by ((try (conv=>whnf));exact wkx_Kf)) ?_)
  ·exact Nat.zero_le _
  intro k hk
  by_cases hkl:k < 8
  ·have c1:=p_decommit (a:=(k:Nat)) (n:=1) (clr_good hg k)
   rw [show (((A 0).clr k).chg ((k:Nat):Int) 1 2 1 3).2=(A 0).clr (k+1) from rfl] at c1
   (refine wx_Kf ?_;repeat' (first|with_reducible refine And.intro ?_ ?_|intro hsp))
   all_goals exact next_x (k+1) [] (by (try dsimp only);omega) (by first|omega|(dsimp only;omega)) rfl (by exact wkx_Kf)
  ·obtain rfl:k=8:=by omega
   (refine wx_Kf ?_;repeat' (first|with_reducible refine And.intro ?_ ?_|intro hsp))
   all_goals exact end_L rfl plain_none rfl rfl rfl rfl rfl
 ·(refine loop_x [0,1] (fun (k:Nat)=>[(4,.int .i64 (k:Nat))]) (fun (k:Nat)=>⟨[(0,.cells [.ptr 1 0,.ptr 2 0,.ptr 3 0,.ptr 4 0]),(1,.cells (A 0).a),(2,.cells ((A 1).clr k).a),(3,.cells (A 2).a),(4,.cells (A 3).a)],5⟩) (fun (k:Nat)=>k≤8) (fun (k:Nat)=>8 - k) (0) [] rfl (fun _=>by first|exact Nat.zero_le _|(dsimp only;omega)) ?_ (by ((try (conv=>whnf));exact wkx_Kf)) ?_)
  ·exact Nat.zero_le _
  intro k hk
  by_cases hkl:k < 8
  ·have c1:=p_decommit (a:=(k:Nat)) (n:=1) (clr_good hg k)
   rw [show (((A 1).clr k).chg ((k:Nat):Int) 1 2 1 3).2=(A 1).clr (k+1) from rfl] at c1
   (refine wx_Kf ?_;repeat' (first|with_reducible refine And.intro ?_ ?_|intro hsp))
   all_goals exact next_x (k+1) [] (by (try dsimp only);omega) (by first|omega|(dsimp only;omega)) rfl (by exact wkx_Kf)
  ·obtain rfl:k=8:=by omega
   (refine wx_Kf ?_;repeat' (first|with_reducible refine And.intro ?_ ?_|intro hsp))
   all_goals exact end_L rfl plain_none rfl rfl rfl rfl rfl
 ·(refine loop_x [0,1] (fun (k:Nat)=>[(4,.int .i64 (k:Nat))]) (fun (k:Nat)=>⟨[(0,.cells [.ptr 1 0,.ptr 2 0,.ptr 3 0,.ptr 4 0]),(1,.cells (A 0).a),(2,.cells (A 1).a),(3,.cells ((A 2).clr k).a),(4,.cells (A 3).a)],5⟩) (fun (k:Nat)=>k≤8) (fun (k:Nat)=>8 - k) (0) [] rfl (fun _=>by first|exact Nat.zero_le _|(dsimp only;omega)) ?_ (by ((try (conv=>whnf));exact wkx_Kf)) ?_)
  ·exact Nat.zero_le _
  intro k hk
  by_cases hkl:k < 8
  ·have c1:=p_decommit (a:=(k:Nat)) (n:=1) (clr_good hg k)
   rw [show (((A 2).clr k).chg ((k:Nat):Int) 1 2 1 3).2=(A 2).clr (k+1) from rfl] at c1
   (refine wx_Kf ?_;repeat' (first|with_reducible refine And.intro ?_ ?_|intro hsp))
   all_goals exact next_x (k+1) [] (by (try dsimp only);omega) (by first|omega|(dsimp only;omega)) rfl (by exact wkx_Kf)
  ·obtain rfl:k=8:=by omega
   (refine wx_Kf ?_;repeat' (first|with_reducible refine And.intro ?_ ?_|intro hsp))
   all_goals exact end_L rfl plain_none rfl rfl rfl rfl rfl
 ·(refine loop_x [0,1] (fun (k:Nat)=>[(4,.int .i64 (k:Nat))]) (fun (k:Nat)=>⟨[(0,.cells [.ptr 1 0,.ptr 2 0,.ptr 3 0,.ptr 4 0]),(1,.cells (A 0).a),(2,.cells (A 1).a),(3,.cells (A 2).a),(4,.cells ((A 3).clr k).a)],5⟩) (fun (k:Nat)=>k≤8) (fun (k:Nat)=>8 - k) (0) [] rfl (fun _=>by first|exact Nat.zero_le _|(dsimp only;omega)) ?_ (by ((try (conv=>whnf));exact wkx_Kf)) ?_)
  ·exact Nat.zero_le _
  intro k hk
  by_cases hkl:k < 8
  ·have c1:=p_decommit (a:=(k:Nat)) (n:=1) (clr_good hg k)
   rw [show (((A 3).clr k).chg ((k:Nat):Int) 1 2 1 3).2=(A 3).clr (k+1) from rfl] at c1
   (refine wx_Kf ?_;repeat' (first|with_reducible refine And.intro ?_ ?_|intro hsp))
   all_goals exact next_x (k+1) [] (by (try dsimp only);omega) (by first|omega|(dsimp only;omega)) rfl (by exact wkx_Kf)
  ·obtain rfl:k=8:=by omega
   (refine wx_Kf ?_;repeat' (first|with_reducible refine And.intro ?_ ?_|intro hsp))
   all_goals exact end_L rfl plain_none rfl rfl rfl rfl rfl
theorem cp_facts {R1 R2:Nat→Nat→Option Int} {s1 s2:Sy} (h1:SpR R1 s1) (h2:SpR R2 s2) {k:Nat} (hk:k < 8):GoodS (cpyN s1 s2 k)∧True∧True∧(s1.K k=2→((cpyN s1 s2 k).com k).K k=2∧GoodS ((cpyN s1 s2 k).com k)):=by
 have h:=sp_cpy h1 h2 k (by omega)
 obtain ⟨c1,c2⟩:=sp_com h hk (by rw [if_neg (by omega)])
 refine ⟨h.good,trivial,trivial,fun _=>⟨?_,c2.good⟩⟩
 rw [c1,turn_K,if_pos rfl]
theorem l_copy01 {R1 R2:Nat→Nat→Option Int} (h1:SpR R1 (A 0)) (h2:SpR R2 (A 1)):LocL 112 [.int .i64 0,.int .i64 1] A (.tup []) (updA A 1 (cpyN (A 0) (A 1) 8)):=by
 have hcl:=l_clear (x:=1) (by decide) h2.good
 refine LocL.mk (loc_x hmix b112 rfl ?_) plain_i2 plain_none
 unfold c112
 unfold alN
 (refine wx_Kf ?_;repeat' (first|with_reducible refine And.intro ?_ ?_|intro hsp))
 (refine loop_x [0,1,2] (fun (k:Nat)=>[(6,.int .i64 (k:Nat))]) (fun (k:Nat)=>⟨[(0,.cells [.ptr 1 0,.ptr 2 0,.ptr 3 0,.ptr 4 0]),(1,.cells (A 0).a),(2,.cells (cpyN (A 0) (A 1) k).a),(3,.cells (A 2).a),(4,.cells (A 3).a)],5⟩) (fun (k:Nat)=>k≤8) (fun (k:Nat)=>8 - k) (0) [] rfl (fun _=>by first|exact Nat.zero_le _|(dsimp only;omega)) ?_ (by ((try (conv=>whnf));exact wkx_Kf)) ?_)
 ·exact Nat.zero_le _
 intro k hk
 by_cases hkl:k < 8
 ·obtain ⟨g1,g2,g3,g4⟩:=cp_facts h1 h2 hkl
  have ck:=p_kind (s:=A 0) (a:=(k:Nat))
  rw [kind_at (by omega) (h1.M k)] at ck
  have cc:=p_commit (a:=(k:Nat)) (n:=1) g1
  rw [show ((cpyN (A 0) (A 1) k).chg ((k:Nat):Int) 1 1 2 2).2=(cpyN (A 0) (A 1) k).com k from rfl] at cc
  by_cases hK:(A 0).K k=2
  ·obtain ⟨g5,g6⟩:=g4 hK
   rw [hK] at ck
   generalize hS:(cpyN (A 0) (A 1) k).com k=S at *
   (refine wx_Kf ?_;repeat' (first|with_reducible refine And.intro ?_ ?_|intro hsp))
   have hw0:=wrK_0 (s:=S) (f:=k) (x:=(A 0).B k)
   (refine loop_x [0,1,2,6] (fun (j:Nat)=>[(10,.int .i64 ((k:Int) * 64+(j:Nat)))]) (fun (j:Nat)=>⟨[(0,.cells [.ptr 1 0,.ptr 2 0,.ptr 3 0,.ptr 4 0]),(1,.cells (A 0).a),(2,.cells (wrK S k ((A 0).B k) j).a),(3,.cells (A 2).a),(4,.cells (A 3).a)],5⟩) (fun (j:Nat)=>j≤64) (fun (j:Nat)=>64 - j) (0) [] rfl (fun _=>by first|exact Nat.zero_le _|(dsimp only;omega)) ?_ (by ((try (conv=>whnf));(rw [hw0]);exact wkx_Kf)) ?_)
   ·exact Nat.zero_le _
   intro j hj
   by_cases hjl:j < 64
   ·have r1:=p_read (s:=A 0) (a:=(k:Int) * 64+(j:Nat))
    rw [read_at hK (by omega) hjl] at r1
    have w1:=p_write (s:=wrK S k ((A 0).B k) j) (a:=(k:Int) * 64+(j:Nat)) (b:=(A 0).B k j)
    rw [wrK_s g5 (by omega) hjl] at w1
    dsimp only at r1 w1
    (refine wx_Kf ?_;repeat' (first|with_reducible refine And.intro ?_ ?_|intro hsp))
    all_goals first|(exfalso;omega)|exact next_x (j+1) [] (by (try dsimp only);omega) (by first|omega|(dsimp only;omega)) rfl (by exact wkx_Kf)
   ·obtain rfl:j=64:=by omega
    rw [wrK_all g6]
    have hn:S.page k ((A 0).B k)=cpyN (A 0) (A 1) (k+1):=by rw [← hS];exact (if_pos hK).symm
    rw [hn]
    (refine wx_Kf ?_;repeat' (first|with_reducible refine And.intro ?_ ?_|intro hsp))
    all_goals first|(exfalso;omega)|exact next_x (k+1) [] (by (try dsimp only);omega) (by first|omega|(dsimp only;omega)) rfl (by exact wkx_Kf)
  ·have hn:cpyN (A 0) (A 1) (k+1)=cpyN (A 0) (A 1) k:=if_neg hK
   clear cc g4
   generalize (A 0).K k=kk at *
   (refine wx_Kf ?_;repeat' (first|with_reducible refine And.intro ?_ ?_|intro hsp))
   all_goals first|(exfalso;omega)|exact next_x (k+1) [] (by (try dsimp only);omega) (by first|omega|(dsimp only;omega)) rfl (by ((try dsimp only);rw [hn]);exact wkx_Kf)
 ·obtain rfl:k=8:=by omega
  (refine wx_Kf ?_;repeat' (first|with_reducible refine And.intro ?_ ?_|intro hsp))
  all_goals exact end_L rfl plain_none rfl rfl rfl rfl rfl
theorem l_copy02 {R1 R2:Nat→Nat→Option Int} (h1:SpR R1 (A 0)) (h2:SpR R2 (A 2)):LocL 112 [.int .i64 0,.int .i64 2] A (.tup []) (updA A 2 (cpyN (A 0) (A 2) 8)):=by
 have hcl:=l_clear (x:=2) (by decide) h2.good
 refine LocL.mk (loc_x hmix b112 rfl ?_) plain_i2 plain_none
 unfold c112
 unfold alN
 (refine wx_Kf ?_;repeat' (first|with_reducible refine And.intro ?_ ?_|intro hsp))
 (refine loop_x [0,1,2] (fun (k:Nat)=>[(6,.int .i64 (k:Nat))]) (fun (k:Nat)=>⟨[(0,.cells [.ptr 1 0,.ptr 2 0,.ptr 3 0,.ptr 4 0]),(1,.cells (A 0).a),(2,.cells (A 1).a),(3,.cells (cpyN (A 0) (A 2) k).a),(4,.cells (A 3).a)],5⟩) (fun (k:Nat)=>k≤8) (fun (k:Nat)=>8 - k) (0) [] rfl (fun _=>by first|exact Nat.zero_le _|(dsimp only;omega)) ?_ (by ((try (conv=>whnf));exact wkx_Kf)) ?_)
 ·exact Nat.zero_le _
 intro k hk
 by_cases hkl:k < 8
 ·obtain ⟨g1,g2,g3,g4⟩:=cp_facts h1 h2 hkl
  have ck:=p_kind (s:=A 0) (a:=(k:Nat))
  rw [kind_at (by omega) (h1.M k)] at ck
  have cc:=p_commit (a:=(k:Nat)) (n:=1) g1
  rw [show ((cpyN (A 0) (A 2) k).chg ((k:Nat):Int) 1 1 2 2).2=(cpyN (A 0) (A 2) k).com k from rfl] at cc
  by_cases hK:(A 0).K k=2
  ·obtain ⟨g5,g6⟩:=g4 hK
   rw [hK] at ck
   generalize hS:(cpyN (A 0) (A 2) k).com k=S at *
   (refine wx_Kf ?_;repeat' (first|with_reducible refine And.intro ?_ ?_|intro hsp))
   have hw0:=wrK_0 (s:=S) (f:=k) (x:=(A 0).B k)
   (refine loop_x [0,1,2,6] (fun (j:Nat)=>[(10,.int .i64 ((k:Int) * 64+(j:Nat)))]) (fun (j:Nat)=>⟨[(0,.cells [.ptr 1 0,.ptr 2 0,.ptr 3 0,.ptr 4 0]),(1,.cells (A 0).a),(2,.cells (A 1).a),(3,.cells (wrK S k ((A 0).B k) j).a),(4,.cells (A 3).a)],5⟩) (fun (j:Nat)=>j≤64) (fun (j:Nat)=>64 - j) (0) [] rfl (fun _=>by first|exact Nat.zero_le _|(dsimp only;omega)) ?_ (by ((try (conv=>whnf));(rw [hw0]);exact wkx_Kf)) ?_)
   ·exact Nat.zero_le _
   intro j hj
   by_cases hjl:j < 64
   ·have r1:=p_read (s:=A 0) (a:=(k:Int) * 64+(j:Nat))
    rw [read_at hK (by omega) hjl] at r1
    have w1:=p_write (s:=wrK S k ((A 0).B k) j) (a:=(k:Int) * 64+(j:Nat)) (b:=(A 0).B k j)
    rw [wrK_s g5 (by omega) hjl] at w1
    dsimp only at r1 w1
    (refine wx_Kf ?_;repeat' (first|with_reducible refine And.intro ?_ ?_|intro hsp))
    all_goals first|(exfalso;omega)|exact next_x (j+1) [] (by (try dsimp only);omega) (by first|omega|(dsimp only;omega)) rfl (by exact wkx_Kf)
   ·obtain rfl:j=64:=by omega
    rw [wrK_all g6]
    have hn:S.page k ((A 0).B k)=cpyN (A 0) (A 2) (k+1):=by rw [← hS];exact (if_pos hK).symm
    rw [hn]
    (refine wx_Kf ?_;repeat' (first|with_reducible refine And.intro ?_ ?_|intro hsp))
    all_goals first|(exfalso;omega)|exact next_x (k+1) [] (by (try dsimp only);omega) (by first|omega|(dsimp only;omega)) rfl (by exact wkx_Kf)
  ·have hn:cpyN (A 0) (A 2) (k+1)=cpyN (A 0) (A 2) k:=if_neg hK
   clear cc g4
   generalize (A 0).K k=kk at *
   (refine wx_Kf ?_;repeat' (first|with_reducible refine And.intro ?_ ?_|intro hsp))
   all_goals first|(exfalso;omega)|exact next_x (k+1) [] (by (try dsimp only);omega) (by first|omega|(dsimp only;omega)) rfl (by ((try dsimp only);rw [hn]);exact wkx_Kf)
 ·obtain rfl:k=8:=by omega
  (refine wx_Kf ?_;repeat' (first|with_reducible refine And.intro ?_ ?_|intro hsp))
  all_goals exact end_L rfl plain_none rfl rfl rfl rfl rfl
theorem l_copy03 {R1 R2:Nat→Nat→Option Int} (h1:SpR R1 (A 0)) (h2:SpR R2 (A 3)):LocL 112 [.int .i64 0,.int .i64 3] A (.tup []) (updA A 3 (cpyN (A 0) (A 3) 8)):=by
 have hcl:=l_clear (x:=3) (by decide) h2.good
 refine LocL.mk (loc_x hmix b112 rfl ?_) plain_i2 plain_none
 unfold c112
 unfold alN
 (refine wx_Kf ?_;repeat' (first|with_reducible refine And.intro ?_ ?_|intro hsp))
 (refine loop_x [0,1,2] (fun (k:Nat)=>[(6,.int .i64 (k:Nat))]) (fun (k:Nat)=>⟨[(0,.cells [.ptr 1 0,.ptr 2 0,.ptr 3 0,.ptr 4 0]),(1,.cells (A 0).a),(2,.cells (A 1).a),(3,.cells (A 2).a),(4,.cells (cpyN (A 0) (A 3) k).a)],5⟩) (fun (k:Nat)=>k≤8) (fun (k:Nat)=>8 - k) (0) [] rfl (fun _=>by first|exact Nat.zero_le _|(dsimp only;omega)) ?_ (by ((try (conv=>whnf));exact wkx_Kf)) ?_)
 ·exact Nat.zero_le _
 intro k hk
 by_cases hkl:k < 8
 ·obtain ⟨g1,g2,g3,g4⟩:=cp_facts h1 h2 hkl
  have ck:=p_kind (s:=A 0) (a:=(k:Nat))
  rw [kind_at (by omega) (h1.M k)] at ck
  have cc:=p_commit (a:=(k:Nat)) (n:=1) g1
  rw [show ((cpyN (A 0) (A 3) k).chg ((k:Nat):Int) 1 1 2 2).2=(cpyN (A 0) (A 3) k).com k from rfl] at cc
  by_cases hK:(A 0).K k=2
  ·obtain ⟨g5,g6⟩:=g4 hK
   rw [hK] at ck
   generalize hS:(cpyN (A 0) (A 3) k).com k=S at *
   (refine wx_Kf ?_;repeat' (first|with_reducible refine And.intro ?_ ?_|intro hsp))
   have hw0:=wrK_0 (s:=S) (f:=k) (x:=(A 0).B k)
   (refine loop_x [0,1,2,6] (fun (j:Nat)=>[(10,.int .i64 ((k:Int) * 64+(j:Nat)))]) (fun (j:Nat)=>⟨[(0,.cells [.ptr 1 0,.ptr 2 0,.ptr 3 0,.ptr 4 0]),(1,.cells (A 0).a),(2,.cells (A 1).a),(3,.cells (A 2).a),(4,.cells (wrK S k ((A 0).B k) j).a)],5⟩) (fun (j:Nat)=>j≤64) (fun (j:Nat)=>64 - j) (0) [] rfl (fun _=>by first|exact Nat.zero_le _|(dsimp only;omega)) ?_ (by ((try (conv=>whnf));(rw [hw0]);exact wkx_Kf)) ?_)
   ·exact Nat.zero_le _
   intro j hj
   by_cases hjl:j < 64
   ·have r1:=p_read (s:=A 0) (a:=(k:Int) * 64+(j:Nat))
    rw [read_at hK (by omega) hjl] at r1
    have w1:=p_write (s:=wrK S k ((A 0).B k) j) (a:=(k:Int) * 64+(j:Nat)) (b:=(A 0).B k j)
    rw [wrK_s g5 (by omega) hjl] at w1
    dsimp only at r1 w1
    (refine wx_Kf ?_;repeat' (first|with_reducible refine And.intro ?_ ?_|intro hsp))
    all_goals first|(exfalso;omega)|exact next_x (j+1) [] (by (try dsimp only);omega) (by first|omega|(dsimp only;omega)) rfl (by exact wkx_Kf)
   ·obtain rfl:j=64:=by omega
    rw [wrK_all g6]
    have hn:S.page k ((A 0).B k)=cpyN (A 0) (A 3) (k+1):=by rw [← hS];exact (if_pos hK).symm
    rw [hn]
    (refine wx_Kf ?_;repeat' (first|with_reducible refine And.intro ?_ ?_|intro hsp))
    all_goals first|(exfalso;omega)|exact next_x (k+1) [] (by (try dsimp only);omega) (by first|omega|(dsimp only;omega)) rfl (by exact wkx_Kf)
  ·have hn:cpyN (A 0) (A 3) (k+1)=cpyN (A 0) (A 3) k:=if_neg hK
   clear cc g4
   generalize (A 0).K k=kk at *
   (refine wx_Kf ?_;repeat' (first|with_reducible refine And.intro ?_ ?_|intro hsp))
   all_goals first|(exfalso;omega)|exact next_x (k+1) [] (by (try dsimp only);omega) (by first|omega|(dsimp only;omega)) rfl (by ((try dsimp only);rw [hn]);exact wkx_Kf)
 ·obtain rfl:k=8:=by omega
  (refine wx_Kf ?_;repeat' (first|with_reducible refine And.intro ?_ ?_|intro hsp))
  all_goals exact end_L rfl plain_none rfl rfl rfl rfl rfl
theorem l_copy10 {R1 R2:Nat→Nat→Option Int} (h1:SpR R1 (A 1)) (h2:SpR R2 (A 0)):LocL 112 [.int .i64 1,.int .i64 0] A (.tup []) (updA A 0 (cpyN (A 1) (A 0) 8)):=by
 have hcl:=l_clear (x:=0) (by decide) h2.good
 refine LocL.mk (loc_x hmix b112 rfl ?_) plain_i2 plain_none
 unfold c112
 unfold alN
 (refine wx_Kf ?_;repeat' (first|with_reducible refine And.intro ?_ ?_|intro hsp))
 (refine loop_x [0,1,2] (fun (k:Nat)=>[(6,.int .i64 (k:Nat))]) (fun (k:Nat)=>⟨[(0,.cells [.ptr 1 0,.ptr 2 0,.ptr 3 0,.ptr 4 0]),(1,.cells (cpyN (A 1) (A 0) k).a),(2,.cells (A 1).a),(3,.cells (A 2).a),(4,.cells (A 3).a)],5⟩) (fun (k:Nat)=>k≤8) (fun (k:Nat)=>8 - k) (0) [] rfl (fun _=>by first|exact Nat.zero_le _|(dsimp only;omega)) ?_ (by ((try (conv=>whnf));exact wkx_Kf)) ?_)
 ·exact Nat.zero_le _
 intro k hk
 by_cases hkl:k < 8
 ·obtain ⟨g1,g2,g3,g4⟩:=cp_facts h1 h2 hkl
  have ck:=p_kind (s:=A 1) (a:=(k:Nat))
  rw [kind_at (by omega) (h1.M k)] at ck
  have cc:=p_commit (a:=(k:Nat)) (n:=1) g1
  rw [show ((cpyN (A 1) (A 0) k).chg ((k:Nat):Int) 1 1 2 2).2=(cpyN (A 1) (A 0) k).com k from rfl] at cc
  by_cases hK:(A 1).K k=2
  ·obtain ⟨g5,g6⟩:=g4 hK
   rw [hK] at ck
   generalize hS:(cpyN (A 1) (A 0) k).com k=S at *
   (refine wx_Kf ?_;repeat' (first|with_reducible refine And.intro ?_ ?_|intro hsp))
   have hw0:=wrK_0 (s:=S) (f:=k) (x:=(A 1).B k)
   (refine loop_x [0,1,2,6] (fun (j:Nat)=>[(10,.int .i64 ((k:Int) * 64+(j:Nat)))]) (fun (j:Nat)=>⟨[(0,.cells [.ptr 1 0,.ptr 2 0,.ptr 3 0,.ptr 4 0]),(1,.cells (wrK S k ((A 1).B k) j).a),(2,.cells (A 1).a),(3,.cells (A 2).a),(4,.cells (A 3).a)],5⟩) (fun (j:Nat)=>j≤64) (fun (j:Nat)=>64 - j) (0) [] rfl (fun _=>by first|exact Nat.zero_le _|(dsimp only;omega)) ?_ (by ((try (conv=>whnf));(rw [hw0]);exact wkx_Kf)) ?_)
   ·exact Nat.zero_le _
   intro j hj
   by_cases hjl:j < 64
   ·have r1:=p_read (s:=A 1) (a:=(k:Int) * 64+(j:Nat))
    rw [read_at hK (by omega) hjl] at r1
    have w1:=p_write (s:=wrK S k ((A 1).B k) j) (a:=(k:Int) * 64+(j:Nat)) (b:=(A 1).B k j)
    rw [wrK_s g5 (by omega) hjl] at w1
    dsimp only at r1 w1
    (refine wx_Kf ?_;repeat' (first|with_reducible refine And.intro ?_ ?_|intro hsp))
    all_goals first|(exfalso;omega)|exact next_x (j+1) [] (by (try dsimp only);omega) (by first|omega|(dsimp only;omega)) rfl (by exact wkx_Kf)
   ·obtain rfl:j=64:=by omega
    rw [wrK_all g6]
    have hn:S.page k ((A 1).B k)=cpyN (A 1) (A 0) (k+1):=by rw [← hS];exact (if_pos hK).symm
    rw [hn]
    (refine wx_Kf ?_;repeat' (first|with_reducible refine And.intro ?_ ?_|intro hsp))
    all_goals first|(exfalso;omega)|exact next_x (k+1) [] (by (try dsimp only);omega) (by first|omega|(dsimp only;omega)) rfl (by exact wkx_Kf)
  ·have hn:cpyN (A 1) (A 0) (k+1)=cpyN (A 1) (A 0) k:=if_neg hK
   clear cc g4
   generalize (A 1).K k=kk at *
   (refine wx_Kf ?_;repeat' (first|with_reducible refine And.intro ?_ ?_|intro hsp))
   all_goals first|(exfalso;omega)|exact next_x (k+1) [] (by (try dsimp only);omega) (by first|omega|(dsimp only;omega)) rfl (by ((try dsimp only);rw [hn]);exact wkx_Kf)
 ·obtain rfl:k=8:=by omega
  (refine wx_Kf ?_;repeat' (first|with_reducible refine And.intro ?_ ?_|intro hsp))
  all_goals exact end_L rfl plain_none rfl rfl rfl rfl rfl
theorem l_copy12 {R1 R2:Nat→Nat→Option Int} (h1:SpR R1 (A 1)) (h2:SpR R2 (A 2)):LocL 112 [.int .i64 1,.int .i64 2] A (.tup []) (updA A 2 (cpyN (A 1) (A 2) 8)):=by
 have hcl:=l_clear (x:=2) (by decide) h2.good
 refine LocL.mk (loc_x hmix b112 rfl ?_) plain_i2 plain_none
 unfold c112
 unfold alN
 (refine wx_Kf ?_;repeat' (first|with_reducible refine And.intro ?_ ?_|intro hsp))
 (refine loop_x [0,1,2] (fun (k:Nat)=>[(6,.int .i64 (k:Nat))]) (fun (k:Nat)=>⟨[(0,.cells [.ptr 1 0,.ptr 2 0,.ptr 3 0,.ptr 4 0]),(1,.cells (A 0).a),(2,.cells (A 1).a),(3,.cells (cpyN (A 1) (A 2) k).a),(4,.cells (A 3).a)],5⟩) (fun (k:Nat)=>k≤8) (fun (k:Nat)=>8 - k) (0) [] rfl (fun _=>by first|exact Nat.zero_le _|(dsimp only;omega)) ?_ (by ((try (conv=>whnf));exact wkx_Kf)) ?_)
 ·exact Nat.zero_le _
 intro k hk
 by_cases hkl:k < 8
 ·obtain ⟨g1,g2,g3,g4⟩:=cp_facts h1 h2 hkl
  have ck:=p_kind (s:=A 1) (a:=(k:Nat))
  rw [kind_at (by omega) (h1.M k)] at ck
  have cc:=p_commit (a:=(k:Nat)) (n:=1) g1
  rw [show ((cpyN (A 1) (A 2) k).chg ((k:Nat):Int) 1 1 2 2).2=(cpyN (A 1) (A 2) k).com k from rfl] at cc
  by_cases hK:(A 1).K k=2
  ·obtain ⟨g5,g6⟩:=g4 hK
   rw [hK] at ck
   generalize hS:(cpyN (A 1) (A 2) k).com k=S at *
   (refine wx_Kf ?_;repeat' (first|with_reducible refine And.intro ?_ ?_|intro hsp))
   have hw0:=wrK_0 (s:=S) (f:=k) (x:=(A 1).B k)
   (refine loop_x [0,1,2,6] (fun (j:Nat)=>[(10,.int .i64 ((k:Int) * 64+(j:Nat)))]) (fun (j:Nat)=>⟨[(0,.cells [.ptr 1 0,.ptr 2 0,.ptr 3 0,.ptr 4 0]),(1,.cells (A 0).a),(2,.cells (A 1).a),(3,.cells (wrK S k ((A 1).B k) j).a),(4,.cells (A 3).a)],5⟩) (fun (j:Nat)=>j≤64) (fun (j:Nat)=>64 - j) (0) [] rfl (fun _=>by first|exact Nat.zero_le _|(dsimp only;omega)) ?_ (by ((try (conv=>whnf));(rw [hw0]);exact wkx_Kf)) ?_)
   ·exact Nat.zero_le _
   intro j hj
   by_cases hjl:j < 64
   ·have r1:=p_read (s:=A 1) (a:=(k:Int) * 64+(j:Nat))
    rw [read_at hK (by omega) hjl] at r1
    have w1:=p_write (s:=wrK S k ((A 1).B k) j) (a:=(k:Int) * 64+(j:Nat)) (b:=(A 1).B k j)
    rw [wrK_s g5 (by omega) hjl] at w1
    dsimp only at r1 w1
    (refine wx_Kf ?_;repeat' (first|with_reducible refine And.intro ?_ ?_|intro hsp))
    all_goals first|(exfalso;omega)|exact next_x (j+1) [] (by (try dsimp only);omega) (by first|omega|(dsimp only;omega)) rfl (by exact wkx_Kf)
   ·obtain rfl:j=64:=by omega
    rw [wrK_all g6]
    have hn:S.page k ((A 1).B k)=cpyN (A 1) (A 2) (k+1):=by rw [← hS];exact (if_pos hK).symm
    rw [hn]
    (refine wx_Kf ?_;repeat' (first|with_reducible refine And.intro ?_ ?_|intro hsp))
    all_goals first|(exfalso;omega)|exact next_x (k+1) [] (by (try dsimp only);omega) (by first|omega|(dsimp only;omega)) rfl (by exact wkx_Kf)
  ·have hn:cpyN (A 1) (A 2) (k+1)=cpyN (A 1) (A 2) k:=if_neg hK
   clear cc g4
   generalize (A 1).K k=kk at *
   (refine wx_Kf ?_;repeat' (first|with_reducible refine And.intro ?_ ?_|intro hsp))
   all_goals first|(exfalso;omega)|exact next_x (k+1) [] (by (try dsimp only);omega) (by first|omega|(dsimp only;omega)) rfl (by ((try dsimp only);rw [hn]);exact wkx_Kf)
 ·obtain rfl:k=8:=by omega
  (refine wx_Kf ?_;repeat' (first|with_reducible refine And.intro ?_ ?_|intro hsp))
  all_goals exact end_L rfl plain_none rfl rfl rfl rfl rfl
theorem l_copy13 {R1 R2:Nat→Nat→Option Int} (h1:SpR R1 (A 1)) (h2:SpR R2 (A 3)):LocL 112 [.int .i64 1,.int .i64 3] A (.tup []) (updA A 3 (cpyN (A 1) (A 3) 8)):=by
 have hcl:=l_clear (x:=3) (by decide) h2.good
 refine LocL.mk (loc_x hmix b112 rfl ?_) plain_i2 plain_none
 unfold c112
 unfold alN
 (refine wx_Kf ?_;repeat' (first|with_reducible refine And.intro ?_ ?_|intro hsp))
 (refine loop_x [0,1,2] (fun (k:Nat)=>[(6,.int .i64 (k:Nat))]) (fun (k:Nat)=>⟨[(0,.cells [.ptr 1 0,.ptr 2 0,.ptr 3 0,.ptr 4 0]),(1,.cells (A 0).a),(2,.cells (A 1).a),(3,.cells (A 2).a),(4,.cells (cpyN (A 1) (A 3) k).a)],5⟩) (fun (k:Nat)=>k≤8) (fun (k:Nat)=>8 - k) (0) [] rfl (fun _=>by first|exact Nat.zero_le _|(dsimp only;omega)) ?_ (by ((try (conv=>whnf));exact wkx_Kf)) ?_)
 ·exact Nat.zero_le _
 intro k hk
 by_cases hkl:k < 8
 ·obtain ⟨g1,g2,g3,g4⟩:=cp_facts h1 h2 hkl
  have ck:=p_kind (s:=A 1) (a:=(k:Nat))
  rw [kind_at (by omega) (h1.M k)] at ck
  have cc:=p_commit (a:=(k:Nat)) (n:=1) g1
  rw [show ((cpyN (A 1) (A 3) k).chg ((k:Nat):Int) 1 1 2 2).2=(cpyN (A 1) (A 3) k).com k from rfl] at cc
  by_cases hK:(A 1).K k=2
  ·obtain ⟨g5,g6⟩:=g4 hK
   rw [hK] at ck
   generalize hS:(cpyN (A 1) (A 3) k).com k=S at *
   (refine wx_Kf ?_;repeat' (first|with_reducible refine And.intro ?_ ?_|intro hsp))
   have hw0:=wrK_0 (s:=S) (f:=k) (x:=(A 1).B k)
   (refine loop_x [0,1,2,6] (fun (j:Nat)=>[(10,.int .i64 ((k:Int) * 64+(j:Nat)))]) (fun (j:Nat)=>⟨[(0,.cells [.ptr 1 0,.ptr 2 0,.ptr 3 0,.ptr 4 0]),(1,.cells (A 0).a),(2,.cells (A 1).a),(3,.cells (A 2).a),(4,.cells (wrK S k ((A 1).B k) j).a)],5⟩) (fun (j:Nat)=>j≤64) (fun (j:Nat)=>64 - j) (0) [] rfl (fun _=>by first|exact Nat.zero_le _|(dsimp only;omega)) ?_ (by ((try (conv=>whnf));(rw [hw0]);exact wkx_Kf)) ?_)
   ·exact Nat.zero_le _
   intro j hj
   by_cases hjl:j < 64
   ·have r1:=p_read (s:=A 1) (a:=(k:Int) * 64+(j:Nat))
    rw [read_at hK (by omega) hjl] at r1
    have w1:=p_write (s:=wrK S k ((A 1).B k) j) (a:=(k:Int) * 64+(j:Nat)) (b:=(A 1).B k j)
    rw [wrK_s g5 (by omega) hjl] at w1
    dsimp only at r1 w1
    (refine wx_Kf ?_;repeat' (first|with_reducible refine And.intro ?_ ?_|intro hsp))
    all_goals first|(exfalso;omega)|exact next_x (j+1) [] (by (try dsimp only);omega) (by first|omega|(dsimp only;omega)) rfl (by exact wkx_Kf)
   ·obtain rfl:j=64:=by omega
    rw [wrK_all g6]
    have hn:S.page k ((A 1).B k)=cpyN (A 1) (A 3) (k+1):=by rw [← hS];exact (if_pos hK).symm
    rw [hn]
    (refine wx_Kf ?_;repeat' (first|with_reducible refine And.intro ?_ ?_|intro hsp))
    all_goals first|(exfalso;omega)|exact next_x (k+1) [] (by (try dsimp only);omega) (by first|omega|(dsimp only;omega)) rfl (by exact wkx_Kf)
  ·have hn:cpyN (A 1) (A 3) (k+1)=cpyN (A 1) (A 3) k:=if_neg hK
   clear cc g4
   generalize (A 1).K k=kk at *
   (refine wx_Kf ?_;repeat' (first|with_reducible refine And.intro ?_ ?_|intro hsp))
   all_goals first|(exfalso;omega)|exact next_x (k+1) [] (by (try dsimp only);omega) (by first|omega|(dsimp only;omega)) rfl (by ((try dsimp only);rw [hn]);exact wkx_Kf)
 ·obtain rfl:k=8:=by omega
  (refine wx_Kf ?_;repeat' (first|with_reducible refine And.intro ?_ ?_|intro hsp))
  all_goals exact end_L rfl plain_none rfl rfl rfl rfl rfl
theorem l_copy20 {R1 R2:Nat→Nat→Option Int} (h1:SpR R1 (A 2)) (h2:SpR R2 (A 0)):LocL 112 [.int .i64 2,.int .i64 0] A (.tup []) (updA A 0 (cpyN (A 2) (A 0) 8)):=by
 have hcl:=l_clear (x:=0) (by decide) h2.good
 refine LocL.mk (loc_x hmix b112 rfl ?_) plain_i2 plain_none
 unfold c112
 unfold alN
 (refine wx_Kf ?_;repeat' (first|with_reducible refine And.intro ?_ ?_|intro hsp))
 (refine loop_x [0,1,2] (fun (k:Nat)=>[(6,.int .i64 (k:Nat))]) (fun (k:Nat)=>⟨[(0,.cells [.ptr 1 0,.ptr 2 0,.ptr 3 0,.ptr 4 0]),(1,.cells (cpyN (A 2) (A 0) k).a),(2,.cells (A 1).a),(3,.cells (A 2).a),(4,.cells (A 3).a)],5⟩) (fun (k:Nat)=>k≤8) (fun (k:Nat)=>8 - k) (0) [] rfl (fun _=>by first|exact Nat.zero_le _|(dsimp only;omega)) ?_ (by ((try (conv=>whnf));exact wkx_Kf)) ?_)
 ·exact Nat.zero_le _
 intro k hk
 by_cases hkl:k < 8
 ·obtain ⟨g1,g2,g3,g4⟩:=cp_facts h1 h2 hkl
  have ck:=p_kind (s:=A 2) (a:=(k:Nat))
  rw [kind_at (by omega) (h1.M k)] at ck
  have cc:=p_commit (a:=(k:Nat)) (n:=1) g1
  rw [show ((cpyN (A 2) (A 0) k).chg ((k:Nat):Int) 1 1 2 2).2=(cpyN (A 2) (A 0) k).com k from rfl] at cc
  by_cases hK:(A 2).K k=2
  ·obtain ⟨g5,g6⟩:=g4 hK
   rw [hK] at ck
   generalize hS:(cpyN (A 2) (A 0) k).com k=S at *
   (refine wx_Kf ?_;repeat' (first|with_reducible refine And.intro ?_ ?_|intro hsp))
   have hw0:=wrK_0 (s:=S) (f:=k) (x:=(A 2).B k)
   (refine loop_x [0,1,2,6] (fun (j:Nat)=>[(10,.int .i64 ((k:Int) * 64+(j:Nat)))]) (fun (j:Nat)=>⟨[(0,.cells [.ptr 1 0,.ptr 2 0,.ptr 3 0,.ptr 4 0]),(1,.cells (wrK S k ((A 2).B k) j).a),(2,.cells (A 1).a),(3,.cells (A 2).a),(4,.cells (A 3).a)],5⟩) (fun (j:Nat)=>j≤64) (fun (j:Nat)=>64 - j) (0) [] rfl (fun _=>by first|exact Nat.zero_le _|(dsimp only;omega)) ?_ (by ((try (conv=>whnf));(rw [hw0]);exact wkx_Kf)) ?_)
   ·exact Nat.zero_le _
   intro j hj
   by_cases hjl:j < 64
   ·have r1:=p_read (s:=A 2) (a:=(k:Int) * 64+(j:Nat))
    rw [read_at hK (by omega) hjl] at r1
    have w1:=p_write (s:=wrK S k ((A 2).B k) j) (a:=(k:Int) * 64+(j:Nat)) (b:=(A 2).B k j)
    rw [wrK_s g5 (by omega) hjl] at w1
    dsimp only at r1 w1
    (refine wx_Kf ?_;repeat' (first|with_reducible refine And.intro ?_ ?_|intro hsp))
    all_goals first|(exfalso;omega)|exact next_x (j+1) [] (by (try dsimp only);omega) (by first|omega|(dsimp only;omega)) rfl (by exact wkx_Kf)
   ·obtain rfl:j=64:=by omega
    rw [wrK_all g6]
    have hn:S.page k ((A 2).B k)=cpyN (A 2) (A 0) (k+1):=by rw [← hS];exact (if_pos hK).symm
    rw [hn]
    (refine wx_Kf ?_;repeat' (first|with_reducible refine And.intro ?_ ?_|intro hsp))
    all_goals first|(exfalso;omega)|exact next_x (k+1) [] (by (try dsimp only);omega) (by first|omega|(dsimp only;omega)) rfl (by exact wkx_Kf)
  ·have hn:cpyN (A 2) (A 0) (k+1)=cpyN (A 2) (A 0) k:=if_neg hK
   clear cc g4
   generalize (A 2).K k=kk at *
   (refine wx_Kf ?_;repeat' (first|with_reducible refine And.intro ?_ ?_|intro hsp))
   all_goals first|(exfalso;omega)|exact next_x (k+1) [] (by (try dsimp only);omega) (by first|omega|(dsimp only;omega)) rfl (by ((try dsimp only);rw [hn]);exact wkx_Kf)
 ·obtain rfl:k=8:=by omega
  (refine wx_Kf ?_;repeat' (first|with_reducible refine And.intro ?_ ?_|intro hsp))
  all_goals exact end_L rfl plain_none rfl rfl rfl rfl rfl
theorem l_copy21 {R1 R2:Nat→Nat→Option Int} (h1:SpR R1 (A 2)) (h2:SpR R2 (A 1)):LocL 112 [.int .i64 2,.int .i64 1] A (.tup []) (updA A 1 (cpyN (A 2) (A 1) 8)):=by
 have hcl:=l_clear (x:=1) (by decide) h2.good
 refine LocL.mk (loc_x hmix b112 rfl ?_) plain_i2 plain_none
 unfold c112
 unfold alN
 (refine wx_Kf ?_;repeat' (first|with_reducible refine And.intro ?_ ?_|intro hsp))
 (refine loop_x [0,1,2] (fun (k:Nat)=>[(6,.int .i64 (k:Nat))]) (fun (k:Nat)=>⟨[(0,.cells [.ptr 1 0,.ptr 2 0,.ptr 3 0,.ptr 4 0]),(1,.cells (A 0).a),(2,.cells (cpyN (A 2) (A 1) k).a),(3,.cells (A 2).a),(4,.cells (A 3).a)],5⟩) (fun (k:Nat)=>k≤8) (fun (k:Nat)=>8 - k) (0) [] rfl (fun _=>by first|exact Nat.zero_le _|(dsimp only;omega)) ?_ (by ((try (conv=>whnf));exact wkx_Kf)) ?_)
 ·exact Nat.zero_le _
 intro k hk
 by_cases hkl:k < 8
 ·obtain ⟨g1,g2,g3,g4⟩:=cp_facts h1 h2 hkl
  have ck:=p_kind (s:=A 2) (a:=(k:Nat))
  rw [kind_at (by omega) (h1.M k)] at ck
  have cc:=p_commit (a:=(k:Nat)) (n:=1) g1
  rw [show ((cpyN (A 2) (A 1) k).chg ((k:Nat):Int) 1 1 2 2).2=(cpyN (A 2) (A 1) k).com k from rfl] at cc
  by_cases hK:(A 2).K k=2
  ·obtain ⟨g5,g6⟩:=g4 hK
   rw [hK] at ck
   generalize hS:(cpyN (A 2) (A 1) k).com k=S at *
   (refine wx_Kf ?_;repeat' (first|with_reducible refine And.intro ?_ ?_|intro hsp))
   have hw0:=wrK_0 (s:=S) (f:=k) (x:=(A 2).B k)
   (refine loop_x [0,1,2,6] (fun (j:Nat)=>[(10,.int .i64 ((k:Int) * 64+(j:Nat)))]) (fun (j:Nat)=>⟨[(0,.cells [.ptr 1 0,.ptr 2 0,.ptr 3 0,.ptr 4 0]),(1,.cells (A 0).a),(2,.cells (wrK S k ((A 2).B k) j).a),(3,.cells (A 2).a),(4,.cells (A 3).a)],5⟩) (fun (j:Nat)=>j≤64) (fun (j:Nat)=>64 - j) (0) [] rfl (fun _=>by first|exact Nat.zero_le _|(dsimp only;omega)) ?_ (by ((try (conv=>whnf));(rw [hw0]);exact wkx_Kf)) ?_)
   ·exact Nat.zero_le _
   intro j hj
   by_cases hjl:j < 64
   ·have r1:=p_read (s:=A 2) (a:=(k:Int) * 64+(j:Nat))
    rw [read_at hK (by omega) hjl] at r1
    have w1:=p_write (s:=wrK S k ((A 2).B k) j) (a:=(k:Int) * 64+(j:Nat)) (b:=(A 2).B k j)
    rw [wrK_s g5 (by omega) hjl] at w1
    dsimp only at r1 w1
    (refine wx_Kf ?_;repeat' (first|with_reducible refine And.intro ?_ ?_|intro hsp))
    all_goals first|(exfalso;omega)|exact next_x (j+1) [] (by (try dsimp only);omega) (by first|omega|(dsimp only;omega)) rfl (by exact wkx_Kf)
   ·obtain rfl:j=64:=by omega
    rw [wrK_all g6]
    have hn:S.page k ((A 2).B k)=cpyN (A 2) (A 1) (k+1):=by rw [← hS];exact (if_pos hK).symm
    rw [hn]
    (refine wx_Kf ?_;repeat' (first|with_reducible refine And.intro ?_ ?_|intro hsp))
    all_goals first|(exfalso;omega)|exact next_x (k+1) [] (by (try dsimp only);omega) (by first|omega|(dsimp only;omega)) rfl (by exact wkx_Kf)
  ·have hn:cpyN (A 2) (A 1) (k+1)=cpyN (A 2) (A 1) k:=if_neg hK
   clear cc g4
   generalize (A 2).K k=kk at *
   (refine wx_Kf ?_;repeat' (first|with_reducible refine And.intro ?_ ?_|intro hsp))
   all_goals first|(exfalso;omega)|exact next_x (k+1) [] (by (try dsimp only);omega) (by first|omega|(dsimp only;omega)) rfl (by ((try dsimp only);rw [hn]);exact wkx_Kf)
 ·obtain rfl:k=8:=by omega
  (refine wx_Kf ?_;repeat' (first|with_reducible refine And.intro ?_ ?_|intro hsp))
  all_goals exact end_L rfl plain_none rfl rfl rfl rfl rfl
theorem l_copy23 {R1 R2:Nat→Nat→Option Int} (h1:SpR R1 (A 2)) (h2:SpR R2 (A 3)):LocL 112 [.int .i64 2,.int .i64 3] A (.tup []) (updA A 3 (cpyN (A 2) (A 3) 8)):=by
 have hcl:=l_clear (x:=3) (by decide) h2.good
 refine LocL.mk (loc_x hmix b112 rfl ?_) plain_i2 plain_none
 unfold c112
 unfold alN
 (refine wx_Kf ?_;repeat' (first|with_reducible refine And.intro ?_ ?_|intro hsp))
 (refine loop_x [0,1,2] (fun (k:Nat)=>[(6,.int .i64 (k:Nat))]) (fun (k:Nat)=>⟨[(0,.cells [.ptr 1 0,.ptr 2 0,.ptr 3 0,.ptr 4 0]),(1,.cells (A 0).a),(2,.cells (A 1).a),(3,.cells (A 2).a),(4,.cells (cpyN (A 2) (A 3) k).a)],5⟩) (fun (k:Nat)=>k≤8) (fun (k:Nat)=>8 - k) (0) [] rfl (fun _=>by first|exact Nat.zero_le _|(dsimp only;omega)) ?_ (by ((try (conv=>whnf));exact wkx_Kf)) ?_)
 ·exact Nat.zero_le _
 intro k hk
 by_cases hkl:k < 8
 ·obtain ⟨g1,g2,g3,g4⟩:=cp_facts h1 h2 hkl
  have ck:=p_kind (s:=A 2) (a:=(k:Nat))
  rw [kind_at (by omega) (h1.M k)] at ck
  have cc:=p_commit (a:=(k:Nat)) (n:=1) g1
  rw [show ((cpyN (A 2) (A 3) k).chg ((k:Nat):Int) 1 1 2 2).2=(cpyN (A 2) (A 3) k).com k from rfl] at cc
  by_cases hK:(A 2).K k=2
  ·obtain ⟨g5,g6⟩:=g4 hK
   rw [hK] at ck
   generalize hS:(cpyN (A 2) (A 3) k).com k=S at *
   (refine wx_Kf ?_;repeat' (first|with_reducible refine And.intro ?_ ?_|intro hsp))
   have hw0:=wrK_0 (s:=S) (f:=k) (x:=(A 2).B k)
   (refine loop_x [0,1,2,6] (fun (j:Nat)=>[(10,.int .i64 ((k:Int) * 64+(j:Nat)))]) (fun (j:Nat)=>⟨[(0,.cells [.ptr 1 0,.ptr 2 0,.ptr 3 0,.ptr 4 0]),(1,.cells (A 0).a),(2,.cells (A 1).a),(3,.cells (A 2).a),(4,.cells (wrK S k ((A 2).B k) j).a)],5⟩) (fun (j:Nat)=>j≤64) (fun (j:Nat)=>64 - j) (0) [] rfl (fun _=>by first|exact Nat.zero_le _|(dsimp only;omega)) ?_ (by ((try (conv=>whnf));(rw [hw0]);exact wkx_Kf)) ?_)
   ·exact Nat.zero_le _
   intro j hj
   by_cases hjl:j < 64
   ·have r1:=p_read (s:=A 2) (a:=(k:Int) * 64+(j:Nat))
    rw [read_at hK (by omega) hjl] at r1
    have w1:=p_write (s:=wrK S k ((A 2).B k) j) (a:=(k:Int) * 64+(j:Nat)) (b:=(A 2).B k j)
    rw [wrK_s g5 (by omega) hjl] at w1
    dsimp only at r1 w1
    (refine wx_Kf ?_;repeat' (first|with_reducible refine And.intro ?_ ?_|intro hsp))
    all_goals first|(exfalso;omega)|exact next_x (j+1) [] (by (try dsimp only);omega) (by first|omega|(dsimp only;omega)) rfl (by exact wkx_Kf)
   ·obtain rfl:j=64:=by omega
    rw [wrK_all g6]
    have hn:S.page k ((A 2).B k)=cpyN (A 2) (A 3) (k+1):=by rw [← hS];exact (if_pos hK).symm
    rw [hn]
    (refine wx_Kf ?_;repeat' (first|with_reducible refine And.intro ?_ ?_|intro hsp))
    all_goals first|(exfalso;omega)|exact next_x (k+1) [] (by (try dsimp only);omega) (by first|omega|(dsimp only;omega)) rfl (by exact wkx_Kf)
  ·have hn:cpyN (A 2) (A 3) (k+1)=cpyN (A 2) (A 3) k:=if_neg hK
   clear cc g4
   generalize (A 2).K k=kk at *
   (refine wx_Kf ?_;repeat' (first|with_reducible refine And.intro ?_ ?_|intro hsp))
   all_goals first|(exfalso;omega)|exact next_x (k+1) [] (by (try dsimp only);omega) (by first|omega|(dsimp only;omega)) rfl (by ((try dsimp only);rw [hn]);exact wkx_Kf)
 ·obtain rfl:k=8:=by omega
  (refine wx_Kf ?_;repeat' (first|with_reducible refine And.intro ?_ ?_|intro hsp))
  all_goals exact end_L rfl plain_none rfl rfl rfl rfl rfl
theorem l_copy30 {R1 R2:Nat→Nat→Option Int} (h1:SpR R1 (A 3)) (h2:SpR R2 (A 0)):LocL 112 [.int .i64 3,.int .i64 0] A (.tup []) (updA A 0 (cpyN (A 3) (A 0) 8)):=by
 have hcl:=l_clear (x:=0) (by decide) h2.good
 refine LocL.mk (loc_x hmix b112 rfl ?_) plain_i2 plain_none
 unfold c112
 unfold alN
 (refine wx_Kf ?_;repeat' (first|with_reducible refine And.intro ?_ ?_|intro hsp))
 (refine loop_x [0,1,2] (fun (k:Nat)=>[(6,.int .i64 (k:Nat))]) (fun (k:Nat)=>⟨[(0,.cells [.ptr 1 0,.ptr 2 0,.ptr 3 0,.ptr 4 0]),(1,.cells (cpyN (A 3) (A 0) k).a),(2,.cells (A 1).a),(3,.cells (A 2).a),(4,.cells (A 3).a)],5⟩) (fun (k:Nat)=>k≤8) (fun (k:Nat)=>8 - k) (0) [] rfl (fun _=>by first|exact Nat.zero_le _|(dsimp only;omega)) ?_ (by ((try (conv=>whnf));exact wkx_Kf)) ?_)
 ·exact Nat.zero_le _
 intro k hk
 by_cases hkl:k < 8
 ·obtain ⟨g1,g2,g3,g4⟩:=cp_facts h1 h2 hkl
  have ck:=p_kind (s:=A 3) (a:=(k:Nat))
  rw [kind_at (by omega) (h1.M k)] at ck
  have cc:=p_commit (a:=(k:Nat)) (n:=1) g1
  rw [show ((cpyN (A 3) (A 0) k).chg ((k:Nat):Int) 1 1 2 2).2=(cpyN (A 3) (A 0) k).com k from rfl] at cc
  by_cases hK:(A 3).K k=2
  ·obtain ⟨g5,g6⟩:=g4 hK
   rw [hK] at ck
   generalize hS:(cpyN (A 3) (A 0) k).com k=S at *
   (refine wx_Kf ?_;repeat' (first|with_reducible refine And.intro ?_ ?_|intro hsp))
   have hw0:=wrK_0 (s:=S) (f:=k) (x:=(A 3).B k)
   (refine loop_x [0,1,2,6] (fun (j:Nat)=>[(10,.int .i64 ((k:Int) * 64+(j:Nat)))]) (fun (j:Nat)=>⟨[(0,.cells [.ptr 1 0,.ptr 2 0,.ptr 3 0,.ptr 4 0]),(1,.cells (wrK S k ((A 3).B k) j).a),(2,.cells (A 1).a),(3,.cells (A 2).a),(4,.cells (A 3).a)],5⟩) (fun (j:Nat)=>j≤64) (fun (j:Nat)=>64 - j) (0) [] rfl (fun _=>by first|exact Nat.zero_le _|(dsimp only;omega)) ?_ (by ((try (conv=>whnf));(rw [hw0]);exact wkx_Kf)) ?_)
   ·exact Nat.zero_le _
   intro j hj
   by_cases hjl:j < 64
   ·have r1:=p_read (s:=A 3) (a:=(k:Int) * 64+(j:Nat))
    rw [read_at hK (by omega) hjl] at r1
    have w1:=p_write (s:=wrK S k ((A 3).B k) j) (a:=(k:Int) * 64+(j:Nat)) (b:=(A 3).B k j)
    rw [wrK_s g5 (by omega) hjl] at w1
    dsimp only at r1 w1
    (refine wx_Kf ?_;repeat' (first|with_reducible refine And.intro ?_ ?_|intro hsp))
    all_goals first|(exfalso;omega)|exact next_x (j+1) [] (by (try dsimp only);omega) (by first|omega|(dsimp only;omega)) rfl (by exact wkx_Kf)
   ·obtain rfl:j=64:=by omega
    rw [wrK_all g6]
    have hn:S.page k ((A 3).B k)=cpyN (A 3) (A 0) (k+1):=by rw [← hS];exact (if_pos hK).symm
    rw [hn]
    (refine wx_Kf ?_;repeat' (first|with_reducible refine And.intro ?_ ?_|intro hsp))
    all_goals first|(exfalso;omega)|exact next_x (k+1) [] (by (try dsimp only);omega) (by first|omega|(dsimp only;omega)) rfl (by exact wkx_Kf)
  ·have hn:cpyN (A 3) (A 0) (k+1)=cpyN (A 3) (A 0) k:=if_neg hK
   clear cc g4
   generalize (A 3).K k=kk at *
   (refine wx_Kf ?_;repeat' (first|with_reducible refine And.intro ?_ ?_|intro hsp))
   all_goals first|(exfalso;omega)|exact next_x (k+1) [] (by (try dsimp only);omega) (by first|omega|(dsimp only;omega)) rfl (by ((try dsimp only);rw [hn]);exact wkx_Kf)
 ·obtain rfl:k=8:=by omega
  (refine wx_Kf ?_;repeat' (first|with_reducible refine And.intro ?_ ?_|intro hsp))
  all_goals exact end_L rfl plain_none rfl rfl rfl rfl rfl
theorem l_copy31 {R1 R2:Nat→Nat→Option Int} (h1:SpR R1 (A 3)) (h2:SpR R2 (A 1)):LocL 112 [.int .i64 3,.int .i64 1] A (.tup []) (updA A 1 (cpyN (A 3) (A 1) 8)):=by
 have hcl:=l_clear (x:=1) (by decide) h2.good
 refine LocL.mk (loc_x hmix b112 rfl ?_) plain_i2 plain_none
 unfold c112
 unfold alN
 (refine wx_Kf ?_;repeat' (first|with_reducible refine And.intro ?_ ?_|intro hsp))
 (refine loop_x [0,1,2] (fun (k:Nat)=>[(6,.int .i64 (k:Nat))]) (fun (k:Nat)=>⟨[(0,.cells [.ptr 1 0,.ptr 2 0,.ptr 3 0,.ptr 4 0]),(1,.cells (A 0).a),(2,.cells (cpyN (A 3) (A 1) k).a),(3,.cells (A 2).a),(4,.cells (A 3).a)],5⟩) (fun (k:Nat)=>k≤8) (fun (k:Nat)=>8 - k) (0) [] rfl (fun _=>by first|exact Nat.zero_le _|(dsimp only;omega)) ?_ (by ((try (conv=>whnf));exact wkx_Kf)) ?_)
 ·exact Nat.zero_le _
 intro k hk
 by_cases hkl:k < 8
 ·obtain ⟨g1,g2,g3,g4⟩:=cp_facts h1 h2 hkl
  have ck:=p_kind (s:=A 3) (a:=(k:Nat))
  rw [kind_at (by omega) (h1.M k)] at ck
  have cc:=p_commit (a:=(k:Nat)) (n:=1) g1
  rw [show ((cpyN (A 3) (A 1) k).chg ((k:Nat):Int) 1 1 2 2).2=(cpyN (A 3) (A 1) k).com k from rfl] at cc
  by_cases hK:(A 3).K k=2
  ·obtain ⟨g5,g6⟩:=g4 hK
   rw [hK] at ck
   generalize hS:(cpyN (A 3) (A 1) k).com k=S at *
   (refine wx_Kf ?_;repeat' (first|with_reducible refine And.intro ?_ ?_|intro hsp))
   have hw0:=wrK_0 (s:=S) (f:=k) (x:=(A 3).B k)
   (refine loop_x [0,1,2,6] (fun (j:Nat)=>[(10,.int .i64 ((k:Int) * 64+(j:Nat)))]) (fun (j:Nat)=>⟨[(0,.cells [.ptr 1 0,.ptr 2 0,.ptr 3 0,.ptr 4 0]),(1,.cells (A 0).a),(2,.cells (wrK S k ((A 3).B k) j).a),(3,.cells (A 2).a),(4,.cells (A 3).a)],5⟩) (fun (j:Nat)=>j≤64) (fun (j:Nat)=>64 - j) (0) [] rfl (fun _=>by first|exact Nat.zero_le _|(dsimp only;omega)) ?_ (by ((try (conv=>whnf));(rw [hw0]);exact wkx_Kf)) ?_)
   ·exact Nat.zero_le _
   intro j hj
   by_cases hjl:j < 64
   ·have r1:=p_read (s:=A 3) (a:=(k:Int) * 64+(j:Nat))
    rw [read_at hK (by omega) hjl] at r1
    have w1:=p_write (s:=wrK S k ((A 3).B k) j) (a:=(k:Int) * 64+(j:Nat)) (b:=(A 3).B k j)
    rw [wrK_s g5 (by omega) hjl] at w1
    dsimp only at r1 w1
    (refine wx_Kf ?_;repeat' (first|with_reducible refine And.intro ?_ ?_|intro hsp))
    all_goals first|(exfalso;omega)|exact next_x (j+1) [] (by (try dsimp only);omega) (by first|omega|(dsimp only;omega)) rfl (by exact wkx_Kf)
   ·obtain rfl:j=64:=by omega
    rw [wrK_all g6]
    have hn:S.page k ((A 3).B k)=cpyN (A 3) (A 1) (k+1):=by rw [← hS];exact (if_pos hK).symm
    rw [hn]
    (refine wx_Kf ?_;repeat' (first|with_reducible refine And.intro ?_ ?_|intro hsp))
    all_goals first|(exfalso;omega)|exact next_x (k+1) [] (by (try dsimp only);omega) (by first|omega|(dsimp only;omega)) rfl (by exact wkx_Kf)
  ·have hn:cpyN (A 3) (A 1) (k+1)=cpyN (A 3) (A 1) k:=if_neg hK
   clear cc g4
   generalize (A 3).K k=kk at *
   (refine wx_Kf ?_;repeat' (first|with_reducible refine And.intro ?_ ?_|intro hsp))
   all_goals first|(exfalso;omega)|exact next_x (k+1) [] (by (try dsimp only);omega) (by first|omega|(dsimp only;omega)) rfl (by ((try dsimp only);rw [hn]);exact wkx_Kf)
 ·obtain rfl:k=8:=by omega
  (refine wx_Kf ?_;repeat' (first|with_reducible refine And.intro ?_ ?_|intro hsp))
  all_goals exact end_L rfl plain_none rfl rfl rfl rfl rfl
theorem l_copy32 {R1 R2:Nat→Nat→Option Int} (h1:SpR R1 (A 3)) (h2:SpR R2 (A 2)):LocL 112 [.int .i64 3,.int .i64 2] A (.tup []) (updA A 2 (cpyN (A 3) (A 2) 8)):=by
 have hcl:=l_clear (x:=2) (by decide) h2.good
 refine LocL.mk (loc_x hmix b112 rfl ?_) plain_i2 plain_none
 unfold c112
 unfold alN
 (refine wx_Kf ?_;repeat' (first|with_reducible refine And.intro ?_ ?_|intro hsp))
 (refine loop_x [0,1,2] (fun (k:Nat)=>[(6,.int .i64 (k:Nat))]) (fun (k:Nat)=>⟨[(0,.cells [.ptr 1 0,.ptr 2 0,.ptr 3 0,.ptr 4 0]),(1,.cells (A 0).a),(2,.cells (A 1).a),(3,.cells (cpyN (A 3) (A 2) k).a),(4,.cells (A 3).a)],5⟩) (fun (k:Nat)=>k≤8) (fun (k:Nat)=>8 - k) (0) [] rfl (fun _=>by first|exact Nat.zero_le _|(dsimp only;omega)) ?_ (by ((try (conv=>whnf));exact wkx_Kf)) ?_)
 ·exact Nat.zero_le _
 intro k hk
 by_cases hkl:k < 8
 ·obtain ⟨g1,g2,g3,g4⟩:=cp_facts h1 h2 hkl
  have ck:=p_kind (s:=A 3) (a:=(k:Nat))
  rw [kind_at (by omega) (h1.M k)] at ck
  have cc:=p_commit (a:=(k:Nat)) (n:=1) g1
  rw [show ((cpyN (A 3) (A 2) k).chg ((k:Nat):Int) 1 1 2 2).2=(cpyN (A 3) (A 2) k).com k from rfl] at cc
  by_cases hK:(A 3).K k=2
  ·obtain ⟨g5,g6⟩:=g4 hK
   rw [hK] at ck
   generalize hS:(cpyN (A 3) (A 2) k).com k=S at *
   (refine wx_Kf ?_;repeat' (first|with_reducible refine And.intro ?_ ?_|intro hsp))
   have hw0:=wrK_0 (s:=S) (f:=k) (x:=(A 3).B k)
   (refine loop_x [0,1,2,6] (fun (j:Nat)=>[(10,.int .i64 ((k:Int) * 64+(j:Nat)))]) (fun (j:Nat)=>⟨[(0,.cells [.ptr 1 0,.ptr 2 0,.ptr 3 0,.ptr 4 0]),(1,.cells (A 0).a),(2,.cells (A 1).a),(3,.cells (wrK S k ((A 3).B k) j).a),(4,.cells (A 3).a)],5⟩) (fun (j:Nat)=>j≤64) (fun (j:Nat)=>64 - j) (0) [] rfl (fun _=>by first|exact Nat.zero_le _|(dsimp only;omega)) ?_ (by ((try (conv=>whnf));(rw [hw0]);exact wkx_Kf)) ?_)
   ·exact Nat.zero_le _
   intro j hj
   by_cases hjl:j < 64
   ·have r1:=p_read (s:=A 3) (a:=(k:Int) * 64+(j:Nat))
    rw [read_at hK (by omega) hjl] at r1
    have w1:=p_write (s:=wrK S k ((A 3).B k) j) (a:=(k:Int) * 64+(j:Nat)) (b:=(A 3).B k j)
    rw [wrK_s g5 (by omega) hjl] at w1
    dsimp only at r1 w1
    (refine wx_Kf ?_;repeat' (first|with_reducible refine And.intro ?_ ?_|intro hsp))
    all_goals first|(exfalso;omega)|exact next_x (j+1) [] (by (try dsimp only);omega) (by first|omega|(dsimp only;omega)) rfl (by exact wkx_Kf)
   ·obtain rfl:j=64:=by omega
    rw [wrK_all g6]
    have hn:S.page k ((A 3).B k)=cpyN (A 3) (A 2) (k+1):=by rw [← hS];exact (if_pos hK).symm
    rw [hn]
    (refine wx_Kf ?_;repeat' (first|with_reducible refine And.intro ?_ ?_|intro hsp))
    all_goals first|(exfalso;omega)|exact next_x (k+1) [] (by (try dsimp only);omega) (by first|omega|(dsimp only;omega)) rfl (by exact wkx_Kf)
  ·have hn:cpyN (A 3) (A 2) (k+1)=cpyN (A 3) (A 2) k:=if_neg hK
   clear cc g4
   generalize (A 3).K k=kk at *
   (refine wx_Kf ?_;repeat' (first|with_reducible refine And.intro ?_ ?_|intro hsp))
   all_goals first|(exfalso;omega)|exact next_x (k+1) [] (by (try dsimp only);omega) (by first|omega|(dsimp only;omega)) rfl (by ((try dsimp only);rw [hn]);exact wkx_Kf)
 ·obtain rfl:k=8:=by omega
  (refine wx_Kf ?_;repeat' (first|with_reducible refine And.intro ?_ ?_|intro hsp))
  all_goals exact end_L rfl plain_none rfl rfl rfl rfl rfl
end
end Go.Proofs.YtphggldkligldaaGreat.Sh
namespace Go.Pol
open Go.Am
def S8:Sy:=((Sy.new []).chg 0 8 0 1 0).2
set_option maxRecDepth 100000 in
theorem s8_ok:((Sy.new []).chg 0 8 0 1 0).1=0:=by decide +kernel
def begN (s:Sy):Nat→List (Nat × AObj)
 | 0=>[(0,.cells [.nilp,.nilp,.nilp,.nilp])]
 | 1=>[(0,.cells [.ptr 1 0,.nilp,.nilp,.nilp]),(1,.cells s.a)]
 | 2=>[(0,.cells [.ptr 1 0,.ptr 2 0,.nilp,.nilp]),(1,.cells s.a),(2,.cells s.a)]
 | 3=>[(0,.cells [.ptr 1 0,.ptr 2 0,.ptr 3 0,.nilp]),(1,.cells s.a),(2,.cells s.a),(3,.cells s.a)]
 | _=>[(0,.cells [.ptr 1 0,.ptr 2 0,.ptr 3 0,.ptr 4 0]),(1,.cells s.a),(2,.cells s.a),(3,.cells s.a),(4,.cells s.a)]
theorem tmn (a n:Nat):((a:Nat):Int).tmod (n:Nat)=((a % n:Nat):Int):=by
 rw [Int.tmod_eq_emod_of_nonneg (Int.natCast_nonneg a)];omega
theorem cntK_1k {K:Nat→Int} {v:Int}:cntK K v 1024≤1024:=by
 rw [cntK_len];exact Nat.le_trans (List.length_filter_le ..) (by rw [List.length_range];exact Nat.le_refl _)
end Go.Pol
namespace Go.Proofs.YtphggldkligldaaGreat.Sh
open Go Go.Am Go.Pol
theorem wx_Kg {p q:Prop} (hq:q) (h:HidP q→p:=by (intro hQz;((repeat' ((try (conv=>whnf));first|(with_reducible first|refine run_cons ?_|refine runq_cons ?_|refine code_seq ?_|refine code_reg ?_|refine code_cond ?_|refine run_nil ?_|refine runq_nil ?_|refine rund_op rfl ?_|refine rund_nil ?_|refine code_block ?_|refine code_skip ?_|refine code_exit ?_|refine code_ret ?_|refine code_range ?_|refine rund_fast (by decide +kernel) ?_|refine rund_slow (by decide +kernel) ?_|refine br_tt ?_|refine br_ff ?_|refine br_n ?_|refine br_and ?_|refine br_or ?_|refine br_t (by assumption) ?_|refine br_f (by assumption) ?_|refine eq_i64 (by omega) ?_|refine el_tn ?_)|((with_reducible refine br_dt ?_ ?_);focus omega)|((with_reducible refine br_df ?_ ?_);focus omega)|((with_reducible apply br_dq hQz)<;>(try intro hsp hQz))|((with_reducible refine ck_x ?_ ?_);focus (first|omega|rfl|assumption|decide|(simp only [List.length_map,List.length_cons,List.length_nil];omega)))|(with_reducible first|refine eq_tn ?_|refine eq_tn1 ?_|refine eq_tn2 ?_|refine eq_m1 ?_|refine eq_m2 ?_|refine eq_zm ?_|refine eq_z ?_|refine len_map ?_|refine len_sl ?_|refine len_nils ?_|refine len_own' ?_|refine len_isl ?_|refine eq_u8 (by omega) ?_|refine eq_u16 (by omega) ?_)|(with_reducible first|refine eq_rfl ?_|refine ChkX.mk (by kernel_rfl) ?_|refine code_q rfl ?_|refine code_d (by decide +kernel) ?_|refine end_go rfl ?_)|refine cx_locN hn ?_|refine cx_locS hr rfl (by decide) ?_|refine cx_locS c0 rfl (by decide) ?_|refine cx_locS c1 rfl (by decide) ?_|refine cx_locS c2 rfl (by decide) ?_|refine cx_locS c3 rfl (by decide) ?_|refine len_map ?_|refine len_isl ?_|refine el_of rfl rfl ?_|refine del_own ?_|refine del_own' rfl ?_|refine as_go rfl ?_|refine rd_go rfl ?_|refine rg_end rfl ?_|refine flat_ownX ?_|refine EqLX.mk ?_|((with_reducible apply br_bq hQz)<;>(try intro hsp hQz))|exact hQz.out))<;>(try (conv=>whnf))))):p:=h ⟨hq⟩
structure LocLN (f:Nat) (A:Nat→Sy):Prop where
 out:LocC Tryz.prog G0 f [] [] 0 fun x h1=>x = .ptr 0 0∧h1=⟨alN A 0 1 2 3 4,5⟩
theorem cx_LN {f:Nat} {A:Nat→Sy} {nx:Nat} {l:List (Nat × AObj)} {K:AV→Hp→Prop} (hc:LocLN f A)
  (hk:K (.ptr nx 0) ⟨([(nx,.cells [.ptr (nx+1) 0,.ptr (nx+2) 0,.ptr (nx+3) 0,.ptr (nx+4) 0]),(nx+1,.cells (A 0).a),(nx+2,.cells (A 1).a),(nx+3,.cells (A 2).a),(nx+4,.cells (A 3).a)]:List (Nat × AObj))++l,nx+5⟩):CallX Tryz.prog G0 (.fn f [] []) [] ⟨l,nx⟩ K:=by
 have k0:back [] nx 0 nx:=rfl
 have k1:back [] nx 1 (nx+1):=rfl
 have k2:back [] nx 2 (nx+2):=rfl
 have k3:back [] nx 3 (nx+3):=rfl
 have k4:back [] nx 4 (nx+4):=rfl
 exact cx_loc (r':=.ptr nx 0) (l1:=alN A nx (nx+1) (nx+2) (nx+3) (nx+4)) [] hc.out plainG rfl .nil trivial (by simp) (rn_ptr k0)
  (.cons k0 ⟨rn_ptr k1,rn_ptr k2,rn_ptr k3,rn_ptr k4,trivial⟩ (.cons k1 (rnl_plain a_plain) (.cons k2 (rnl_plain a_plain) (.cons k3 (rnl_plain a_plain) (.cons k4 (rnl_plain a_plain) .nil))))) (filtK_nil hk)
theorem l_begin:LocLN 44 fun _=>S8:=by
 have hn:=n_new
 have hr:=p_reserve (s:=Sy.new []) (a:=0) (n:=8) (good_new (l:=[]) (by decide))
 rw [s8_ok,show ((Sy.new []).chg 0 8 0 1 0).2=S8 from rfl] at hr
 refine LocLN.mk (loc_x hmix b44 rfl ?_)
 unfold c44
 generalize S8=s at *
 generalize Sy.new []=s0 at *
 (refine wx_Kg ?_;repeat' (first|with_reducible refine And.intro ?_ ?_|intro hsp))
 (refine loop_x [1] (fun (i:Nat)=>[(2,.int .i64 (i:Nat))]) (fun (i:Nat)=>⟨begN s i,(1+i)⟩) (fun (i:Nat)=>i≤4) (fun (i:Nat)=>4 - i) (0) [] rfl (fun _=>by first|exact Nat.zero_le _|(dsimp only;omega)) ?_ (by ((try (conv=>whnf));exact wkx_Kf)) ?_)
 ·exact Nat.zero_le _
 intro i hi
 rcases (show i=0∨i=1∨i=2∨i=3∨i=4 by omega) with rfl|rfl|rfl|rfl|rfl
 ·(refine wx_Kg ?_;repeat' (first|with_reducible refine And.intro ?_ ?_|intro hsp))
  all_goals exact next_x 1 [] (by (try dsimp only);omega) (by first|omega|(dsimp only;omega)) rfl (by exact wkx_Kf)
 ·(refine wx_Kg ?_;repeat' (first|with_reducible refine And.intro ?_ ?_|intro hsp))
  all_goals exact next_x 2 [] (by (try dsimp only);omega) (by first|omega|(dsimp only;omega)) rfl (by exact wkx_Kf)
 ·(refine wx_Kg ?_;repeat' (first|with_reducible refine And.intro ?_ ?_|intro hsp))
  all_goals exact next_x 3 [] (by (try dsimp only);omega) (by first|omega|(dsimp only;omega)) rfl (by exact wkx_Kf)
 ·(refine wx_Kg ?_;repeat' (first|with_reducible refine And.intro ?_ ?_|intro hsp))
  all_goals exact next_x 4 [] (by (try dsimp only);omega) (by first|omega|(dsimp only;omega)) rfl (by exact wkx_Kf)
 ·(refine wx_Kg ?_;repeat' (first|with_reducible refine And.intro ?_ ?_|intro hsp))
  all_goals exact end_LW (A:=fun _=>s) (fun hs=>wk_ptr rfl (show 0 < 5 by decide)) rfl rfl rfl rfl rfl
section
variable {A:Nat→Sy}
theorem l_pages (hg:∀ i,i < 4→GoodS (A i)):LocL 47 [] A (.int .i64 (sumN (fun a=>cntK (A a).K 2 1024) 4:Nat)) A:=by
 have hc:=fun i hi=>p_counts (hg i hi)
 refine LocL.mk (loc_x hmix b47 rfl ?_) (fun x hx=>by cases hx) plain_int
 unfold c47
 have hs0:sumN (fun a=>cntK (A a).K 2 1024) 0=0:=rfl
 have hss:∀ i,sumN (fun a=>cntK (A a).K 2 1024) (i+1)=sumN (fun a=>cntK (A a).K 2 1024) i+cntK (A i).K 2 1024:=fun i=>rfl
 generalize hF:sumN (fun a=>cntK (A a).K 2 1024)=F at *
 have hs1:F 1=F 0+cntK (A 0).K 2 1024:=hss 0
 have hs2:F 2=F 1+cntK (A 1).K 2 1024:=hss 1
 have hs3:F 3=F 2+cntK (A 2).K 2 1024:=hss 2
 have hs4:F 4=F 3+cntK (A 3).K 2 1024:=hss 3
 have b0:=cntK_1k (K:=(A 0).K) (v:=2)
 have b1:=cntK_1k (K:=(A 1).K) (v:=2)
 have b2:=cntK_1k (K:=(A 2).K) (v:=2)
 have b3:=cntK_1k (K:=(A 3).K) (v:=2)
 have c0:=hc 0 (by decide)
 have c1:=hc 1 (by decide)
 have c2:=hc 2 (by decide)
 have c3:=hc 3 (by decide)
 clear hc hss hF
 unfold Sy.counts at c0 c1 c2 c3
 unfold alN
 (refine wx_Kg ?_;repeat' (first|with_reducible refine And.intro ?_ ?_|intro hsp))
 (refine loop_x [0] (fun (i:Nat)=>[(3,.int .i64 (F i:Nat)),(4,.int .i64 (i:Nat))]) (fun (i:Nat)=>⟨alN A 0 1 2 3 4,5⟩) (fun (i:Nat)=>i≤4) (fun (i:Nat)=>4 - i) (0) [] rfl (fun _=>by first|exact Nat.zero_le _|(dsimp only;omega)) ?_ (by ((try (conv=>whnf));(rw [hs0]);exact wkx_Kf)) ?_)
 ·exact Nat.zero_le _
 intro i hi
 unfold alN
 rcases (show i=0∨i=1∨i=2∨i=3∨i=4 by omega) with rfl|rfl|rfl|rfl|rfl
 ·(refine wx_Kg ?_;repeat' (first|with_reducible refine And.intro ?_ ?_|intro hsp))
  all_goals exact next_x 1 [] (by (try dsimp only);omega) (by first|omega|(dsimp only;omega)) rfl (by exact wkx_Kf)
 ·(refine wx_Kg ?_;repeat' (first|with_reducible refine And.intro ?_ ?_|intro hsp))
  all_goals exact next_x 2 [] (by (try dsimp only);omega) (by first|omega|(dsimp only;omega)) rfl (by exact wkx_Kf)
 ·(refine wx_Kg ?_;repeat' (first|with_reducible refine And.intro ?_ ?_|intro hsp))
  all_goals exact next_x 3 [] (by (try dsimp only);omega) (by first|omega|(dsimp only;omega)) rfl (by exact wkx_Kf)
 ·(refine wx_Kg ?_;repeat' (first|with_reducible refine And.intro ?_ ?_|intro hsp))
  all_goals exact next_x 4 [] (by (try dsimp only);omega) (by first|omega|(dsimp only;omega)) rfl (by exact wkx_Kf)
 ·(refine wx_Kg ?_;repeat' (first|with_reducible refine And.intro ?_ ?_|intro hsp))
  all_goals exact end_L rfl plain_int rfl rfl rfl rfl rfl
end
end Go.Proofs.YtphggldkligldaaGreat.Sh
namespace Go.Proofs.YtphggldkligldaaGreat.Sh
open Go Go.Am Go.Pol
theorem wx_Kh {p q:Prop} (hq:q) (h:HidP q→p:=by (intro hQz;((repeat' ((try (conv=>whnf));first|(with_reducible first|refine run_cons ?_|refine runq_cons ?_|refine code_seq ?_|refine code_reg ?_|refine code_cond ?_|refine run_nil ?_|refine runq_nil ?_|refine rund_op rfl ?_|refine rund_nil ?_|refine code_block ?_|refine code_skip ?_|refine code_exit ?_|refine code_ret ?_|refine code_range ?_|refine rund_fast (by decide +kernel) ?_|refine rund_slow (by decide +kernel) ?_|refine br_tt ?_|refine br_ff ?_|refine br_n ?_|refine br_and ?_|refine br_or ?_|refine br_t (by assumption) ?_|refine br_f (by assumption) ?_|refine eq_i64 (by omega) ?_|refine el_tn ?_)|((with_reducible refine br_dt ?_ ?_);focus omega)|((with_reducible refine br_df ?_ ?_);focus omega)|((with_reducible apply br_dq hQz)<;>(try intro hsp hQz))|((with_reducible refine ck_x ?_ ?_);focus (first|omega|rfl|assumption|decide|(simp only [List.length_map,List.length_cons,List.length_nil];omega)))|(with_reducible first|refine eq_tn ?_|refine eq_tn1 ?_|refine eq_tn2 ?_|refine eq_m1 ?_|refine eq_m2 ?_|refine eq_zm ?_|refine eq_z ?_|refine len_map ?_|refine len_sl ?_|refine len_nils ?_|refine len_own' ?_|refine len_isl ?_|refine eq_u8 (by omega) ?_|refine eq_u16 (by omega) ?_)|refine eq_of (by with_reducible assumption) ?_|(with_reducible first|refine eq_rfl ?_|refine ChkX.mk (by kernel_rfl) ?_|refine code_q rfl ?_|refine code_d (by decide +kernel) ?_|refine end_go rfl ?_)|refine cx_b0 c1 rfl rfl rfl rfl rfl rfl rfl rfl (by decide) rfl ?_|refine cx_locS c2 rfl (by decide) ?_|refine len_map ?_|refine len_isl ?_|refine el_of rfl rfl ?_|refine del_own ?_|refine del_own' rfl ?_|refine as_go rfl ?_|refine rd_go rfl ?_|refine rg_end rfl ?_|refine flat_ownX ?_|refine EqLX.mk ?_|((with_reducible apply br_bq hQz)<;>(try intro hsp hQz))|exact hQz.out))<;>(try (conv=>whnf))))):p:=h ⟨hq⟩
def tcN (q:Bk) (t:TS) (A:Nat→Sy) (o i a b c d e g z u v w x:Nat):List (Nat × AObj):=(z,.cells [.ptr u 0,.ptr v 0,.ptr w 0,.ptr x 0])::(u,.cells (A 0).a)::(v,.cells (A 1).a)::(w,.cells (A 2).a)::(x,.cells (A 3).a)::bkN q t o i a b c d e g
theorem lk_c {l:List (Nat × AObj)} {a i:Nat} {x:AObj}:lk ((a,x)::l) i=if i=a then some x else lk l i:=rfl
structure LocR (f:Nat) (avs:List AV) (q:Bk) (t:TS) (A:Nat→Sy) (r:AV) (q':Bk) (t':TS) (A':Nat→Sy):Prop where
 out:LocC Tryz.prog G0 f (.ptr 8 0 :: .ptr 0 0::avs) (tcN q t A 0 1 2 3 4 5 6 7 8 9 10 11 12) 13 fun x h1=>x=r∧h1=⟨tcN q' t' A' 0 1 2 3 4 5 6 7 8 9 10 11 12,13⟩
 pa:∀ x ∈ avs,Plain x
 pr:Plain r
theorem end_R {top:Bool} {h:Hp} {N0:Nat} {y r:AV} {q:Bk} {t:TS} {A:Nat→Sy} (hx:y=r) (hp:Plain r) (z0:lk h.l 8=some (.cells [.ptr 9 0,.ptr 10 0,.ptr 11 0,.ptr 12 0])) (z1:lk h.l 9=some (.cells (A 0).a)) (z2:lk h.l 10=some (.cells (A 1).a)) (z3:lk h.l 11=some (.cells (A 2).a)) (z4:lk h.l 12=some (.cells (A 3).a)) (g0:lk h.l 0=some (.cells [.ptr 1 0])) (g1:lk h.l 1=some (.cells [.ptr 2 0,.ptr 7 0,.int .i64 (q.a:Nat),.int .i64 (q.n:Nat)])) (h0:lk h.l 2=some (.cells (tabC 3 6 t.C))) (h1:lk h.l 3=some (.cells [.sl 4 0 t.n t.n 7,.sl 5 0 t.m t.m 3,.int .i64 (t.S.fr:Nat)])) (h2:lk h.l 4=some (.cells (cellsB t.n t.V t.W t.V3 t.V4 t.S.L t.S.N t.S.P))) (h3:lk h.l 5=some (.cells (endsB t.m t.S.A t.S.B t.S.C))) (h4:lk h.l 6=some (.maps (t.E.map keyE))) (h5:lk h.l 7=some (.cells q.s.a)) (hN0:N0≤13:=by decide) :
  EndX top Tryz.prog N0 h y (fun r' h'=>r'=r∧h'=⟨tcN q t A 0 1 2 3 4 5 6 7 8 9 10 11 12,13⟩):=by
 subst hx
 have hs:SubH (rn []) h ⟨tcN q t A 0 1 2 3 4 5 6 7 8 9 10 11 12,13⟩:=fun j o hi=>by
  show ∃ o',lk h.l j=some o'
  unfold tcN bkN rdN at hi
  rw [lk_c] at hi
  split at hi
  ·rename_i e;subst e;exact ⟨_,z0⟩
  rw [lk_c] at hi
  split at hi
  ·rename_i e;subst e;exact ⟨_,z1⟩
  rw [lk_c] at hi
  split at hi
  ·rename_i e;subst e;exact ⟨_,z2⟩
  rw [lk_c] at hi
  split at hi
  ·rename_i e;subst e;exact ⟨_,z3⟩
  rw [lk_c] at hi
  split at hi
  ·rename_i e;subst e;exact ⟨_,z4⟩
  rw [lk_c] at hi
  split at hi
  ·rename_i e;subst e;exact ⟨_,g0⟩
  rw [lk_c] at hi
  split at hi
  ·rename_i e;subst e;exact ⟨_,g1⟩
  rw [lk_c] at hi
  split at hi
  ·rename_i e;subst e;exact ⟨_,h0⟩
  rw [lk_c] at hi
  split at hi
  ·rename_i e;subst e;exact ⟨_,h1⟩
  rw [lk_c] at hi
  split at hi
  ·rename_i e;subst e;exact ⟨_,h2⟩
  rw [lk_c] at hi
  split at hi
  ·rename_i e;subst e;exact ⟨_,h3⟩
  rw [lk_c] at hi
  split at hi
  ·rename_i e;subst e;exact ⟨_,h4⟩
  rw [lk_c] at hi
  split at hi
  ·rename_i e;subst e;exact ⟨_,h5⟩
  cases hi
 refine end_loc [] rfl hN0 (oneOf_of rfl) (wk_plain hs hp) ?_ ⟨rfl,rfl⟩
 exact wko_cells (show 8 < 13 by decide) z0 (wkl_cons (wk_ptr (i:=9) rfl (show 9 < 13 by decide)) (wkl_cons (wk_ptr (i:=10) rfl (show 10 < 13 by decide)) (wkl_cons (wk_ptr (i:=11) rfl (show 11 < 13 by decide)) (wkl_cons (wk_ptr (i:=12) rfl (show 12 < 13 by decide)) wkl_nil))))
  (wko_plain hs (show 9 < 13 by decide) z1 rfl a_plain (wko_plain hs (show 10 < 13 by decide) z2 rfl a_plain (wko_plain hs (show 11 < 13 by decide) z3 rfl a_plain (wko_plain hs (show 12 < 13 by decide) z4 rfl a_plain
  (wko_cells (show 0 < 13 by decide) g0 (wkl_cons (wk_ptr (i:=1) rfl (show 1 < 13 by decide)) wkl_nil)
  (wko_cells (show 1 < 13 by decide) g1 (wkl_cons (wk_ptr (i:=2) rfl (show 2 < 13 by decide)) (wkl_cons (wk_ptr (i:=7) rfl (show 7 < 13 by decide)) (wkl_cons (wk_int rfl) (wkl_cons (wk_int rfl) wkl_nil))))
  (wko_tab hs (show 2 < 13 by decide) h0 rfl (show 3 < 13 by decide) rfl (show 6 < 13 by decide)
  (wko_cells (show 3 < 13 by decide) h1 (wkl_cons (wk_sl rfl (show 4 < 13 by decide) rfl (Nat.le_refl _) (Nat.le_refl _)) (wkl_cons (wk_sl rfl (show 5 < 13 by decide) rfl (Nat.le_refl _) (Nat.le_refl _)) (wkl_cons (wk_int rfl) wkl_nil)))
  (wko_plain hs (show 4 < 13 by decide) h2 rfl cells_plain (wko_plain hs (show 5 < 13 by decide) h3 rfl ends_plain (wko_maps hs (show 6 < 13 by decide) h4 rfl key_plain (wko_plain hs (show 7 < 13 by decide) h5 rfl a_plain wko_nil))))))))))))
theorem cx_R {f:Nat} {avs:List AV} {q q':Bk} {t t':TS} {A A':Nat→Sy} {r:AV} {o i a b c d e g z u v w x nx:Nat} {l:List (Nat × AObj)} {K:AV→Hp→Prop} (hc:LocR f avs q t A r q' t' A')
  (z0:lk l z=some (.cells [.ptr u 0,.ptr v 0,.ptr w 0,.ptr x 0])) (z1:lk l u=some (.cells (A 0).a)) (z2:lk l v=some (.cells (A 1).a)) (z3:lk l w=some (.cells (A 2).a)) (z4:lk l x=some (.cells (A 3).a))
  (g0:lk l o=some (.cells [.ptr i 0])) (g1:lk l i=some (.cells [.ptr a 0,.ptr g 0,.int .i64 (q.a:Nat),.int .i64 (q.n:Nat)])) (h0:lk l a=some (.cells (tabC b e t.C))) (h1:lk l b=some (.cells [.sl c 0 t.n t.n 7,.sl d 0 t.m t.m 3,.int .i64 (t.S.fr:Nat)])) (h2:lk l c=some (.cells (cellsB t.n t.V t.W t.V3 t.V4 t.S.L t.S.N t.S.P))) (h3:lk l d=some (.cells (endsB t.m t.S.A t.S.B t.S.C))) (h4:lk l e=some (.maps (t.E.map keyE))) (h5:lk l g=some (.cells q.s.a))
  (hlt:(o < nx∧i < nx∧a < nx∧b < nx∧c < nx∧d < nx∧e < nx∧g < nx)∧z < nx∧u < nx∧v < nx∧w < nx∧x < nx) (hd:nodB [o,i,a,b,c,d,e,g,z,u,v,w,x]=true)
  (hk:filtK [o,i,a,b,c,d,e,g,z,u,v,w,x] l fun l2=>K r ⟨([(z,.cells [.ptr u 0,.ptr v 0,.ptr w 0,.ptr x 0]),(u,.cells (A' 0).a),(v,.cells (A' 1).a),(w,.cells (A' 2).a),(x,.cells (A' 3).a),(o,.cells [.ptr i 0]),(i,.cells [.ptr a 0,.ptr g 0,.int .i64 (q'.a:Nat),.int .i64 (q'.n:Nat)]),(a,.cells (tabC b e t'.C)),(b,.cells [.sl c 0 t'.n t'.n 7,.sl d 0 t'.m t'.m 3,.int .i64 (t'.S.fr:Nat)]),(c,.cells (cellsB t'.n t'.V t'.W t'.V3 t'.V4 t'.S.L t'.S.N t'.S.P)),(d,.cells (endsB t'.m t'.S.A t'.S.B t'.S.C)),(e,.maps (t'.E.map keyE)),(g,.cells q'.s.a)]:List (Nat × AObj))++l2,nx⟩):CallX Tryz.prog G0 (.fn f [] []) (.ptr z 0 :: .ptr o 0::avs) ⟨l,nx⟩ K:=by
 have e0:enter [o,i,a,b,c,d,e,g,z,u,v,w,x] o 0:=rfl
 have e1:enter [o,i,a,b,c,d,e,g,z,u,v,w,x] i 1:=rfl
 have e2:enter [o,i,a,b,c,d,e,g,z,u,v,w,x] a 2:=rfl
 have e3:enter [o,i,a,b,c,d,e,g,z,u,v,w,x] b 3:=rfl
 have e4:enter [o,i,a,b,c,d,e,g,z,u,v,w,x] c 4:=rfl
 have e5:enter [o,i,a,b,c,d,e,g,z,u,v,w,x] d 5:=rfl
 have e6:enter [o,i,a,b,c,d,e,g,z,u,v,w,x] e 6:=rfl
 have e7:enter [o,i,a,b,c,d,e,g,z,u,v,w,x] g 7:=rfl
 have e8:enter [o,i,a,b,c,d,e,g,z,u,v,w,x] z 8:=rfl
 have e9:enter [o,i,a,b,c,d,e,g,z,u,v,w,x] u 9:=rfl
 have e10:enter [o,i,a,b,c,d,e,g,z,u,v,w,x] v 10:=rfl
 have e11:enter [o,i,a,b,c,d,e,g,z,u,v,w,x] w 11:=rfl
 have e12:enter [o,i,a,b,c,d,e,g,z,u,v,w,x] x 12:=rfl
 have k0:back [o,i,a,b,c,d,e,g,z,u,v,w,x] nx 0 o:=rfl
 have k1:back [o,i,a,b,c,d,e,g,z,u,v,w,x] nx 1 i:=rfl
 have k2:back [o,i,a,b,c,d,e,g,z,u,v,w,x] nx 2 a:=rfl
 have k3:back [o,i,a,b,c,d,e,g,z,u,v,w,x] nx 3 b:=rfl
 have k4:back [o,i,a,b,c,d,e,g,z,u,v,w,x] nx 4 c:=rfl
 have k5:back [o,i,a,b,c,d,e,g,z,u,v,w,x] nx 5 d:=rfl
 have k6:back [o,i,a,b,c,d,e,g,z,u,v,w,x] nx 6 e:=rfl
 have k7:back [o,i,a,b,c,d,e,g,z,u,v,w,x] nx 7 g:=rfl
 have k8:back [o,i,a,b,c,d,e,g,z,u,v,w,x] nx 8 z:=rfl
 have k9:back [o,i,a,b,c,d,e,g,z,u,v,w,x] nx 9 u:=rfl
 have k10:back [o,i,a,b,c,d,e,g,z,u,v,w,x] nx 10 v:=rfl
 have k11:back [o,i,a,b,c,d,e,g,z,u,v,w,x] nx 11 w:=rfl
 have k12:back [o,i,a,b,c,d,e,g,z,u,v,w,x] nx 12 x:=rfl
 refine cx_loc (l1:=tcN q' t' A' o i a b c d e g z u v w x) [o,i,a,b,c,d,e,g,z,u,v,w,x] hc.out plainG hd
  (.cons e8 z0 ⟨rn_ptr e9,rn_ptr e10,rn_ptr e11,rn_ptr e12,trivial⟩ (.cons e9 z1 (rnl_plain a_plain) (.cons e10 z2 (rnl_plain a_plain) (.cons e11 z3 (rnl_plain a_plain) (.cons e12 z4 (rnl_plain a_plain)
  (.cons e0 g0 ⟨rn_ptr e1,trivial⟩ (.cons e1 g1 ⟨rn_ptr e2,rn_ptr e7,rn_plain plain_int,rn_plain plain_int,trivial⟩ (.cons e2 h0 (rn_tabC e3 e6) (.cons e3 h1 ⟨rn_sl e4,rn_sl e5,rn_plain plain_int,trivial⟩ (.cons e4 h2 rnl_cells (.cons e5 h3 rnl_ends (.maps e6 h4 key_plain (.cons e7 h5 (rnl_plain a_plain) .nil)))))))))))))
  ?_ (by intro y hy;simp only [List.mem_cons,List.not_mem_nil,or_false] at hy;omega) (rn_plain hc.pr)
  (.cons k8 ⟨rn_ptr k9,rn_ptr k10,rn_ptr k11,rn_ptr k12,trivial⟩ (.cons k9 (rnl_plain a_plain) (.cons k10 (rnl_plain a_plain) (.cons k11 (rnl_plain a_plain) (.cons k12 (rnl_plain a_plain)
  (.cons k0 ⟨rn_ptr k1,trivial⟩ (.cons k1 ⟨rn_ptr k2,rn_ptr k7,rn_plain plain_int,rn_plain plain_int,trivial⟩ (.cons k2 (rn_tabC k3 k6) (.cons k3 ⟨rn_sl k4,rn_sl k5,rn_plain plain_int,trivial⟩ (.cons k4 rnl_cells (.cons k5 rnl_ends (.maps k6 key_plain (.cons k7 (rnl_plain a_plain) .nil))))))))))))) hk
 simp only [List.nil_append,List.append_nil]
 exact ⟨rn_ptr e8,rn_ptr e0,rnl_plain hc.pa⟩
section
variable {q:Bk} {t:TS} {A:Nat→Sy}
set_option maxHeartbeats 1600000 in
theorem l_reads (hg:GoodB q) (h:TOk q.L t) (tc:TcR q A) {m:Nat} (hm2:m < 256):LocR 48 [.int .u8 (m:Nat)] q t A (.bool true) q t A:=by
 refine LocR.mk (loc_x hmix b48 rfl ?_) (fun x hx=>by obtain rfl:=List.mem_singleton.1 hx;exact plain_int) plain_bool
 have hm:((m:Nat):Int).tmod 64=((m % 64:Nat):Int):=tmn m 64
 have hm64:m % 64 < 64:=Nat.mod_lt _ (by decide)
 unfold c48
 generalize m % 64=i at *
 unfold tcN bkN rdN
 (refine wx_Kh ?_;repeat' (first|with_reducible refine And.intro ?_ ?_|intro hsp))
 (refine loop_x [0,1,2] (fun (a:Nat)=>[(7,.int .i64 (a:Nat))]) (fun (a:Nat)=>⟨tcN q t A 0 1 2 3 4 5 6 7 8 9 10 11 12,13⟩) (fun (a:Nat)=>a≤4) (fun (a:Nat)=>4 - a) (0) [] rfl (fun _=>by first|exact Nat.zero_le _|(dsimp only;omega)) ?_ (by ((try (conv=>whnf));exact wkx_Kf)) ?_)
 ·exact Nat.zero_le _
 intro a ha
 unfold tcN bkN rdN
 by_cases ha4:a < 4
 ·(refine wx_Kh ?_;repeat' (first|with_reducible refine And.intro ?_ ?_|intro hsp))
  (refine loop_x [0,1,2,7] (fun (p:Nat)=>[(8,.int .i64 (p:Nat))]) (fun (p:Nat)=>⟨tcN q t A 0 1 2 3 4 5 6 7 8 9 10 11 12,13⟩) (fun (p:Nat)=>p≤8) (fun (p:Nat)=>8 - p) (0) [] rfl (fun _=>by first|exact Nat.zero_le _|(dsimp only;omega)) ?_ (by ((try (conv=>whnf));exact wkx_Kf)) ?_)
  ·exact Nat.zero_le _
  intro p hp
  unfold tcN bkN rdN
  by_cases hp8:p < 8
  ·have hr:=tc_read hg tc ha4 hp8 hm64
   have c1:=b_Read h (a:Nat) ((p * 64+i:Nat):Int)
   have c2:=p_read (s:=A a) (a:=((p * 64+i:Nat):Int))
   rw [show ((p * 64+i:Nat):Int)=(p:Int) * 64+(i:Nat) by omega] at c1 c2 hr
   generalize q.read (a:Nat) ((p:Int) * 64+(i:Nat))=r1 at *
   dsimp only at hr
   obtain ⟨x1,y1⟩:=r1
   rcases (show a=0∨a=1∨a=2∨a=3 by omega) with rfl|rfl|rfl|rfl
   all_goals
    generalize (A _).read ((p:Int) * 64+(i:Nat))=r2 at *
    obtain ⟨x2,y2⟩:=r2
    dsimp only at *
    obtain ⟨rfl,hr1,hr2⟩:=hr
    have hd:decide (y1=0)=decide (y2=0):=decide_eq_decide.2 hr1
    (refine wx_Kh ?_;repeat' (first|with_reducible refine And.intro ?_ ?_|intro hsp))
    all_goals first|(exfalso;omega)|exact next_x (p+1) [] (by (try dsimp only);omega) (by first|omega|(dsimp only;omega)) rfl (by exact wkx_Kf)|(exfalso;rw [hd] at hsp;simp at hsp;done)|(exfalso;simp_all;done)
  ·obtain rfl:p=8:=by omega
   (refine wx_Kh ?_;repeat' (first|with_reducible refine And.intro ?_ ?_|intro hsp))
   all_goals first|(exfalso;omega)|exact next_x (a+1) [] (by (try dsimp only);omega) (by first|omega|(dsimp only;omega)) rfl (by exact wkx_Kf)
 ·obtain rfl:a=4:=by omega
  (refine wx_Kh ?_;repeat' (first|with_reducible refine And.intro ?_ ?_|intro hsp))
  all_goals exact end_R rfl plain_bool rfl rfl rfl rfl rfl rfl rfl rfl rfl rfl rfl rfl rfl
end
end Go.Proofs.YtphggldkligldaaGreat.Sh
