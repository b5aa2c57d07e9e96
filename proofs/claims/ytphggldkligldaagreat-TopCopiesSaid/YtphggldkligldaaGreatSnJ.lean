/-
 A book's calls: Counts,Differ.
 A book's calls: Differ.
 A new book;plays and calls as values;far;the beginning of a play.
-/
import Derived.Test.YtphggldkligldaaGreatSnI
set_option linter.unusedSimpArgs false
set_option linter.unusedVariables false
namespace Go.Pol
open Go.Am
theorem ite_imp {a b:Nat} {p:Prop} [Decidable p] (h:a=b+if p then 1 else 0):(p→a=b+1)∧(¬ p→a=b):=⟨fun hp=>by rw [if_pos hp] at h;exact h,fun hp=>by rw [if_neg hp] at h;exact h⟩
def Bk.difN (b:Bk) (x y k:Nat):List Int:=((List.range k).filter fun k=>b.dif x y k).map fun k=>((k:Nat):Int)
end Go.Pol
namespace Go.Proofs.YtphggldkligldaaGreat.Sh
open Go Go.Am Go.Pol
theorem ppx_Jg {p:Prop} (h:p:=by ((first|with_reducible assumption|with_reducible apply cells_plain|with_reducible apply ends_plain|with_reducible apply cnt_plain|with_reducible apply memI_plain _ _|with_reducible apply vw_plain|with_reducible apply nat_plain|with_reducible apply a_plain|with_reducible apply b_plain|with_reducible apply rdK_plain|with_reducible apply bc_plain|with_reducible apply plain_flat int1_plain|with_reducible apply plain_map (fun _=>plain_int)|with_reducible apply plain_map (fun _=>plain_bool)|exact prx_Je|fail);first|done|fail)):p:=h
theorem wkx_Jg {p:Prop} (h:p:=by (refine weak_s (by exact oneOf_of rfl) (by exact subH_of rfl) (by intro hs;(repeat' ((try (conv=>whnf));first|with_reducible exact True.intro|with_reducible refine And.intro ?_ ?_|(with_reducible refine WkX.mk ?_;first|exact wvx_Je|fail)))) (by intro hs;(try dsimp only);(repeat' (first|with_reducible exact wko_nil|refine wko_tab hs (by first|decide|omega|simp) rfl rfl (by first|decide|omega|simp) rfl (by first|decide|omega|simp) ?_|refine wko_maps hs (by first|decide|omega|simp) rfl rfl key_plain ?_|refine wko_plain hs (by first|decide|omega|simp) rfl (by first|rfl) (by (first|exact ppx_Jg|fail|((refine plain_app ?_ ?_)<;>(first|exact ppx_Jg|fail)))) ?_|refine wko_cells (by first|decide|omega|simp) rfl (by repeat' (first|with_reducible exact wkl_nil|with_reducible refine wkl_cons ?_ ?_|(first|exact wvx_Je|fail))) ?_|refine wko_loop (by first|decide|omega|simp) rfl (by ((try subst hF);(try subst hF2);exact wkl_sd (wkf_sget (by (repeat' ((try (conv=>whnf));first|with_reducible exact True.intro|with_reducible refine And.intro ?_ ?_|(with_reducible refine WkX.mk ?_;first|exact wvx_Je|fail))))))) ?_|exact wko_nil))))):p:=h
theorem wx_Jg {p q:Prop} (hq:q) (h:HidP q→p:=by (intro hQz;((repeat' ((try (conv=>whnf));first|(with_reducible first|refine run_cons ?_|refine runq_cons ?_|refine code_seq ?_|refine code_reg ?_|refine code_cond ?_|refine run_nil ?_|refine runq_nil ?_|refine rund_op rfl ?_|refine rund_nil ?_|refine code_block ?_|refine code_skip ?_|refine code_exit ?_|refine code_ret ?_|refine code_range ?_|refine rund_fast (by decide +kernel) ?_|refine rund_slow (by decide +kernel) ?_|refine br_tt ?_|refine br_ff ?_|refine br_n ?_|refine br_and ?_|refine br_or ?_|refine br_t (by assumption) ?_|refine br_f (by assumption) ?_|refine eq_i64 (by omega) ?_|refine el_tn ?_)|((with_reducible refine br_dt ?_ ?_);focus omega)|((with_reducible refine br_df ?_ ?_);focus omega)|((with_reducible apply br_dq hQz)<;>(try intro hsp hQz))|((with_reducible refine ck_x ?_ ?_);focus (first|omega|rfl|assumption|decide|(simp only [List.length_map,List.length_cons,List.length_nil];omega)))|(with_reducible first|refine eq_tn ?_|refine eq_tn1 ?_|refine eq_tn2 ?_|refine eq_m1 ?_|refine eq_m2 ?_|refine eq_zm ?_|refine eq_z ?_|refine len_map ?_|refine len_sl ?_|refine len_nils ?_|refine len_own' ?_|refine len_isl ?_|refine eq_u8 (by omega) ?_|refine eq_u16 (by omega) ?_)|(with_reducible first|refine eq_rfl ?_|refine ChkX.mk (by kernel_rfl) ?_|refine code_q rfl ?_|refine code_d (by decide +kernel) ?_|refine end_go rfl ?_)|refine cx_tab (by assumption) rfl rfl rfl rfl rfl (by decide) rfl ?_|refine cx_locS hck rfl (by decide) ?_|refine cx_yldE hmix rfl hF hA hB rfl ?_|(refine cx_in hmix b75 rfl ?_;unfold c75)|refine cx_b0 his rfl rfl rfl rfl rfl rfl rfl rfl (by decide) rfl ?_|refine len_map ?_|refine len_isl ?_|refine el_of rfl rfl ?_|refine del_own ?_|refine del_own' rfl ?_|refine as_go rfl ?_|refine rd_go rfl ?_|refine rg_end rfl ?_|refine flat_ownX ?_|refine EqLX.mk ?_|((with_reducible apply br_bq hQz)<;>(try intro hsp hQz))|exact hQz.out))<;>(try (conv=>whnf))))):p:=h ⟨hq⟩
section
variable {q:Bk} {t:TS}
theorem plain_i4 {a b c d:Int}:Plain (.tup [.int .i64 a,.int .i64 b,.int .i64 c,.int .i64 d]):=plain_tup fun x hx=>by
 simp only [List.mem_cons,List.not_mem_nil,or_false] at hx
 rcases hx with rfl|rfl|rfl|rfl<;>exact plain_int
set_option maxHeartbeats 1600000 in
theorem b_Counts (hg:GoodB q) (h:TOk q.L t):LocB 34 0 [] q t (.tup [.int .i64 (q.used:Nat),.int .i64 (q.idle:Nat),.int .i64 (q.many:Nat),.int .i64 0]) q t:=by
 refine LocB.mk (loc_x hmix b34 rfl ?_) (fun x hx=>by cases hx) plain_i4
 have hrng:=hg.rng
 have his:=b_is (q:=q) (t:=t)
 rw [used_R,idle_R,many_R]
 unfold c34
 unfold bkN rdN
 generalize hpu:(fun f=>decide (0 < cntF q.L f))=pu
 generalize hpi:(fun f=>decide (cntF q.L f=0∧q.s.K f=2))=pi
 generalize hpm:(fun f=>decide (1 < cntF q.L f))=pm
 (refine wx_Jg ?_;repeat' (first|with_reducible refine And.intro ?_ ?_|intro hsp))
 refine range_x hmix b137 rfl trivial ?_
 intro frl asl bdl hF hA hB
 unfold c137
 (refine wx_Jg ?_;repeat' (first|with_reducible refine And.intro ?_ ?_|intro hsp))
 (refine loop_x [0,1] (fun (i:Nat)=>[(3,.int .i64 ((q.a+i:Nat):Int))]) (fun (i:Nat)=>⟨bkN q t 0 1 2 3 4 5 6 7++[(8,.cells [.int .i64 (cntR pu q.a i:Nat)]),(9,.cells [.int .i64 (cntR pi q.a i:Nat)]),(10,.cells [.int .i64 (cntR pm q.a i:Nat)]),(11,.cells [.ptr 1 0]),(12,.cells [.ptr 1 0]),(13,.loop .ready none frl [21,22] asl bdl)],14⟩) (fun (i:Nat)=>i≤q.n) (fun (i:Nat)=>q.n - i) (0) [] rfl (fun _=>by first|exact Nat.zero_le _|(dsimp only;omega)) ?_ (by ((try (conv=>whnf));exact wkx_Jg)) ?_)
 ·exact Nat.zero_le _
 intro i hi
 have u1:=cntR_le (p:=pu) (a:=q.a) (i:=i)
 have u2:=cntR_le (p:=pi) (a:=q.a) (i:=i)
 have u3:=cntR_le (p:=pm) (a:=q.a) (i:=i)
 by_cases hil:i < q.n
 ·have hkd:=hg.kind (q.a+i) (by omega) (by omega)
  have hcn:=u_Count h (f:=q.a+i) (by omega)
  have hck:=p_kind (s:=q.s) (a:=((q.a+i:Nat):Int))
  rw [kind_at (by omega) hkd.2] at hck
  have s1:=cntR_s (p:=pu) (a:=q.a) (i:=i)
  have s2:=cntR_s (p:=pi) (a:=q.a) (i:=i)
  have s3:=cntR_s (p:=pm) (a:=q.a) (i:=i)
  have e1:pu (q.a+i)=decide (0 < cntF q.L (q.a+i)):=by rw [← hpu]
  have e2:pi (q.a+i)=decide (cntF q.L (q.a+i)=0∧q.s.K (q.a+i)=2):=by rw [← hpi]
  have e3:pm (q.a+i)=decide (1 < cntF q.L (q.a+i)):=by rw [← hpm]
  rw [e1] at s1
  rw [e2] at s2
  rw [e3] at s3
  simp only [decide_eq_true_eq] at s1 s2 s3
  have hkk:=hkd.1
  generalize cntF q.L (q.a+i)=n at *
  generalize q.s.K (q.a+i)=kk at *
  generalize cntR pu q.a i=w1 at *
  generalize cntR pi q.a i=w2 at *
  generalize cntR pm q.a i=w3 at *
  clear e1 e2 e3 hpu hpi hpm
  have s1:=ite_imp s1
  have s2:=ite_imp s2
  have s3:=ite_imp s3
  unfold bkN rdN
  (refine wx_Jg ?_;repeat' (first|with_reducible refine And.intro ?_ ?_|intro hsp))
  all_goals exact next_x (i+1) [] (by (try dsimp only);omega) (by first|omega|(dsimp only;omega)) rfl (by exact wkx_Jg)
 ·obtain rfl:i=q.n:=by omega
  unfold bkN rdN
  generalize cntR pu q.a q.n=w1 at *
  generalize cntR pi q.a q.n=w2 at *
  generalize cntR pm q.a q.n=w3 at *
  (refine wx_Jg ?_;repeat' (first|with_reducible refine And.intro ?_ ?_|intro hsp))
  all_goals exact end_bk rfl plain_i4 rfl rfl rfl rfl rfl rfl rfl rfl
end
end Go.Proofs.YtphggldkligldaaGreat.Sh
namespace Go.Proofs.YtphggldkligldaaGreat.Sh
open Go Go.Am Go.Pol
section
variable {q:Bk} {t:TS}
end
end Go.Proofs.YtphggldkligldaaGreat.Sh
namespace Go.Pol
open Go.Am
def stat (a n:Int):Prop:=0≤a∧a < 1024∧1≤n∧n≤1024 - a
instance (a n:Int):Decidable (stat a n):=by unfold stat;infer_instance
structure Ax where
 w:Int
 a:Int
 b:Int
 t:Int
 v:Int
 l:List Rl
def acE (x:Ax):List AV:=[.int .u8 x.w,.int .i64 x.a,.int .i64 x.b,.int .i64 x.t,.int .u8 x.v,.isl (x.l.map rlA)]
def dA:Ax:=⟨0,0,0,0,0,[]⟩
structure Py where
 a:Int
 n:Int
 l:List Rl
 X:List Ax
def pyE (p:Py):List AV:=[.int .i64 p.a,.int .i64 p.n,.isl (p.l.map rlA),.isl (p.X.map acE)]
def Py.b (p:Py):Bk:=⟨p.a.toNat,p.n.toNat,[],((Sy.new p.l).chg p.a p.n 0 1 0).2⟩
end Go.Pol
namespace Go.Proofs.YtphggldkligldaaGreat.Sh
open Go Go.Am Go.Pol
theorem wx_Ji {p q:Prop} (hq:q) (h:HidP q→p:=by (intro hQz;((repeat' ((try (conv=>whnf));first|(with_reducible first|refine run_cons ?_|refine runq_cons ?_|refine code_seq ?_|refine code_reg ?_|refine code_cond ?_|refine run_nil ?_|refine runq_nil ?_|refine rund_op rfl ?_|refine rund_nil ?_|refine code_block ?_|refine code_skip ?_|refine code_exit ?_|refine code_ret ?_|refine code_range ?_|refine rund_fast (by decide +kernel) ?_|refine rund_slow (by decide +kernel) ?_|refine br_tt ?_|refine br_ff ?_|refine br_n ?_|refine br_and ?_|refine br_or ?_|refine br_t (by assumption) ?_|refine br_f (by assumption) ?_|refine eq_i64 (by omega) ?_|refine el_tn ?_)|((with_reducible refine br_dt ?_ ?_);focus omega)|((with_reducible refine br_df ?_ ?_);focus omega)|((with_reducible apply br_dq hQz)<;>(try intro hsp hQz))|((with_reducible refine ck_x ?_ ?_);focus (first|omega|rfl|assumption|decide|(simp only [List.length_map,List.length_cons,List.length_nil];omega)))|(with_reducible first|refine eq_tn ?_|refine eq_tn1 ?_|refine eq_tn2 ?_|refine eq_m1 ?_|refine eq_m2 ?_|refine eq_zm ?_|refine eq_z ?_|refine len_map ?_|refine len_sl ?_|refine len_nils ?_|refine len_own' ?_|refine len_isl ?_|refine eq_u8 (by omega) ?_|refine eq_u16 (by omega) ?_)|(with_reducible first|refine eq_rfl ?_|refine ChkX.mk (by kernel_rfl) ?_|refine code_q rfl ?_|refine code_d (by decide +kernel) ?_|refine end_go rfl ?_)|refine cx_locS (by assumption) rfl (by decide) ?_|refine cx_pureS (by assumption) ?_|refine cx_locS hc rfl (by decide) ?_|refine cx_locS hr rfl (by decide) ?_|refine cx_NT (by assumption) ?_|refine cx_locN (by assumption) ?_|refine cx_BN h1 rfl (by decide) ?_|refine cx_locS h1 rfl (by decide) ?_|refine len_map ?_|refine len_isl ?_|refine el_of rfl rfl ?_|refine del_own ?_|refine del_own' rfl ?_|refine as_go rfl ?_|refine rd_go rfl ?_|refine rg_end rfl ?_|refine flat_ownX ?_|refine EqLX.mk ?_|((with_reducible apply br_bq hQz)<;>(try intro hsp hQz))|exact hQz.out))<;>(try (conv=>whnf))))):p:=h ⟨hq⟩
theorem end_G {top:Bool} {h:Hp} {N0 n:Nat} {x r:AV} {q:Bk} {t:TS} (ren:List (Nat × Nat)) (o i a b c d e g:Nat) (hkp:keepsB N0 ren=true) (hm:N0≤n) (hone:nodB [rn ren o,rn ren i,rn ren a,rn ren b,rn ren c,rn ren d,rn ren e,rn ren g]=true)
  (hlt:o < n∧i < n∧a < n∧b < n∧c < n∧d < n∧e < n∧g < n)
  (hr:SubH (rn ren) h ⟨bkN q t o i a b c d e g,n⟩→WkV Tryz.prog (rn ren) h ⟨bkN q t o i a b c d e g,n⟩ x r) (g0:lk h.l (rn ren o)=some (.cells [.ptr (rn ren i) 0])) (g1:lk h.l (rn ren i)=some (.cells [.ptr (rn ren a) 0,.ptr (rn ren g) 0,.int .i64 (q.a:Nat),.int .i64 (q.n:Nat)])) (h0:lk h.l (rn ren a)=some (.cells (tabC (rn ren b) (rn ren e) t.C))) (h1:lk h.l (rn ren b)=some (.cells [.sl (rn ren c) 0 t.n t.n 7,.sl (rn ren d) 0 t.m t.m 3,.int .i64 (t.S.fr:Nat)])) (h2:lk h.l (rn ren c)=some (.cells (cellsB t.n t.V t.W t.V3 t.V4 t.S.L t.S.N t.S.P))) (h3:lk h.l (rn ren d)=some (.cells (endsB t.m t.S.A t.S.B t.S.C))) (h4:lk h.l (rn ren e)=some (.maps (t.E.map keyE))) (h5:lk h.l (rn ren g)=some (.cells q.s.a)) :
  EndX top Tryz.prog N0 h x (fun r' h'=>r'=r∧h'=⟨bkN q t o i a b c d e g,n⟩):=by
 obtain ⟨l0,l1,l2,l3,l4,l5,l6,l7⟩:=hlt
 have hs:SubH (rn ren) h ⟨bkN q t o i a b c d e g,n⟩:=fun j x hi=>by
  simp only [bkN,rdN,lk] at hi
  split at hi
  ·rename_i e;subst e;exact ⟨_,g0⟩
  ·split at hi
   ·rename_i e;subst e;exact ⟨_,g1⟩
   ·split at hi
    ·rename_i e;subst e;exact ⟨_,h0⟩
    ·split at hi
     ·rename_i e;subst e;exact ⟨_,h1⟩
     ·split at hi
      ·rename_i e;subst e;exact ⟨_,h2⟩
      ·split at hi
       ·rename_i e;subst e;exact ⟨_,h3⟩
       ·split at hi
        ·rename_i e;subst e;exact ⟨_,h4⟩
        ·split at hi
         ·rename_i e;subst e;exact ⟨_,h5⟩
         ·cases hi
 refine end_loc ren hkp hm (oneOf_of (l:=bkN q t o i a b c d e g) hone) (hr hs) ?_ ⟨rfl,rfl⟩
 exact wko_cells l0 g0 (wkl_cons (wk_ptr (i:=i) rfl l1) wkl_nil)
  (wko_cells l1 g1 (wkl_cons (wk_ptr (i:=a) rfl l2) (wkl_cons (wk_ptr (i:=g) rfl l7) (wkl_cons (wk_int rfl) (wkl_cons (wk_int rfl) wkl_nil))))
  (wko_tab hs l2 h0 rfl l3 rfl l6
  (wko_cells l3 h1 (wkl_cons (wk_sl rfl l4 rfl (Nat.le_refl _) (Nat.le_refl _)) (wkl_cons (wk_sl rfl l5 rfl (Nat.le_refl _) (Nat.le_refl _)) (wkl_cons (wk_int rfl) wkl_nil)))
  (wko_plain hs l4 h2 rfl cells_plain (wko_plain hs l5 h3 rfl ends_plain (wko_maps hs l6 h4 rfl key_plain (wko_plain hs l7 h5 rfl a_plain wko_nil)))))))
structure LocBN (f:Nat) (avs:List AV) (s:Sy) (q:Bk) (t:TS):Prop where
 out:LocC Tryz.prog G0 f (.ptr 0 0::avs) [(0,.cells s.a)] 1 fun x h=>x = .tup [.ptr 1 0,.int .i64 0]∧h=⟨bkN q t 1 2 3 4 5 6 7 0,8⟩
 pa:∀ x ∈ avs,Plain x
theorem cx_BN {f:Nat} {avs:List AV} {s:Sy} {q:Bk} {t:TS} {g nx:Nat} {l:List (Nat × AObj)} {K:AV→Hp→Prop} (hc:LocBN f avs s q t) (h5:lk l g=some (.cells s.a)) (hlt:g < nx)
  (hk:filtK [g] l fun l2=>K (.tup [.ptr nx 0,.int .i64 0]) ⟨([(nx,.cells [.ptr (nx+1) 0]),(nx+1,.cells [.ptr (nx+2) 0,.ptr g 0,.int .i64 (q.a:Nat),.int .i64 (q.n:Nat)]),(nx+2,.cells (tabC (nx+3) (nx+6) t.C)),(nx+3,.cells [.sl (nx+4) 0 t.n t.n 7,.sl (nx+5) 0 t.m t.m 3,.int .i64 (t.S.fr:Nat)]),(nx+4,.cells (cellsB t.n t.V t.W t.V3 t.V4 t.S.L t.S.N t.S.P)),(nx+5,.cells (endsB t.m t.S.A t.S.B t.S.C)),(nx+6,.maps (t.E.map keyE)),(g,.cells q.s.a)]:List (Nat × AObj))++l2,nx+7⟩):CallX Tryz.prog G0 (.fn f [] []) (.ptr g 0::avs) ⟨l,nx⟩ K:=by
 have e0:enter [g] g 0:=rfl
 have k0:back [g] nx 0 g:=rfl
 have k1:back [g] nx 1 nx:=rfl
 have k2:back [g] nx 2 (nx+1):=rfl
 have k3:back [g] nx 3 (nx+2):=rfl
 have k4:back [g] nx 4 (nx+3):=rfl
 have k5:back [g] nx 5 (nx+4):=rfl
 have k6:back [g] nx 6 (nx+5):=rfl
 have k7:back [g] nx 7 (nx+6):=rfl
 refine cx_loc (r':=.tup [.ptr nx 0,.int .i64 0]) (l1:=bkN q t nx (nx+1) (nx+2) (nx+3) (nx+4) (nx+5) (nx+6) g) [g] hc.out plainG rfl (.cons e0 h5 (rnl_plain a_plain) .nil)
  ?_ (by intro x hx;simp only [List.mem_cons,List.not_mem_nil,or_false] at hx;omega) (rn_tup ⟨rn_ptr k1,rn_plain plain_int,trivial⟩)
  (.cons k1 ⟨rn_ptr k2,trivial⟩ (.cons k2 ⟨rn_ptr k3,rn_ptr k0,rn_plain plain_int,rn_plain plain_int,trivial⟩ (.cons k3 (rn_tabC k4 k7) (.cons k4 ⟨rn_sl k5,rn_sl k6,rn_plain plain_int,trivial⟩ (.cons k5 rnl_cells (.cons k6 rnl_ends (.maps k7 key_plain (.cons k0 (rnl_plain a_plain) .nil)))))))) hk
 simp only [List.nil_append,List.append_nil]
 exact ⟨rn_ptr e0,rnl_plain hc.pa⟩
theorem k_stated (a n:Int):PureS 74 [.int .i64 a,.int .i64 n] (.bool (decide (stat a n))):=by
 refine PureS.mk (pure_x hmix b74 plainG ⟨plain_int,plain_int,trivial⟩ plain_bool rfl ?_)
 unfold c74
 (refine wx_Ji ?_;repeat' (first|with_reducible refine And.intro ?_ ?_|intro hsp))
 all_goals exact end_bool (by first|exact (decide_eq_false fun h:stat a n=>by obtain ⟨h1,h2,h3,h4⟩:=h;omega).symm|exact decide_eq_decide.2 ⟨fun h=>⟨by omega,by omega,by omega,by omega⟩,fun h=>by obtain ⟨h1,h2,h3,h4⟩:=h;omega⟩)
section
variable {s:Sy} {a n:Int}
theorem b_New (hg:GoodS s) (hn:stat a n) (he:(s.chg a n 0 1 0).1=0):LocBN 38 [.int .i64 a,.int .i64 n] s ⟨a.toNat,n.toNat,[],(s.chg a n 0 1 0).2⟩ T0:=by
 have hc:=p_counts hg
 have hst:=k_stated a n
 rw [decide_eq_true hn] at hst
 have hr:=p_reserve (a:=a) (n:=n) hg
 rw [he] at hr
 have hnew:=n_New
 have ha:((a.toNat:Nat):Int)=a:=Int.toNat_of_nonneg hn.1
 have hna:((n.toNat:Nat):Int)=n:=Int.toNat_of_nonneg (by have:=hn.2.2.1;omega)
 unfold Sy.counts at hc
 refine LocBN.mk (loc_x hmix b38 rfl ?_) plain_i2
 unfold c38
 generalize cntK s.K 0 1024=n0 at *
 generalize cntK s.K 1 1024=n1 at *
 generalize cntK s.K 2 1024=n2 at *
 generalize cntK s.K 3 1024=n3 at *
 generalize cntG s.G 64=n4 at *
 generalize s.chg a n 0 1 0=r at *
 generalize T0=t0 at *
 (refine wx_Ji ?_;repeat' (first|with_reducible refine And.intro ?_ ?_|intro hsp))
 all_goals exact end_G [(1,8),(2,7),(3,2),(4,3),(5,4),(6,5),(7,6)] 1 2 3 4 5 6 7 0 rfl (by decide) rfl (by decide) (fun hs=>wk_tup (wkl_cons (wk_ptr (i:=1) rfl (show 1 < 8 by decide)) (wkl_cons (wk_int rfl) wkl_nil))) rfl (by dsimp only;rw [ha,hna];rfl) rfl rfl rfl rfl rfl rfl
structure LocBB (avs:List AV) (q:Bk) (t:TS):Prop where
 out:LocC Tryz.prog G0 12 avs [] 0 fun x h=>x = .tup [.ptr 7 0,.ptr 0 0,.int .i64 0]∧h=⟨bkN q t 0 1 2 3 4 5 6 7,8⟩
 pa:∀ x ∈ avs,Plain x
structure LocBE (avs:List AV) (e:Int) (ds:List AV):Prop where
 out:LocC Tryz.prog G0 12 avs [] 0 fun x h=>x = .tup [.ptr 0 0,.nilp,.int .i64 e]∧h=⟨[(0,.cells ds)],1⟩
 pa:∀ x ∈ avs,Plain x
 pd:∀ x ∈ ds,Plain x
end
end Go.Proofs.YtphggldkligldaaGreat.Sh
