/-
 A new book;plays and calls as values;far;the beginning of a play.
-/
import Derived.Test.YtphggldkligldaaGreatJh
set_option linter.unusedSimpArgs false
set_option linter.unusedVariables false
namespace Go.Pol
open Go.Am
def stat (a n:Int):Prop:=0≤a∧a < 1024∧1≤n∧n≤1024 - a
instance (a n:Int):Decidable (stat a n):=by unfold stat;infer_instance
structure Ax where
 w:Int
 a:Int
 b:Int
 t:Int
 v:Int
 l:List Rl
def acE (x:Ax):List AV:=[.int .u8 x.w,.int .i64 x.a,.int .i64 x.b,.int .i64 x.t,.int .u8 x.v,.isl (x.l.map rlA)]
theorem acE_len (x:Ax):(acE x).length=6:=rfl
def dA:Ax:=⟨0,0,0,0,0,[]⟩
structure Py where
 a:Int
 n:Int
 l:List Rl
 X:List Ax
def pyE (p:Py):List AV:=[.int .i64 p.a,.int .i64 p.n,.isl (p.l.map rlA),.isl (p.X.map acE)]
def Py.b (p:Py):Bk:=⟨p.a.toNat,p.n.toNat,[],((Sy.new p.l).chg p.a p.n 0 1 0).2⟩
end Go.Pol
namespace Go.Proofs.YtphggldkligldaaGreat.Sh
open Go Go.Am Go.Pol
theorem wx_Ji {p q:Prop} (hq:q) (h:HidP q→p:=by (intro hQz;((repeat' ((try (conv=>whnf));first|(with_reducible first|refine run_cons ?_|refine runq_cons ?_|refine code_seq ?_|refine code_reg ?_|refine code_cond ?_|refine run_nil ?_|refine runq_nil ?_|refine rund_op rfl ?_|refine rund_nil ?_|refine code_block ?_|refine code_skip ?_|refine code_exit ?_|refine code_ret ?_|refine code_range ?_|refine rund_fast (by decide +kernel) ?_|refine rund_slow (by decide +kernel) ?_|refine br_tt ?_|refine br_ff ?_|refine br_n ?_|refine br_and ?_|refine br_or ?_|refine br_t (by assumption) ?_|refine br_f (by assumption) ?_|refine eq_i64 (by omega) ?_|refine el_tn ?_)|((with_reducible refine br_dt ?_ ?_);focus omega)|((with_reducible refine br_df ?_ ?_);focus omega)|((with_reducible apply br_dq hQz)<;>(try intro hsp hQz))|((with_reducible refine ck_x ?_ ?_);focus (first|omega|rfl|assumption|decide|(simp only [List.length_map,List.length_cons,List.length_nil];omega)))|(with_reducible first|refine eq_tn ?_|refine eq_tn1 ?_|refine eq_tn2 ?_|refine eq_m1 ?_|refine eq_m2 ?_|refine eq_zm ?_|refine eq_z ?_|refine len_map ?_|refine len_sl ?_|refine len_nils ?_|refine len_own' ?_|refine len_isl ?_|refine eq_u8 (by omega) ?_|refine eq_u16 (by omega) ?_)|(with_reducible first|refine eq_rfl ?_|refine ChkX.mk (by kernel_rfl) ?_|refine code_q rfl ?_|refine code_d (by decide +kernel) ?_|refine end_go rfl ?_)|refine cx_locS (by assumption) rfl (by decide) ?_|refine cx_pureS (by assumption) ?_|refine cx_locS hc rfl (by decide) ?_|refine cx_locS hr rfl (by decide) ?_|refine cx_NT (by assumption) ?_|refine cx_locN (by assumption) ?_|refine cx_BN h1 rfl (by decide) ?_|refine cx_locS h1 rfl (by decide) ?_|refine len_map ?_|refine len_isl ?_|refine el_of rfl rfl ?_|refine del_own ?_|refine del_own' rfl ?_|refine as_go rfl ?_|refine rd_go rfl ?_|refine rg_end rfl ?_|refine flat_ownX ?_|refine EqLX.mk ?_|((with_reducible apply br_bq hQz)<;>(try intro hsp hQz))|exact hQz.out))<;>(try (conv=>whnf))))):p:=h ⟨hq⟩
theorem ac_plain (x:Ax):∀ y ∈ acE x,Plain y:=fun y hy=>by
 unfold acE at hy
 simp only [List.mem_cons,List.not_mem_nil,or_false] at hy
 rcases hy with rfl|rfl|rfl|rfl|rfl|rfl<;>first|exact plain_int|exact plain_rls
theorem plain_ac (x:Ax):Plain (.agg (acE x)):=plain_agg (ac_plain x)
theorem plain_acs {X:List Ax}:Plain (.isl (X.map acE)):=plain_isl fun e he=>by obtain ⟨x,_,rfl⟩:=List.mem_map.1 he;exact ac_plain x
theorem py_plain (p:Py):∀ y ∈ pyE p,Plain y:=fun y hy=>by
 unfold pyE at hy
 simp only [List.mem_cons,List.not_mem_nil,or_false] at hy
 rcases hy with rfl|rfl|rfl|rfl
 ·exact plain_int
 ·exact plain_int
 ·exact plain_rls
 ·exact plain_isl fun e he=>by obtain ⟨x,_,rfl⟩:=List.mem_map.1 he;exact ac_plain x
theorem plain_py (p:Py):Plain (.agg (pyE p)):=plain_agg (py_plain p)
theorem end_G {top:Bool} {h:Hp} {N0 n:Nat} {x r:AV} {q:Bk} {t:TS} (ren:List (Nat × Nat)) (o i a b c d e g:Nat) (hkp:keepsB N0 ren=true) (hm:N0≤n) (hone:nodB [rn ren o,rn ren i,rn ren a,rn ren b,rn ren c,rn ren d,rn ren e,rn ren g]=true)
  (hlt:o < n∧i < n∧a < n∧b < n∧c < n∧d < n∧e < n∧g < n)
  (hr:SubH (rn ren) h ⟨bkN q t o i a b c d e g,n⟩→WkV Tryz.prog (rn ren) h ⟨bkN q t o i a b c d e g,n⟩ x r) (g0:lk h.l (rn ren o)=some (.cells [.ptr (rn ren i) 0])) (g1:lk h.l (rn ren i)=some (.cells [.ptr (rn ren a) 0,.ptr (rn ren g) 0,.int .i64 (q.a:Nat),.int .i64 (q.n:Nat)])) (h0:lk h.l (rn ren a)=some (.cells (tabC (rn ren b) (rn ren e) t.C))) (h1:lk h.l (rn ren b)=some (.cells [.sl (rn ren c) 0 t.n t.n 7,.sl (rn ren d) 0 t.m t.m 3,.int .i64 (t.S.fr:Nat)])) (h2:lk h.l (rn ren c)=some (.cells (cellsB t.n t.V t.W t.V3 t.V4 t.S.L t.S.N t.S.P))) (h3:lk h.l (rn ren d)=some (.cells (endsB t.m t.S.A t.S.B t.S.C))) (h4:lk h.l (rn ren e)=some (.maps (t.E.map keyE))) (h5:lk h.l (rn ren g)=some (.cells q.s.a)) :
  EndX top Tryz.prog N0 h x (fun r' h'=>r'=r∧h'=⟨bkN q t o i a b c d e g,n⟩):=by
 obtain ⟨l0,l1,l2,l3,l4,l5,l6,l7⟩:=hlt
 have hs:SubH (rn ren) h ⟨bkN q t o i a b c d e g,n⟩:=fun j x hi=>by
  simp only [bkN,rdN,lk] at hi
  split at hi
  ·rename_i e;subst e;exact ⟨_,g0⟩
  ·split at hi
   ·rename_i e;subst e;exact ⟨_,g1⟩
   ·split at hi
    ·rename_i e;subst e;exact ⟨_,h0⟩
    ·split at hi
     ·rename_i e;subst e;exact ⟨_,h1⟩
     ·split at hi
      ·rename_i e;subst e;exact ⟨_,h2⟩
      ·split at hi
       ·rename_i e;subst e;exact ⟨_,h3⟩
       ·split at hi
        ·rename_i e;subst e;exact ⟨_,h4⟩
        ·split at hi
         ·rename_i e;subst e;exact ⟨_,h5⟩
         ·cases hi
 refine end_loc ren hkp hm (oneOf_of (l:=bkN q t o i a b c d e g) hone) (hr hs) ?_ ⟨rfl,rfl⟩
 exact wko_cells l0 g0 (wkl_cons (wk_ptr (i:=i) rfl l1) wkl_nil)
  (wko_cells l1 g1 (wkl_cons (wk_ptr (i:=a) rfl l2) (wkl_cons (wk_ptr (i:=g) rfl l7) (wkl_cons (wk_int rfl) (wkl_cons (wk_int rfl) wkl_nil))))
  (wko_tab hs l2 h0 rfl l3 rfl l6
  (wko_cells l3 h1 (wkl_cons (wk_sl rfl l4 rfl (Nat.le_refl _) (Nat.le_refl _)) (wkl_cons (wk_sl rfl l5 rfl (Nat.le_refl _) (Nat.le_refl _)) (wkl_cons (wk_int rfl) wkl_nil)))
  (wko_plain hs l4 h2 rfl cells_plain (wko_plain hs l5 h3 rfl ends_plain (wko_maps hs l6 h4 rfl key_plain (wko_plain hs l7 h5 rfl a_plain wko_nil)))))))
structure LocBN (f:Nat) (avs:List AV) (s:Sy) (q:Bk) (t:TS):Prop where
 out:LocC Tryz.prog G0 f (.ptr 0 0::avs) [(0,.cells s.a)] 1 fun x h=>x = .tup [.ptr 1 0,.int .i64 0]∧h=⟨bkN q t 1 2 3 4 5 6 7 0,8⟩
 pa:∀ x ∈ avs,Plain x
theorem cx_BN {f:Nat} {avs:List AV} {s:Sy} {q:Bk} {t:TS} {g nx:Nat} {l:List (Nat × AObj)} {K:AV→Hp→Prop} (hc:LocBN f avs s q t) (h5:lk l g=some (.cells s.a)) (hlt:g < nx)
  (hk:filtK [g] l fun l2=>K (.tup [.ptr nx 0,.int .i64 0]) ⟨([(nx,.cells [.ptr (nx+1) 0]),(nx+1,.cells [.ptr (nx+2) 0,.ptr g 0,.int .i64 (q.a:Nat),.int .i64 (q.n:Nat)]),(nx+2,.cells (tabC (nx+3) (nx+6) t.C)),(nx+3,.cells [.sl (nx+4) 0 t.n t.n 7,.sl (nx+5) 0 t.m t.m 3,.int .i64 (t.S.fr:Nat)]),(nx+4,.cells (cellsB t.n t.V t.W t.V3 t.V4 t.S.L t.S.N t.S.P)),(nx+5,.cells (endsB t.m t.S.A t.S.B t.S.C)),(nx+6,.maps (t.E.map keyE)),(g,.cells q.s.a)]:List (Nat × AObj))++l2,nx+7⟩):CallX Tryz.prog G0 (.fn f [] []) (.ptr g 0::avs) ⟨l,nx⟩ K:=by
 have e0:enter [g] g 0:=rfl
 have k0:back [g] nx 0 g:=rfl
 have k1:back [g] nx 1 nx:=rfl
 have k2:back [g] nx 2 (nx+1):=rfl
 have k3:back [g] nx 3 (nx+2):=rfl
 have k4:back [g] nx 4 (nx+3):=rfl
 have k5:back [g] nx 5 (nx+4):=rfl
 have k6:back [g] nx 6 (nx+5):=rfl
 have k7:back [g] nx 7 (nx+6):=rfl
 refine cx_loc (r':=.tup [.ptr nx 0,.int .i64 0]) (l1:=bkN q t nx (nx+1) (nx+2) (nx+3) (nx+4) (nx+5) (nx+6) g) [g] hc.out plainG rfl (.cons e0 h5 (rnl_plain a_plain) .nil)
  ?_ (by intro x hx;simp only [List.mem_cons,List.not_mem_nil,or_false] at hx;omega) (rn_tup ⟨rn_ptr k1,rn_plain plain_int,trivial⟩)
  (.cons k1 ⟨rn_ptr k2,trivial⟩ (.cons k2 ⟨rn_ptr k3,rn_ptr k0,rn_plain plain_int,rn_plain plain_int,trivial⟩ (.cons k3 (rn_tabC k4 k7) (.cons k4 ⟨rn_sl k5,rn_sl k6,rn_plain plain_int,trivial⟩ (.cons k5 rnl_cells (.cons k6 rnl_ends (.maps k7 key_plain (.cons k0 (rnl_plain a_plain) .nil)))))))) hk
 simp only [List.nil_append,List.append_nil]
 exact ⟨rn_ptr e0,rnl_plain hc.pa⟩
theorem k_stated (a n:Int):PureS 74 [.int .i64 a,.int .i64 n] (.bool (decide (stat a n))):=by
 refine PureS.mk (pure_x hmix b74 plainG ⟨plain_int,plain_int,trivial⟩ plain_bool rfl ?_)
 unfold c74
 (refine wx_Ji ?_;repeat' (first|with_reducible refine And.intro ?_ ?_|intro hsp))
 all_goals exact end_bool (by first|exact (decide_eq_false fun h:stat a n=>by obtain ⟨h1,h2,h3,h4⟩:=h;omega).symm|exact decide_eq_decide.2 ⟨fun h=>⟨by omega,by omega,by omega,by omega⟩,fun h=>by obtain ⟨h1,h2,h3,h4⟩:=h;omega⟩)
section
variable {s:Sy} {a n:Int}
theorem plain_ne {e:Int}:Plain (.tup [.nilp,.int .i64 e]):=plain_tup fun x hx=>by
 simp only [List.mem_cons,List.not_mem_nil,or_false] at hx
 rcases hx with rfl|rfl;exact plain_nilp;exact plain_int
theorem b_New_far (hg:GoodS s) (hn:¬ stat a n):LocS 38 [.int .i64 a,.int .i64 n] s.a (.tup [.nilp,.int .i64 7]) s.a:=by
 have hc:=p_counts hg
 have hst:=k_stated a n
 rw [decide_eq_false hn] at hst
 unfold Sy.counts at hc
 refine LocS.mk (loc_x hmix b38 rfl ?_) a_plain a_plain plain_i2 plain_ne
 unfold c38
 generalize cntK s.K 0 1024=n0 at *
 generalize cntK s.K 1 1024=n1 at *
 generalize cntK s.K 2 1024=n2 at *
 generalize cntK s.K 3 1024=n3 at *
 generalize cntG s.G 64=n4 at *
 (refine wx_Ji ?_;repeat' (first|with_reducible refine And.intro ?_ ?_|intro hsp))
 all_goals exact end_s rfl plain_ne rfl a_plain
theorem b_New_no (hg:GoodS s) (hn:stat a n) (he:(s.chg a n 0 1 0).1 ≠ 0):LocS 38 [.int .i64 a,.int .i64 n] s.a (.tup [.nilp,.int .i64 (s.chg a n 0 1 0).1]) (s.chg a n 0 1 0).2.a:=by
 have hc:=p_counts hg
 have hst:=k_stated a n
 rw [decide_eq_true hn] at hst
 have hr:=p_reserve (a:=a) (n:=n) hg
 unfold Sy.counts at hc
 refine LocS.mk (loc_x hmix b38 rfl ?_) a_plain a_plain plain_i2 plain_ne
 unfold c38
 generalize cntK s.K 0 1024=n0 at *
 generalize cntK s.K 1 1024=n1 at *
 generalize cntK s.K 2 1024=n2 at *
 generalize cntK s.K 3 1024=n3 at *
 generalize cntG s.G 64=n4 at *
 generalize s.chg a n 0 1 0=r at *
 (refine wx_Ji ?_;repeat' (first|with_reducible refine And.intro ?_ ?_|intro hsp))
 all_goals first|exact end_s rfl plain_ne rfl a_plain|(exfalso;omega)
theorem b_New (hg:GoodS s) (hn:stat a n) (he:(s.chg a n 0 1 0).1=0):LocBN 38 [.int .i64 a,.int .i64 n] s ⟨a.toNat,n.toNat,[],(s.chg a n 0 1 0).2⟩ T0:=by
 have hc:=p_counts hg
 have hst:=k_stated a n
 rw [decide_eq_true hn] at hst
 have hr:=p_reserve (a:=a) (n:=n) hg
 rw [he] at hr
 have hnew:=n_New
 have ha:((a.toNat:Nat):Int)=a:=Int.toNat_of_nonneg hn.1
 have hna:((n.toNat:Nat):Int)=n:=Int.toNat_of_nonneg (by have:=hn.2.2.1;omega)
 unfold Sy.counts at hc
 refine LocBN.mk (loc_x hmix b38 rfl ?_) plain_i2
 unfold c38
 generalize cntK s.K 0 1024=n0 at *
 generalize cntK s.K 1 1024=n1 at *
 generalize cntK s.K 2 1024=n2 at *
 generalize cntK s.K 3 1024=n3 at *
 generalize cntG s.G 64=n4 at *
 generalize s.chg a n 0 1 0=r at *
 generalize T0=t0 at *
 (refine wx_Ji ?_;repeat' (first|with_reducible refine And.intro ?_ ?_|intro hsp))
 all_goals exact end_G [(1,8),(2,7),(3,2),(4,3),(5,4),(6,5),(7,6)] 1 2 3 4 5 6 7 0 rfl (by decide) rfl (by decide) (fun hs=>wk_tup (wkl_cons (wk_ptr (i:=1) rfl (show 1 < 8 by decide)) (wkl_cons (wk_int rfl) wkl_nil))) rfl (by dsimp only;rw [ha,hna];rfl) rfl rfl rfl rfl rfl rfl
structure LocBB (avs:List AV) (q:Bk) (t:TS):Prop where
 out:LocC Tryz.prog G0 12 avs [] 0 fun x h=>x = .tup [.ptr 7 0,.ptr 0 0,.int .i64 0]∧h=⟨bkN q t 0 1 2 3 4 5 6 7,8⟩
 pa:∀ x ∈ avs,Plain x
theorem cx_BB {avs:List AV} {q:Bk} {t:TS} {nx:Nat} {l:List (Nat × AObj)} {K:AV→Hp→Prop} (hc:LocBB avs q t)
  (hk:K (.tup [.ptr (nx+7) 0,.ptr nx 0,.int .i64 0]) ⟨([(nx,.cells [.ptr (nx+1) 0]),(nx+1,.cells [.ptr (nx+2) 0,.ptr (nx+7) 0,.int .i64 (q.a:Nat),.int .i64 (q.n:Nat)]),(nx+2,.cells (tabC (nx+3) (nx+6) t.C)),(nx+3,.cells [.sl (nx+4) 0 t.n t.n 7,.sl (nx+5) 0 t.m t.m 3,.int .i64 (t.S.fr:Nat)]),(nx+4,.cells (cellsB t.n t.V t.W t.V3 t.V4 t.S.L t.S.N t.S.P)),(nx+5,.cells (endsB t.m t.S.A t.S.B t.S.C)),(nx+6,.maps (t.E.map keyE)),(nx+7,.cells q.s.a)]:List (Nat × AObj))++l,nx+8⟩):CallX Tryz.prog G0 (.fn 12 [] []) avs ⟨l,nx⟩ K:=by
 have k0:back [] nx 0 nx:=rfl
 have k1:back [] nx 1 (nx+1):=rfl
 have k2:back [] nx 2 (nx+2):=rfl
 have k3:back [] nx 3 (nx+3):=rfl
 have k4:back [] nx 4 (nx+4):=rfl
 have k5:back [] nx 5 (nx+5):=rfl
 have k6:back [] nx 6 (nx+6):=rfl
 have k7:back [] nx 7 (nx+7):=rfl
 exact cx_loc (r':=.tup [.ptr (nx+7) 0,.ptr nx 0,.int .i64 0]) (l1:=bkN q t nx (nx+1) (nx+2) (nx+3) (nx+4) (nx+5) (nx+6) (nx+7)) [] hc.out plainG rfl .nil (by simpa using rnl_plain hc.pa) (by simp) (rn_tup ⟨rn_ptr k7,rn_ptr k0,rn_plain plain_int,trivial⟩)
  (.cons k0 ⟨rn_ptr k1,trivial⟩ (.cons k1 ⟨rn_ptr k2,rn_ptr k7,rn_plain plain_int,rn_plain plain_int,trivial⟩ (.cons k2 (rn_tabC k3 k6) (.cons k3 ⟨rn_sl k4,rn_sl k5,rn_plain plain_int,trivial⟩ (.cons k4 rnl_cells (.cons k5 rnl_ends (.maps k6 key_plain (.cons k7 (rnl_plain a_plain) .nil)))))))) (filtK_nil hk)
structure LocBE (avs:List AV) (e:Int) (ds:List AV):Prop where
 out:LocC Tryz.prog G0 12 avs [] 0 fun x h=>x = .tup [.ptr 0 0,.nilp,.int .i64 e]∧h=⟨[(0,.cells ds)],1⟩
 pa:∀ x ∈ avs,Plain x
 pd:∀ x ∈ ds,Plain x
theorem cx_BE {avs:List AV} {e:Int} {ds:List AV} {nx:Nat} {l:List (Nat × AObj)} {K:AV→Hp→Prop} (hc:LocBE avs e ds) (hk:K (.tup [.ptr nx 0,.nilp,.int .i64 e]) ⟨(nx,.cells ds)::l,nx+1⟩):CallX Tryz.prog G0 (.fn 12 [] []) avs ⟨l,nx⟩ K:=by
 have k0:back [] nx 0 nx:=rfl
 exact cx_loc (r':=.tup [.ptr nx 0,.nilp,.int .i64 e]) (l1:=[(nx,.cells ds)]) [] hc.out plainG rfl .nil (by simpa using rnl_plain hc.pa) (by simp) (rn_tup ⟨rn_ptr k0,rn_plain plain_nilp,rn_plain plain_int,trivial⟩)
  (.cons k0 (rnl_plain hc.pd) .nil) (filtK_nil hk)
theorem end_BE {top:Bool} {h:Hp} {x:AV} {i:Nat} {ds:List AV} {e:Int} (hx:x = .tup [.ptr i 0,.nilp,.int .i64 e]) (h0:lk h.l i=some (.cells ds)) (pd:∀ x ∈ ds,Plain x):EndX top Tryz.prog 0 h x (fun r' h'=>r' = .tup [.ptr 0 0,.nilp,.int .i64 e]∧h'=⟨[(0,.cells ds)],1⟩):=by
 subst hx
 have e0:rn [(0,i)] 0=i:=rfl
 have hs:SubH (rn [(0,i)]) h ⟨[(0,.cells ds)],1⟩:=fun j o hj=>by
  simp only [lk] at hj
  split at hj
  ·rename_i e;subst e;exact ⟨_,h0⟩
  ·cases hj
 exact end_loc [(0,i)] rfl (Nat.zero_le _) (oneOf_of rfl) (wk_tup (wkl_cons (wk_ptr e0 (show 0 < 1 by decide)) (wkl_cons (wk_plain hs plain_nilp) (wkl_cons (wk_int rfl) wkl_nil)))) (wko_plain hs (show 0 < 1 by decide) (by rw [e0];exact h0) rfl pd wko_nil) ⟨rfl,rfl⟩
theorem pa_py {p:Py}:∀ x ∈ [AV.agg (pyE p)],Plain x:=fun x hx=>by obtain rfl:=List.mem_singleton.1 hx;exact plain_py p
theorem plain_nne {e:Int}:Plain (.tup [.nilp,.nilp,.int .i64 e]):=plain_tup fun x hx=>by
 simp only [List.mem_cons,List.not_mem_nil,or_false] at hx
 rcases hx with rfl|rfl|rfl;exact plain_nilp;exact plain_nilp;exact plain_int
theorem l_begun (p:Py):(∃ e,e ≠ 0∧PureS 12 [.agg (pyE p)] (.tup [.nilp,.nilp,.int .i64 e]))∨(∃ e ds,e ≠ 0∧LocBE [.agg (pyE p)] e ds)∨((chkP p.l).2=0∧stat p.a p.n∧((Sy.new p.l).chg p.a p.n 0 1 0).1=0∧LocBB [.agg (pyE p)] p.b T0):=by
 by_cases hc:(chkP p.l).2=0
 ·have hnw:=p_new (l:=p.l) (i:=(chkP p.l).1) (Prod.ext rfl hc)
  have hg:=good_new hc
  by_cases hst:stat p.a p.n
  ·by_cases he:((Sy.new p.l).chg p.a p.n 0 1 0).1=0
   ·have h1:=b_New hg hst he
    refine .inr (.inr ⟨hc,hst,he,LocBB.mk (loc_x hmix b12 rfl ?_) pa_py⟩)
    unfold c12
    unfold Py.b pyE
    generalize Sy.new p.l=s0 at *
    generalize T0=t0 at *
    generalize s0.chg p.a p.n 0 1 0=r at *
    (refine wx_Ji ?_;repeat' (first|with_reducible refine And.intro ?_ ?_|intro hsp))
    all_goals exact end_G [(0,2),(1,3),(2,4),(3,5),(4,6),(5,7),(6,8),(7,1)] 0 1 2 3 4 5 6 7 rfl (by decide) rfl (by decide) (fun hs=>wk_tup (wkl_cons (wk_ptr (i:=7) rfl (show 7 < 8 by decide)) (wkl_cons (wk_ptr (i:=0) rfl (show 0 < 8 by decide)) (wkl_cons (wk_int rfl) wkl_nil)))) rfl rfl rfl rfl rfl rfl rfl rfl
   ·have h1:=b_New_no hg hst he
    refine .inr (.inl ⟨_,((Sy.new p.l).chg p.a p.n 0 1 0).2.a,he,LocBE.mk (loc_x hmix b12 rfl ?_) pa_py a_plain⟩)
    unfold c12
    unfold pyE
    generalize Sy.new p.l=s0 at *
    generalize s0.chg p.a p.n 0 1 0=r at *
    (refine wx_Ji ?_;repeat' (first|with_reducible refine And.intro ?_ ?_|intro hsp))
    all_goals exact end_BE rfl rfl a_plain
  ·have h1:=b_New_far hg hst
   refine .inr (.inl ⟨7,(Sy.new p.l).a,by decide,LocBE.mk (loc_x hmix b12 rfl ?_) pa_py a_plain⟩)
   unfold c12
   unfold pyE
   generalize Sy.new p.l=s0 at *
   (refine wx_Ji ?_;repeat' (first|with_reducible refine And.intro ?_ ?_|intro hsp))
   all_goals exact end_BE rfl rfl a_plain
 ·have hnw:=p_new_no (l:=p.l) (i:=(chkP p.l).1) (e:=(chkP p.l).2) rfl hc
  refine .inl ⟨_,hc,PureS.mk (pure_x hmix b12 plainG ⟨plain_py p,trivial⟩ plain_nne rfl ?_)⟩
  unfold c12
  unfold pyE
  generalize (chkP p.l).2=e at *
  (refine wx_Ji ?_;repeat' (first|with_reducible refine And.intro ?_ ?_|intro hsp))
  all_goals first|exact end_plain rfl plain_nne|(exfalso;omega)
end
end Go.Proofs.YtphggldkligldaaGreat.Sh
