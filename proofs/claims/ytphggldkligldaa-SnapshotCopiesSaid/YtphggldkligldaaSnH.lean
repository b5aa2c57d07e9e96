/-
 A book: its memory,and contracts over it.
 The table's calls,for any numbers.
 A book's inner calls: is,space,slot,give,bytes.
-/
import Derived.Test.YtphggldkligldaaEc
import Derived.Test.YtphggldkligldaaYq
import Derived.Test.YtphggldkligldaaSnE
set_option linter.unusedSimpArgs false
set_option linter.unusedVariables false
namespace Go.Proofs.Ytphggldkligldaa.Sh
open Go Go.Am Go.Pol
def bkN (q:Bk) (t:TS) (o i a b c d e g:Nat):List (Nat × AObj):=(o,.cells [.ptr i 0])::(i,.cells [.ptr a 0,.ptr g 0,.int .i64 (q.a:Nat),.int .i64 (q.n:Nat)])::rdN t q.s a b c d e g
structure LocB (f z:Nat) (avs:List AV) (q:Bk) (t:TS) (r:AV) (q':Bk) (t':TS):Prop where
 out:LocC Try.prog G0 f (.ptr z 0::avs) (bkN q t 0 1 2 3 4 5 6 7) 8 fun x h1=>x=r∧h1=⟨bkN q' t' 0 1 2 3 4 5 6 7,8⟩
 pa:∀ x ∈ avs,Plain x
 pr:Plain r
theorem end_BK {top:Bool} {h:Hp} {N0:Nat} {x r:AV} {q:Bk} {t:TS} (hr:SubH (rn []) h ⟨bkN q t 0 1 2 3 4 5 6 7,8⟩→WkV Try.prog (rn []) h ⟨bkN q t 0 1 2 3 4 5 6 7,8⟩ x r) (g0:lk h.l 0=some (.cells [.ptr 1 0])) (g1:lk h.l 1=some (.cells [.ptr 2 0,.ptr 7 0,.int .i64 (q.a:Nat),.int .i64 (q.n:Nat)])) (h0:lk h.l 2=some (.cells (tabC 3 6 t.C))) (h1:lk h.l 3=some (.cells [.sl 4 0 t.n t.n 7,.sl 5 0 t.m t.m 3,.int .i64 (t.S.fr:Nat)])) (h2:lk h.l 4=some (.cells (cellsB t.n t.V t.W t.V3 t.V4 t.S.L t.S.N t.S.P))) (h3:lk h.l 5=some (.cells (endsB t.m t.S.A t.S.B t.S.C))) (h4:lk h.l 6=some (.maps (t.E.map keyE))) (h5:lk h.l 7=some (.cells q.s.a)) (hN0:N0≤8:=by decide) :
  EndX top Try.prog N0 h x (fun r' h'=>r'=r∧h'=⟨bkN q t 0 1 2 3 4 5 6 7,8⟩):=by
 have hs:SubH (rn []) h ⟨bkN q t 0 1 2 3 4 5 6 7,8⟩:=fun i o hi=>by
  simp only [bkN,rdN,lk] at hi
  show ∃ o',lk h.l i=some o'
  split at hi
  ·rename_i e;subst e;exact ⟨_,g0⟩
  ·split at hi
   ·rename_i e;subst e;exact ⟨_,g1⟩
   ·split at hi
    ·rename_i e;subst e;exact ⟨_,h0⟩
    ·split at hi
     ·rename_i e;subst e;exact ⟨_,h1⟩
     ·split at hi
      ·rename_i e;subst e;exact ⟨_,h2⟩
      ·split at hi
       ·rename_i e;subst e;exact ⟨_,h3⟩
       ·split at hi
        ·rename_i e;subst e;exact ⟨_,h4⟩
        ·split at hi
         ·rename_i e;subst e;exact ⟨_,h5⟩
         ·cases hi
 refine end_loc [] rfl hN0 (oneOf_of rfl) (hr hs) ?_ ⟨rfl,rfl⟩
 exact wko_cells (show 0 < 8 by decide) g0 (wkl_cons (wk_ptr (i:=1) rfl (show 1 < 8 by decide)) wkl_nil)
  (wko_cells (show 1 < 8 by decide) g1 (wkl_cons (wk_ptr (i:=2) rfl (show 2 < 8 by decide)) (wkl_cons (wk_ptr (i:=7) rfl (show 7 < 8 by decide)) (wkl_cons (wk_int rfl) (wkl_cons (wk_int rfl) wkl_nil))))
  (wko_tab hs (show 2 < 8 by decide) h0 rfl (show 3 < 8 by decide) rfl (show 6 < 8 by decide)
  (wko_cells (show 3 < 8 by decide) h1 (wkl_cons (wk_sl rfl (show 4 < 8 by decide) rfl (Nat.le_refl _) (Nat.le_refl _)) (wkl_cons (wk_sl rfl (show 5 < 8 by decide) rfl (Nat.le_refl _) (Nat.le_refl _)) (wkl_cons (wk_int rfl) wkl_nil)))
  (wko_plain hs (show 4 < 8 by decide) h2 rfl cells_plain (wko_plain hs (show 5 < 8 by decide) h3 rfl ends_plain (wko_maps hs (show 6 < 8 by decide) h4 rfl key_plain (wko_plain hs (show 7 < 8 by decide) h5 rfl a_plain wko_nil)))))))
theorem end_bk {top:Bool} {h:Hp} {N0:Nat} {x r:AV} {q:Bk} {t:TS} (hx:x=r) (hp:Plain r) (g0:lk h.l 0=some (.cells [.ptr 1 0])) (g1:lk h.l 1=some (.cells [.ptr 2 0,.ptr 7 0,.int .i64 (q.a:Nat),.int .i64 (q.n:Nat)])) (h0:lk h.l 2=some (.cells (tabC 3 6 t.C))) (h1:lk h.l 3=some (.cells [.sl 4 0 t.n t.n 7,.sl 5 0 t.m t.m 3,.int .i64 (t.S.fr:Nat)])) (h2:lk h.l 4=some (.cells (cellsB t.n t.V t.W t.V3 t.V4 t.S.L t.S.N t.S.P))) (h3:lk h.l 5=some (.cells (endsB t.m t.S.A t.S.B t.S.C))) (h4:lk h.l 6=some (.maps (t.E.map keyE))) (h5:lk h.l 7=some (.cells q.s.a)) (hN0:N0≤8:=by decide) :
  EndX top Try.prog N0 h x (fun r' h'=>r'=r∧h'=⟨bkN q t 0 1 2 3 4 5 6 7,8⟩):=by
 subst hx
 exact end_BK (fun hs=>wk_plain hs hp) g0 g1 h0 h1 h2 h3 h4 h5 hN0
theorem bk_not {q:Bk} {t:TS} {d:Nat} (hd:8≤d):∀ j o,lk (Hp.l ⟨bkN q t 0 1 2 3 4 5 6 7,8⟩) j=some o→rn [] j ≠ d:=fun j o hj=>by
 have : j < 8:=Classical.byContradiction fun hn=>by
  simp only [bkN,rdN,lk] at hj
  repeat' split at hj
  all_goals first|omega|cases hj
 show j ≠ d
 omega
theorem cx_bz {f z p:Nat} {avs:List AV} {q q':Bk} {t t':TS} {o i a b c d e g nx:Nat} {l:List (Nat × AObj)} {r:AV} {K:AV→Hp→Prop} (hc:LocB f z avs q t r q' t')
  (hz:enter [o,i,a,b,c,d,e,g] p z)
  (g0:lk l o=some (.cells [.ptr i 0])) (g1:lk l i=some (.cells [.ptr a 0,.ptr g 0,.int .i64 (q.a:Nat),.int .i64 (q.n:Nat)])) (h0:lk l a=some (.cells (tabC b e t.C))) (h1:lk l b=some (.cells [.sl c 0 t.n t.n 7,.sl d 0 t.m t.m 3,.int .i64 (t.S.fr:Nat)])) (h2:lk l c=some (.cells (cellsB t.n t.V t.W t.V3 t.V4 t.S.L t.S.N t.S.P))) (h3:lk l d=some (.cells (endsB t.m t.S.A t.S.B t.S.C))) (h4:lk l e=some (.maps (t.E.map keyE))) (h5:lk l g=some (.cells q.s.a))
  (hlt:o < nx∧i < nx∧a < nx∧b < nx∧c < nx∧d < nx∧e < nx∧g < nx) (hd:nodB [o,i,a,b,c,d,e,g]=true)
  (hk:filtK [o,i,a,b,c,d,e,g] l fun l2=>K r ⟨([(o,.cells [.ptr i 0]),(i,.cells [.ptr a 0,.ptr g 0,.int .i64 (q'.a:Nat),.int .i64 (q'.n:Nat)]),(a,.cells (tabC b e t'.C)),(b,.cells [.sl c 0 t'.n t'.n 7,.sl d 0 t'.m t'.m 3,.int .i64 (t'.S.fr:Nat)]),(c,.cells (cellsB t'.n t'.V t'.W t'.V3 t'.V4 t'.S.L t'.S.N t'.S.P)),(d,.cells (endsB t'.m t'.S.A t'.S.B t'.S.C)),(e,.maps (t'.E.map keyE)),(g,.cells q'.s.a)]:List (Nat × AObj))++l2,nx⟩):CallX Try.prog G0 (.fn f [] []) (.ptr p 0::avs) ⟨l,nx⟩ K:=by
 have e0:enter [o,i,a,b,c,d,e,g] o 0:=rfl
 have e1:enter [o,i,a,b,c,d,e,g] i 1:=rfl
 have e2:enter [o,i,a,b,c,d,e,g] a 2:=rfl
 have e3:enter [o,i,a,b,c,d,e,g] b 3:=rfl
 have e4:enter [o,i,a,b,c,d,e,g] c 4:=rfl
 have e5:enter [o,i,a,b,c,d,e,g] d 5:=rfl
 have e6:enter [o,i,a,b,c,d,e,g] e 6:=rfl
 have e7:enter [o,i,a,b,c,d,e,g] g 7:=rfl
 have k0:back [o,i,a,b,c,d,e,g] nx 0 o:=rfl
 have k1:back [o,i,a,b,c,d,e,g] nx 1 i:=rfl
 have k2:back [o,i,a,b,c,d,e,g] nx 2 a:=rfl
 have k3:back [o,i,a,b,c,d,e,g] nx 3 b:=rfl
 have k4:back [o,i,a,b,c,d,e,g] nx 4 c:=rfl
 have k5:back [o,i,a,b,c,d,e,g] nx 5 d:=rfl
 have k6:back [o,i,a,b,c,d,e,g] nx 6 e:=rfl
 have k7:back [o,i,a,b,c,d,e,g] nx 7 g:=rfl
 refine cx_loc (l1:=bkN q' t' o i a b c d e g) [o,i,a,b,c,d,e,g] hc.out plainG hd
  (.cons e0 g0 ⟨rn_ptr e1,trivial⟩ (.cons e1 g1 ⟨rn_ptr e2,rn_ptr e7,rn_plain plain_int,rn_plain plain_int,trivial⟩ (.cons e2 h0 (rn_tabC e3 e6) (.cons e3 h1 ⟨rn_sl e4,rn_sl e5,rn_plain plain_int,trivial⟩ (.cons e4 h2 rnl_cells (.cons e5 h3 rnl_ends (.maps e6 h4 key_plain (.cons e7 h5 (rnl_plain a_plain) .nil))))))))
  ?_ (by intro x hx;simp only [List.mem_cons,List.not_mem_nil,or_false] at hx;omega) (rn_plain hc.pr)
  (.cons k0 ⟨rn_ptr k1,trivial⟩ (.cons k1 ⟨rn_ptr k2,rn_ptr k7,rn_plain plain_int,rn_plain plain_int,trivial⟩ (.cons k2 (rn_tabC k3 k6) (.cons k3 ⟨rn_sl k4,rn_sl k5,rn_plain plain_int,trivial⟩ (.cons k4 rnl_cells (.cons k5 rnl_ends (.maps k6 key_plain (.cons k7 (rnl_plain a_plain) .nil)))))))) hk
 simp only [List.nil_append,List.append_nil]
 exact ⟨rn_ptr hz,rnl_plain hc.pa⟩
theorem cx_b0 {f:Nat} {avs:List AV} {q q':Bk} {t t':TS} {o i a b c d e g nx:Nat} {l:List (Nat × AObj)} {r:AV} {K:AV→Hp→Prop} (hc:LocB f 0 avs q t r q' t')
  (g0:lk l o=some (.cells [.ptr i 0])) (g1:lk l i=some (.cells [.ptr a 0,.ptr g 0,.int .i64 (q.a:Nat),.int .i64 (q.n:Nat)])) (h0:lk l a=some (.cells (tabC b e t.C))) (h1:lk l b=some (.cells [.sl c 0 t.n t.n 7,.sl d 0 t.m t.m 3,.int .i64 (t.S.fr:Nat)])) (h2:lk l c=some (.cells (cellsB t.n t.V t.W t.V3 t.V4 t.S.L t.S.N t.S.P))) (h3:lk l d=some (.cells (endsB t.m t.S.A t.S.B t.S.C))) (h4:lk l e=some (.maps (t.E.map keyE))) (h5:lk l g=some (.cells q.s.a))
  (hlt:o < nx∧i < nx∧a < nx∧b < nx∧c < nx∧d < nx∧e < nx∧g < nx) (hd:nodB [o,i,a,b,c,d,e,g]=true)
  (hk:filtK [o,i,a,b,c,d,e,g] l fun l2=>K r ⟨([(o,.cells [.ptr i 0]),(i,.cells [.ptr a 0,.ptr g 0,.int .i64 (q'.a:Nat),.int .i64 (q'.n:Nat)]),(a,.cells (tabC b e t'.C)),(b,.cells [.sl c 0 t'.n t'.n 7,.sl d 0 t'.m t'.m 3,.int .i64 (t'.S.fr:Nat)]),(c,.cells (cellsB t'.n t'.V t'.W t'.V3 t'.V4 t'.S.L t'.S.N t'.S.P)),(d,.cells (endsB t'.m t'.S.A t'.S.B t'.S.C)),(e,.maps (t'.E.map keyE)),(g,.cells q'.s.a)]:List (Nat × AObj))++l2,nx⟩):CallX Try.prog G0 (.fn f [] []) (.ptr o 0::avs) ⟨l,nx⟩ K:=cx_bz hc rfl g0 g1 h0 h1 h2 h3 h4 h5 hlt hd hk
theorem cx_b1 {f:Nat} {avs:List AV} {q q':Bk} {t t':TS} {o i a b c d e g nx:Nat} {l:List (Nat × AObj)} {r:AV} {K:AV→Hp→Prop} (hc:LocB f 1 avs q t r q' t')
  (g1:lk l i=some (.cells [.ptr a 0,.ptr g 0,.int .i64 (q.a:Nat),.int .i64 (q.n:Nat)])) (g0:lk l o=some (.cells [.ptr i 0])) (h0:lk l a=some (.cells (tabC b e t.C))) (h1:lk l b=some (.cells [.sl c 0 t.n t.n 7,.sl d 0 t.m t.m 3,.int .i64 (t.S.fr:Nat)])) (h2:lk l c=some (.cells (cellsB t.n t.V t.W t.V3 t.V4 t.S.L t.S.N t.S.P))) (h3:lk l d=some (.cells (endsB t.m t.S.A t.S.B t.S.C))) (h4:lk l e=some (.maps (t.E.map keyE))) (h5:lk l g=some (.cells q.s.a))
  (hlt:o < nx∧i < nx∧a < nx∧b < nx∧c < nx∧d < nx∧e < nx∧g < nx) (hd:nodB [o,i,a,b,c,d,e,g]=true)
  (hk:filtK [o,i,a,b,c,d,e,g] l fun l2=>K r ⟨([(o,.cells [.ptr i 0]),(i,.cells [.ptr a 0,.ptr g 0,.int .i64 (q'.a:Nat),.int .i64 (q'.n:Nat)]),(a,.cells (tabC b e t'.C)),(b,.cells [.sl c 0 t'.n t'.n 7,.sl d 0 t'.m t'.m 3,.int .i64 (t'.S.fr:Nat)]),(c,.cells (cellsB t'.n t'.V t'.W t'.V3 t'.V4 t'.S.L t'.S.N t'.S.P)),(d,.cells (endsB t'.m t'.S.A t'.S.B t'.S.C)),(e,.maps (t'.E.map keyE)),(g,.cells q'.s.a)]:List (Nat × AObj))++l2,nx⟩):CallX Try.prog G0 (.fn f [] []) (.ptr i 0::avs) ⟨l,nx⟩ K:=cx_bz hc rfl g0 g1 h0 h1 h2 h3 h4 h5 hlt hd hk
end Go.Proofs.Ytphggldkligldaa.Sh
namespace Go.Proofs.Ytphggldkligldaa.Sh
open Go Go.Am Go.Pol
theorem wx_Jb {p q:Prop} (hq:q) (h:HidP q→p:=by (intro hQz;((repeat' ((try (conv=>whnf));first|(with_reducible first|refine run_cons ?_|refine runq_cons ?_|refine code_seq ?_|refine code_reg ?_|refine code_cond ?_|refine run_nil ?_|refine runq_nil ?_|refine rund_op rfl ?_|refine rund_nil ?_|refine code_block ?_|refine code_skip ?_|refine code_exit ?_|refine code_ret ?_|refine code_range ?_|refine rund_fast (by decide +kernel) ?_|refine rund_slow (by decide +kernel) ?_|refine br_tt ?_|refine br_ff ?_|refine br_n ?_|refine br_and ?_|refine br_or ?_|refine br_t (by assumption) ?_|refine br_f (by assumption) ?_|refine eq_i64 (by omega) ?_|refine el_tn ?_)|((with_reducible refine br_dt ?_ ?_);focus omega)|((with_reducible refine br_df ?_ ?_);focus omega)|((with_reducible apply br_dq hQz)<;>(try intro hsp hQz))|((with_reducible refine ck_x ?_ ?_);focus (first|omega|rfl|assumption|decide|(simp only [List.length_map,List.length_cons,List.length_nil];omega)))|(with_reducible first|refine eq_tn ?_|refine eq_tn1 ?_|refine eq_tn2 ?_|refine eq_m1 ?_|refine eq_m2 ?_|refine eq_zm ?_|refine eq_z ?_|refine len_map ?_|refine len_sl ?_|refine len_nils ?_|refine len_own' ?_|refine len_isl ?_|refine eq_u8 (by omega) ?_|refine eq_u16 (by omega) ?_)|(with_reducible first|refine eq_rfl ?_|refine ChkX.mk (by kernel_rfl) ?_|refine code_q rfl ?_|refine code_d (by decide +kernel) ?_|refine end_go rfl ?_)|refine cx_tab (by assumption) rfl rfl rfl rfl rfl (by decide) rfl ?_|refine cx_locS (by assumption) rfl (by decide) ?_|refine len_map ?_|refine len_isl ?_|refine el_of rfl rfl ?_|refine del_own ?_|refine del_own' rfl ?_|refine as_go rfl ?_|refine rd_go rfl ?_|refine rg_end rfl ?_|refine flat_ownX ?_|refine EqLX.mk ?_|((with_reducible apply br_bq hQz)<;>(try intro hsp hQz))|exact hQz.out))<;>(try (conv=>whnf))))):p:=h ⟨hq⟩
theorem nat_in {m:Int} {x:Int} (h:inR m x):∃ n:Nat,x=(n:Int)∧(n:Int) < m:=⟨x.toNat,by have:=h.1;omega,by have:=h.1;have:=h.2;omega⟩
section
variable {L:List Vw} {t:TS}
theorem gone_4k {a:Nat}:(goneL L a).length≤4000:=Nat.le_trans (goneU_le _ _) (by decide)
theorem u_Find_none (h:TOk L t) {a k:Int} (hi:inR 64 a∧inR 1024 k) (hf:fndL L a.toNat k.toNat=none):LocT 28 [.int .i64 a,.int .i64 k] t (.tup [.agg [.int .i64 0,.int .i64 0,.int .i64 0,.bool false],.int .i64 4]) t:=by
 obtain ⟨⟨a1,a2⟩,k1,k2⟩:=hi
 have:=t_Find_none h (a:=a.toNat) (k:=k.toNat) (by omega) (by omega) (fnd_none hf)
 rwa [Int.toNat_of_nonneg a1,Int.toNat_of_nonneg k1] at this
theorem u_Find (h:TOk L t) {a k:Int} (hi:inR 64 a∧inR 1024 k) {v:Vw} (hf:fndL L a.toNat k.toNat=some v):LocT 28 [.int .i64 a,.int .i64 k] t (.tup [.agg [.int .i64 a,.int .i64 k,.int .i64 (v.2.2.1:Nat),.bool v.2.2.2],.int .i64 0]) t:=by
 obtain ⟨⟨a1,a2⟩,k1,k2⟩:=hi
 obtain ⟨hv,e1,e2⟩:=fnd_some hf
 have e1:v.1=a.toNat:=e1
 have e2:v.2.1=k.toNat:=e2
 have:=t_Find h hv
 unfold vwC at this
 rwa [e1,e2,Int.toNat_of_nonneg a1,Int.toNat_of_nonneg k1] at this
theorem u_Count (h:TOk L t) {f:Nat} (hf:f < 1024):LocT 41 [.int .i64 (f:Nat)] t (.tup [.int .i64 (cntF L f:Nat),.int .i64 0]) t:=by
 have:=t_Count (t:=t) hf
 rwa [h.cnt] at this
theorem u_Map (h:TOk L t) {a k:Int} {f:Nat} (hi:inR 64 a∧inR 1024 k) (hf4:f < 1024) (hf:fndL L a.toNat k.toNat=none) (hl:L.length < 2000):∃ t',TOk (insV (a.toNat,k.toNat,f,true) L) t'∧LocT 40 [.agg [.int .i64 a,.int .i64 k,.int .i64 (f:Nat),.bool true]] t (.int .i64 0) t':=by
 obtain ⟨⟨a1,a2⟩,k1,k2⟩:=hi
 obtain ⟨t',h1,h2⟩:=t_Map h (v:=(a.toNat,k.toNat,f,true)) ⟨(by omega:a.toNat < 64),(by omega:k.toNat < 1024),hf4⟩ (fnd_none hf) hl
 refine ⟨t',h1,?_⟩
 unfold vwC at h2
 dsimp only at h2
 rwa [Int.toNat_of_nonneg a1,Int.toNat_of_nonneg k1] at h2
theorem u_Unmap_none (h:TOk L t) {a k:Int} (hi:inR 64 a∧inR 1024 k) (hf:fndL L a.toNat k.toNat=none):LocT 49 [.int .i64 a,.int .i64 k] t (.tup [.int .i64 0,.int .i64 0,.int .i64 4]) t:=by
 obtain ⟨⟨a1,a2⟩,k1,k2⟩:=hi
 have:=t_Unmap_none h (a:=a.toNat) (k:=k.toNat) (by omega) (by omega) (fnd_none hf)
 rwa [Int.toNat_of_nonneg a1,Int.toNat_of_nonneg k1] at this
theorem u_at {a k:Int} (hi:inR 64 a∧inR 1024 k) {v:Vw} (hf:fndL L a.toNat k.toNat=some v):v ∈ L∧((v.1:Nat):Int)=a∧((v.2.1:Nat):Int)=k∧v.1=a.toNat∧v.2.1=k.toNat:=by
 obtain ⟨⟨a1,a2⟩,k1,k2⟩:=hi
 obtain ⟨hv,e1,e2⟩:=fnd_some hf
 have e1:v.1=a.toNat:=e1
 have e2:v.2.1=k.toNat:=e2
 exact ⟨hv,by omega,by omega,e1,e2⟩
theorem u_Unmap (h:TOk L t) {a k:Int} (hi:inR 64 a∧inR 1024 k) {v:Vw} (hf:fndL L a.toNat k.toNat=some v):∃ t',TOk (delL L a.toNat k.toNat) t'∧LocT 49 [.int .i64 a,.int .i64 k] t (.tup [.int .i64 (v.2.2.1:Nat),.int .i64 (cntF (delL L a.toNat k.toNat) v.2.2.1:Nat),.int .i64 0]) t':=by
 obtain ⟨hv,e1,e2,e3,e4⟩:=u_at hi hf
 obtain ⟨s,hs,hu⟩:=h.slot hv
 obtain ⟨t',A,B,X,Y,hL,h1,_,_,_,h2⟩:=t_Unmap h hs hu
 have hsr:=h.srt
 have hd:delL L a.toNat k.toNat=A++B:=by rw [hL] at hsr ⊢;rw [← e3,← e4,del_split hsr]
 rw [e1,e2] at h2
 rw [hd]
 exact ⟨t',h1,h2⟩
theorem u_Protect (h:TOk L t) {a k:Int} (hi:inR 64 a∧inR 1024 k) {v:Vw} (hf:fndL L a.toNat k.toNat=some v) (w:Bool):∃ t',TOk (setL (prV w) a.toNat k.toNat L) t'∧LocT 42 [.int .i64 a,.int .i64 k,.bool w] t (.int .i64 0) t':=by
 obtain ⟨hv,e1,e2,e3,e4⟩:=u_at hi hf
 obtain ⟨s,hs,hu⟩:=h.slot hv
 obtain ⟨t',A,B,hL,h1,h2⟩:=t_Protect h hs hu w
 have hsr:=h.srt
 have hd:setL (prV w) a.toNat k.toNat L=A++prV w v::B:=by rw [hL] at hsr ⊢;rw [← e3,← e4,set_split hsr]
 rw [e1,e2] at h2
 rw [hd]
 exact ⟨t',h1,h2⟩
theorem u_Split (h:TOk L t) {a k:Int} (hi:inR 64 a∧inR 1024 k) {v:Vw} (hf:fndL L a.toNat k.toNat=some v) {f:Nat} (hf4:f < 1024) (hc:cntF L f=0):∃ t',TOk (setL (frV f) a.toNat k.toNat L) t'∧LocT 43 [.int .i64 a,.int .i64 k,.int .i64 (f:Nat)] t (.int .i64 0) t':=by
 obtain ⟨hv,e1,e2,e3,e4⟩:=u_at hi hf
 obtain ⟨s,hs,hu⟩:=h.slot hv
 obtain ⟨t',A,B,hL,h1,h2⟩:=t_Split h hs hu hf4 hc
 have hsr:=h.srt
 have hd:setL (frV f) a.toNat k.toNat L=A++frV f v::B:=by rw [hL] at hsr ⊢;rw [← e3,← e4,set_split hsr]
 rw [e1,e2] at h2
 rw [hd]
 exact ⟨t',h1,h2⟩
theorem u_Fork {q:Bk} (h:TOk q.L t) (a b:Int):∃ t',TOk (q.take a b).2.2.L t'∧LocT 45 [.int .i64 a,.int .i64 b] t (.tup [.int .i64 (q.take a b).1,.int .i64 (q.take a b).2.1]) t':=by
 unfold Bk.take
 by_cases hr:inR 64 a∧inR 64 b
 ·rw [if_neg (by rw [Classical.not_not];exact hr)]
  obtain ⟨a',rfl,ha⟩:=nat_in hr.1
  obtain ⟨b',rfl,hb⟩:=nat_in hr.2
  have ha':a' < 64:=by omega
  have hb':b' < 64:=by omega
  rw [Int.toNat_natCast,Int.toNat_natCast]
  by_cases hab:a'=b'
  ·rw [if_pos (by rw [hab])]
   exact ⟨t,h,t_Fork_bad h ha' hb' (.inl ⟨rfl,hab⟩)⟩
  ·rw [if_neg (by omega)]
   by_cases hB:(ofA b' q.L).length=0
   ·rw [if_neg (by rw [Classical.not_not];exact hB)]
    by_cases hf:2000 < q.L.length+(ofA a' q.L).length
    ·rw [if_pos hf]
     exact ⟨t,h,t_Fork_bad h ha' hb' (.inr (.inr ⟨rfl,hab,hB,hf⟩))⟩
    ·rw [if_neg hf]
     have hnb:ofA b' q.L=[]:=List.eq_nil_of_length_eq_zero hB
     obtain ⟨t',M,h1,h2,h3⟩:=t_Fork h hab ha' hb' hnb (by omega)
     have e:=fork_same h.srt h1.srt hnb h2
     rw [e] at h1
     exact ⟨t',h1,h3⟩
   ·rw [if_pos hB]
    exact ⟨t,h,t_Fork_bad h ha' hb' (.inr (.inl ⟨rfl,hab,hB⟩))⟩
 ·rw [if_pos hr]
  exact ⟨t,h,t_Fork_no a b hr⟩
theorem u_where {q:Bk} (h:TOk q.L t) (a at_:Int) (w:Bool):LocT 69 [.int .i64 a,.int .i64 at_,.bool w] t (.tup [.int .i64 (q.where_ a at_ w).1,.int .i64 (q.where_ a at_ w).2]) t:=by
 unfold Bk.where_
 by_cases hat:inR 65536 at_
 ·obtain ⟨at',rfl,hat'⟩:=nat_in hat
  by_cases ha:inR 64 a
  ·obtain ⟨a',rfl,ha'⟩:=nat_in ha
   rw [if_neg (by rw [Classical.not_not];exact ⟨ha,hat⟩),Int.toNat_natCast,Int.toNat_natCast]
   cases hf:fndL q.L a' (at' / 64) with
   | none=>exact t_where_none h (by omega) (by omega) (fnd_none hf) w
   | some v =>
    obtain ⟨hv,e1,e2⟩:=fnd_some hf
    have e1:v.1=a':=e1
    have e2:v.2.1=at' / 64:=e2
    dsimp only
    by_cases hw:w=true∧v.2.2.2=false
    ·rw [if_pos hw]
     have:=t_where_ro h hv (by omega) e2 hw.2
     rw [e1] at this;rw [hw.1];exact this
    ·rw [if_neg hw]
     have:=t_where h hv (at_:=at') (by omega) e2 (w:=w) fun e=>by
      cases hb:v.2.2.2
      ·exact absurd ⟨e,hb⟩ hw
      ·rfl
     rw [e1] at this;exact this
  ·rw [if_pos fun e=>ha e.1]
   exact t_where_no a at' w (by omega) ha
 ·rw [if_pos fun e=>hat e.2]
  exact t_where_far a at_ w hat
theorem u_Read {q:Bk} (h:TOk q.L t) (a at_:Int):LocTX 46 [.int .i64 a,.int .i64 at_] t q.s (.tup [.int .u8 (q.read a at_).1,.int .i64 (q.read a at_).2]) q.s:=by
 have h1:=u_where h a at_ false
 have hr:=p_read (s:=q.s) (a:=(q.where_ a at_ false).1)
 unfold Bk.read
 generalize (q.where_ a at_ false)=x at *
 obtain ⟨k,e⟩:=x
 dsimp only at *
 generalize q.s=s at *
 by_cases he:e=0
 ·rw [if_pos he]
  refine ⟨loc_x hmix b46 rfl ?_,by simp [plain_int],plain_tui⟩
  unfold c46
  unfold rdN
  (refine wx_Jb ?_;repeat' (first|with_reducible refine And.intro ?_ ?_|intro hsp))
  all_goals exact end_TX (fun hs=>wk_plain hs plain_tui) rfl rfl rfl rfl rfl rfl
 ·rw [if_neg he]
  refine ⟨loc_x hmix b46 rfl ?_,by simp [plain_int],plain_tui⟩
  unfold c46
  unfold rdN
  (refine wx_Jb ?_;repeat' (first|with_reducible refine And.intro ?_ ?_|intro hsp))
  all_goals exact end_TX (fun hs=>wk_plain hs plain_tui) rfl rfl rfl rfl rfl rfl
theorem u_Write {q:Bk} (h:TOk q.L t) (a at_ b:Int):LocTX 44 [.int .i64 a,.int .i64 at_,.int .u8 b] t q.s (.int .i64 (q.put a at_ b).1) (q.put a at_ b).2.s:=by
 have h1:=u_where h a at_ true
 have hr:=p_write (s:=q.s) (a:=(q.where_ a at_ true).1) (b:=b)
 unfold Bk.put
 generalize (q.where_ a at_ true)=x at *
 obtain ⟨k,e⟩:=x
 dsimp only at *
 by_cases he:e=0
 ·rw [if_pos he]
  dsimp only
  generalize q.s.write k b=y at *
  generalize q.s=s at *
  obtain ⟨e2,s2⟩:=y
  dsimp only at *
  refine ⟨loc_x hmix b44 rfl ?_,by simp [plain_int],plain_int⟩
  unfold c44
  unfold rdN
  (refine wx_Jb ?_;repeat' (first|with_reducible refine And.intro ?_ ?_|intro hsp))
  all_goals exact end_TX (fun hs=>wk_plain hs plain_int) rfl rfl rfl rfl rfl rfl
 ·rw [if_neg he]
  dsimp only
  generalize q.s=s at *
  refine ⟨loc_x hmix b44 rfl ?_,by simp [plain_int],plain_int⟩
  unfold c44
  unfold rdN
  (refine wx_Jb ?_;repeat' (first|with_reducible refine And.intro ?_ ?_|intro hsp))
  all_goals exact end_TX (fun hs=>wk_plain hs plain_int) rfl rfl rfl rfl rfl rfl
end
end Go.Proofs.Ytphggldkligldaa.Sh
namespace Go.Pol
open Go.Am Go.Proofs.Ytphggldkligldaa.Sh
theorem giv_s {s:Sy} {G:List Nat} {i:Nat} (hi:i < G.length):givP s (G.take (i+1))=((givP s (G.take i)).chg (nth 0 G i:Nat) 1 2 1 3).2:=by
 rw [take_nth (d:=0) hi];unfold givP;rw [List.foldl_append];rfl
theorem giv_good {s:Sy} (h:GoodS s) (G:List Nat):∀ i,i≤G.length→GoodS (givP s (G.take i))
 | 0,_=>h
 | i+1,hi=>by rw [giv_s (by omega)];exact good_chg (giv_good h G i (by omega)) (by decide)
def rdK (f:Nat→Int) (k:Nat):Nat→AV:=fun j=>.int .u8 (if j < k then f j else 0)
def bcA (f:Nat→Int):List AV:=memA 64 fun j=>.int .u8 (f j)
theorem rdK_0 {f:Nat→Int}:memA 64 (rdK f 0)=List.replicate 64 (.int .u8 0):=by
 refine List.ext_getElem? fun i=>?_
 by_cases h:i < 64
 ·rw [List.getElem?_replicate,if_pos h,memA_get h];unfold rdK;rw [if_neg (by omega)]
 ·rw [List.getElem?_eq_none (by rw [memA_len];omega),List.getElem?_eq_none (by rw [List.length_replicate];omega)]
theorem rdK_s {f:Nat→Int} {k:Nat} (hk:k < 64):(memA 64 (rdK f k)).set k (.int .u8 (f k))=memA 64 (rdK f (k+1)):=by
 rw [memA_set]
 refine memA_congr fun j _=>?_
 unfold rdK
 split
 ·rename_i e;subst e;rw [if_pos (by omega)]
 ·rename_i e
  by_cases h:j < k
  ·rw [if_pos h,if_pos (by omega)]
  ·rw [if_neg h,if_neg (by omega)]
theorem rdK_all {f:Nat→Int}:memA 64 (rdK f 64)=bcA f:=memA_congr fun j hj=>by unfold rdK;rw [if_pos hj]
theorem rdK_plain {f:Nat→Int} {k:Nat}:∀ x ∈ memA 64 (rdK f k),Plain x:=memA_plain fun _ _=>plain_int
theorem bc_plain {f:Nat→Int}:∀ x ∈ bcA f,Plain x:=memA_plain fun _ _=>plain_int
theorem bc_len {f:Nat→Int}:(bcA f).length=64:=memA_len _ _
theorem over_pre:∀ (a cs:List AV),over (a++cs) a.length cs=a++cs
 | a,[]=>rfl
 | a,v::vs=>by
  show over ((a++v::vs).set a.length v) (a.length+1) vs=a++v::vs
  have e:(a++v::vs).set a.length v=(a++[v])++vs:=by simp
  have h:=over_pre (a++[v]) vs
  rw [List.length_append] at h
  rw [e]
  exact h.trans (by simp)
theorem over_self (cs:List AV):over cs 0 cs=cs:=over_pre [] cs
theorem bc_take {f:Nat→Int}:(bcA f).take 64=bcA f:=List.take_of_length_le (by rw [bc_len];exact Nat.le_refl _)
theorem in_lt {m n:Int} (h:0≤n):decide (n < m)=decide (inR m n):=decide_eq_decide.2 ⟨fun h2=>⟨h,h2⟩,fun h2=>h2.2⟩
theorem in_yes {m n:Int} (h:0≤n∧n < m):true=decide (inR m n):=(decide_eq_true (show inR m n from h)).symm
theorem in_not {m n:Int} (h:n < 0∨m≤n):false=decide (inR m n):=(decide_eq_false fun h2:inR m n=>by have:=h2.1;have:=h2.2;omega).symm
end Go.Pol
namespace Go.Proofs.Ytphggldkligldaa.Sh
open Go Go.Am Go.Pol
theorem plx_Jc {p:Prop} (h:p:=by ((first|assumption|exact plain_int|exact plain_bool|exact plain_undef|exact plain_nils|exact plain_nilp|exact plain_nilf|exact plain_str|with_reducible apply plain_int|with_reducible apply plain_bool|with_reducible apply plain_vwC|with_reducible apply plain_vwE|with_reducible apply plain_vs|with_reducible apply plain_stA|with_reducible apply plain_ns|with_reducible apply plain_bc|fail);first|done|fail)):p:=h
theorem prx_Jc {p:Prop} (h:p:=by (((repeat' (first|exact plain_all0|refine plain_all2 ?_ ?_|exact plain_int|first|assumption|exact plain_int|exact plain_bool|exact plain_undef|exact plain_nils|exact plain_nilp|exact plain_nilf|exact plain_str|with_reducible apply plain_int|with_reducible apply plain_bool|with_reducible apply plain_vwC|with_reducible apply plain_vwE|with_reducible apply plain_vs|with_reducible apply plain_stA|with_reducible apply plain_ns|with_reducible apply plain_bc)));first|done|fail)):p:=h
theorem ppx_Jc {p:Prop} (h:p:=by ((first|with_reducible assumption|with_reducible apply cells_plain|with_reducible apply ends_plain|with_reducible apply cnt_plain|with_reducible apply memI_plain _ _|with_reducible apply vw_plain|with_reducible apply nat_plain|with_reducible apply a_plain|with_reducible apply b_plain|with_reducible apply rdK_plain|with_reducible apply bc_plain|with_reducible apply plain_map (fun _=>plain_int)|with_reducible apply plain_map (fun _=>plain_bool)|exact prx_Jc|fail);first|done|fail)):p:=h
theorem wvx_Jc {p:Prop} (h:p:=by ((first|exact wk_undef|exact wk_int (by first|rfl|omega|(dsimp only;omega))|exact wk_bool rfl|exact wk_ptr rfl (by first|decide|simp|omega)|exact wk_map rfl (by first|decide|simp|omega)|exact wk_sl rfl (by first|decide|simp|omega) (by first|rfl|omega|simp) (by first|omega|simp) (by first|omega|simp)|exact wk_own rfl (by first|decide|simp|omega)|exact wk_nil0 (by first|rfl|simp)|exact wk_slown rfl (by first|decide|omega|(simp;done)) (by first|omega|(simp;done)) (by first|rfl|omega|(simp;done)|(simp;omega))|exact wk_plain hs plx_Jc|(with_reducible refine wk_fn ?_ ?_<;>repeat' (first|with_reducible exact wkl_nil|with_reducible refine wkl_cons ?_ ?_|exact wk_ptr rfl (by first|decide|simp|omega)))|(with_reducible refine wk_agg ?_;repeat' (first|with_reducible exact wkl_nil|with_reducible refine wkl_cons ?_ ?_|exact wk_int (by first|rfl|omega|(dsimp only;omega))|exact wk_bool rfl))|exact wk_yld rfl (by first|decide|simp|omega)|(with_reducible refine wk_tup ?_;repeat' (first|with_reducible exact wkl_nil|with_reducible refine wkl_cons ?_ ?_|exact wk_int (by first|rfl|omega|(dsimp only;omega))|exact wk_bool rfl|exact wk_ptr rfl (by first|decide|simp|omega)))|fail);first|done|fail)):p:=h
theorem wkx_Jc {p:Prop} (h:p:=by (refine weak_s (by exact oneOf_of rfl) (by exact subH_of rfl) (by intro hs;(repeat' ((try (conv=>whnf));first|with_reducible exact True.intro|with_reducible refine And.intro ?_ ?_|(with_reducible refine WkX.mk ?_;first|exact wvx_Jc|fail)))) (by intro hs;(try dsimp only);(repeat' (first|with_reducible exact wko_nil|refine wko_tab hs (by first|decide|omega|simp) rfl rfl (by first|decide|omega|simp) rfl (by first|decide|omega|simp) ?_|refine wko_maps hs (by first|decide|omega|simp) rfl rfl key_plain ?_|refine wko_plain hs (by first|decide|omega|simp) rfl (by first|rfl) (by (first|exact ppx_Jc|fail|((refine plain_app ?_ ?_)<;>(first|exact ppx_Jc|fail)))) ?_|refine wko_cells (by first|decide|omega|simp) rfl (by repeat' (first|with_reducible exact wkl_nil|with_reducible refine wkl_cons ?_ ?_|(first|exact wvx_Jc|fail))) ?_|refine wko_loop (by first|decide|omega|simp) rfl (by ((try subst hF);(try subst hF2);exact wkl_sd (wkf_sget (by (repeat' ((try (conv=>whnf));first|with_reducible exact True.intro|with_reducible refine And.intro ?_ ?_|(with_reducible refine WkX.mk ?_;first|exact wvx_Jc|fail))))))) ?_|exact wko_nil))))):p:=h
theorem wx_Jc {p q:Prop} (hq:q) (h:HidP q→p:=by (intro hQz;((repeat' ((try (conv=>whnf));first|(with_reducible first|refine run_cons ?_|refine runq_cons ?_|refine code_seq ?_|refine code_reg ?_|refine code_cond ?_|refine run_nil ?_|refine runq_nil ?_|refine rund_op rfl ?_|refine rund_nil ?_|refine code_block ?_|refine code_skip ?_|refine code_exit ?_|refine code_ret ?_|refine code_range ?_|refine rund_fast (by decide +kernel) ?_|refine rund_slow (by decide +kernel) ?_|refine br_tt ?_|refine br_ff ?_|refine br_n ?_|refine br_and ?_|refine br_or ?_|refine br_t (by assumption) ?_|refine br_f (by assumption) ?_|refine eq_i64 (by omega) ?_|refine el_tn ?_)|((with_reducible refine br_dt ?_ ?_);focus omega)|((with_reducible refine br_df ?_ ?_);focus omega)|((with_reducible apply br_dq hQz)<;>(try intro hsp hQz))|((with_reducible refine ck_x ?_ ?_);focus (first|omega|rfl|assumption|decide|(simp only [List.length_map,List.length_cons,List.length_nil];omega)))|(with_reducible first|refine eq_tn ?_|refine eq_tn1 ?_|refine eq_tn2 ?_|refine eq_m1 ?_|refine eq_m2 ?_|refine eq_zm ?_|refine eq_z ?_|refine len_map ?_|refine len_sl ?_|refine len_nils ?_|refine len_own' ?_|refine len_isl ?_|refine eq_u8 (by omega) ?_|refine eq_u16 (by omega) ?_)|refine el_mapE (d:=0) nat1_len (by first|assumption|omega) (by with_reducible assumption) ?_|refine set1K_of (by rw [memA_len];omega) hset ?_|refine dropK_of (by rw [bc_len];omega) List.drop_zero (takeK_of (by rw [bc_len];omega) bc_take ?_)|refine ⟨bc_len,?_⟩|refine overK_of (by simp only [bc_len];omega) (over_self _) ?_|(with_reducible first|refine eq_rfl ?_|refine ChkX.mk (by kernel_rfl) ?_|refine code_q rfl ?_|refine code_d (by decide +kernel) ?_|refine end_go rfl ?_)|refine cx_locS (by assumption) rfl (by decide) ?_|refine len_map ?_|refine len_isl ?_|refine el_of rfl rfl ?_|refine del_own ?_|refine del_own' rfl ?_|refine as_go rfl ?_|refine rd_go rfl ?_|refine rg_end rfl ?_|refine flat_ownX ?_|refine EqLX.mk ?_|((with_reducible apply br_bq hQz)<;>(try intro hsp hQz))|exact hQz.out))<;>(try (conv=>whnf))))):p:=h ⟨hq⟩
theorem plain_bc {f:Nat→Int}:Plain (.agg (bcA f)):=plain_agg bc_plain
theorem k_space (n:Int):PureS 27 [.int .i64 n] (.bool (decide (inR 64 n))):=by
 refine PureS.mk (pure_x hmix b27 plainG ⟨plain_int,trivial⟩ plain_bool rfl ?_)
 unfold c27
 (refine wx_Jc ?_;repeat' (first|with_reducible refine And.intro ?_ ?_|intro hsp))
 all_goals exact end_bool (by first|exact in_lt (by assumption)|exact in_yes (by omega)|exact in_not (by omega))
theorem k_slot (n:Int):PureS 38 [.int .i64 n] (.bool (decide (inR 1024 n))):=by
 refine PureS.mk (pure_x hmix b38 plainG ⟨plain_int,trivial⟩ plain_bool rfl ?_)
 unfold c38
 (refine wx_Jc ?_;repeat' (first|with_reducible refine And.intro ?_ ?_|intro hsp))
 all_goals exact end_bool (by first|exact in_lt (by assumption)|exact in_yes (by omega)|exact in_not (by omega))
section
variable {q:Bk} {t:TS}
theorem b_is:LocB 20 0 [] q t (.bool true) q t:=by
 refine LocB.mk (loc_x hmix b20 rfl ?_) (fun x hx=>by cases hx) plain_bool
 unfold c20
 unfold bkN rdN
 (refine wx_Jc ?_;repeat' (first|with_reducible refine And.intro ?_ ?_|intro hsp))
 all_goals exact end_bk rfl plain_bool rfl rfl rfl rfl rfl rfl rfl rfl
theorem b_give (hg:GoodS q.s) {G:List Nat} (hG:G.length≤4000):LocB 31 1 [.isl (G.map nat1)] q t (.tup []) { q with s:=givP q.s G } t:=by
 refine LocB.mk (loc_x hmix b31 rfl ?_) (fun x hx=>by obtain rfl:=List.mem_singleton.1 hx;exact plain_ns) plain_none
 unfold c31
 unfold bkN rdN
 (refine wx_Jc ?_;repeat' (first|with_reducible refine And.intro ?_ ?_|intro hsp))
 (refine loop_x [0,6,7] (fun (i:Nat)=>[(8,.int .i64 (i:Nat))]) (fun (i:Nat)=>⟨bkN { q with s:=givP q.s (G.take i) } t 0 1 2 3 4 5 6 7,8⟩) (fun (i:Nat)=>i≤G.length) (fun (i:Nat)=>G.length - i) (0) [] rfl (fun _=>by first|exact Nat.zero_le _|(dsimp only;omega)) ?_ (by ((try (conv=>whnf));exact wkx_Jc)) ?_)
 ·exact Nat.zero_le _
 intro i hi
 by_cases hil:i < G.length
 ·have c1:=p_decommit (a:=(nth 0 G i:Nat)) (n:=1) (giv_good hg G i hi)
  rw [← giv_s hil] at c1
  generalize hx:nth 0 G i=f at *
  unfold bkN rdN
  dsimp only
  (refine wx_Jc ?_;repeat' (first|with_reducible refine And.intro ?_ ?_|intro hsp))
  all_goals exact next_x (i+1) [] (by (try dsimp only);omega) (by first|omega|(dsimp only;omega)) rfl (by exact wkx_Jc)
 ·obtain rfl:i=G.length:=by omega
  rw [List.take_length]
  unfold bkN rdN
  dsimp only
  (refine wx_Jc ?_;repeat' (first|with_reducible refine And.intro ?_ ?_|intro hsp))
  all_goals exact end_bk (q:={ q with s:=givP q.s G }) rfl plain_none rfl rfl rfl rfl rfl rfl rfl rfl
theorem b_give_nil:LocB 31 1 [.nils] q t (.tup []) q t:=by
 refine LocB.mk (loc_x hmix b31 rfl ?_) (fun x hx=>by obtain rfl:=List.mem_singleton.1 hx;exact plain_nils) plain_none
 unfold c31
 unfold bkN rdN
 (refine wx_Jc ?_;repeat' (first|with_reducible refine And.intro ?_ ?_|intro hsp))
 (refine loop_x [0,6,7] (fun (i:Nat)=>[(8,.int .i64 (i:Nat))]) (fun (i:Nat)=>⟨bkN q t 0 1 2 3 4 5 6 7,8⟩) (fun (i:Nat)=>i=0) (fun (i:Nat)=>0) (0) [] rfl (fun _=>by first|exact Nat.zero_le _|(dsimp only;omega)) ?_ (by ((try (conv=>whnf));exact wkx_Jc)) ?_)
 ·rfl
 intro i hi
 unfold bkN rdN
 (refine wx_Jc ?_;repeat' (first|with_reducible refine And.intro ?_ ?_|intro hsp))
 all_goals exact end_bk rfl plain_none rfl rfl rfl rfl rfl rfl rfl rfl
theorem b_bytes {f:Nat} (hf:f < 1024) (hk:q.s.K f=2):LocB 29 1 [.int .i64 (f:Nat)] q t (.agg (bcA (q.s.B f))) q t:=by
 refine LocB.mk (loc_x hmix b29 rfl ?_) (fun x hx=>by obtain rfl:=List.mem_singleton.1 hx;exact plain_int) plain_bc
 unfold c29
 unfold bkN rdN
 rw [← rdK_0 (f:=q.s.B f)]
 (refine wx_Jc ?_;repeat' (first|with_reducible refine And.intro ?_ ?_|intro hsp))
 (refine loop_x [0,1,4] (fun (k:Nat)=>[(6,.int .i64 (k:Nat))]) (fun (k:Nat)=>⟨bkN q t 0 1 2 3 4 5 6 7++[(8,.cells (memA 64 (rdK (q.s.B f) k)))],9⟩) (fun (k:Nat)=>k≤64) (fun (k:Nat)=>64 - k) (0) [] rfl (fun _=>by first|exact Nat.zero_le _|(dsimp only;omega)) ?_ (by ((try (conv=>whnf));exact wkx_Jc)) ?_)
 ·exact Nat.zero_le _
 intro k hkk
 by_cases hkl:k < 64
 ·have c1:=p_read (s:=q.s) (a:=(f:Int) * 64+(k:Nat))
  rw [read_at hk hf hkl] at c1
  dsimp only at c1
  have hset:=rdK_s (f:=q.s.B f) hkl
  unfold bkN rdN
  generalize q.s.B f k=y at *
  (refine wx_Jc ?_;repeat' (first|with_reducible refine And.intro ?_ ?_|intro hsp))
  all_goals exact next_x (k+1) [] (by (try dsimp only);omega) (by first|omega|(dsimp only;omega)) rfl (by exact wkx_Jc)
 ·obtain rfl:k=64:=by omega
  rw [rdK_all]
  unfold bkN rdN
  (refine wx_Jc ?_;repeat' (first|with_reducible refine And.intro ?_ ?_|intro hsp))
  all_goals exact end_bk rfl plain_bc rfl rfl rfl rfl rfl rfl rfl rfl
end
end Go.Proofs.Ytphggldkligldaa.Sh
