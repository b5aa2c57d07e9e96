/-
 A book: its memory,and contracts over it.
 The table's calls,for any numbers.
 A book's inner calls: is,space,slot,give,bytes.
-/
import Derived.Test.YtphggldkligldaaGreatQg
set_option linter.unusedSimpArgs false
set_option linter.unusedVariables false
namespace Go.Proofs.YtphggldkligldaaGreat.Sh
open Go Go.Am Go.Pol
def bkN (q:Bk) (t:TS) (o i a b c d e g:Nat):List (Nat × AObj):=(o,.cells [.ptr i 0])::(i,.cells [.ptr a 0,.ptr g 0,.int .i64 (q.a:Nat),.int .i64 (q.n:Nat)])::rdN t q.s a b c d e g
structure AJ1 (f z:Nat) (avs:List AV) (q:Bk) (t:TS) (r:AV) (q':Bk) (t':TS):Prop where
 out:AT8 Tryz.prog G0 f (.ptr z 0::avs) (bkN q t 0 1 2 3 4 5 6 7) 8 fun x h1=>x=r∧h1=⟨bkN q' t' 0 1 2 3 4 5 6 7,8⟩
 pa:∀ x ∈ avs,Plain x
 pr:Plain r
theorem end_BK {top:Bool} {h:Hp} {N0:Nat} {x r:AV} {q:Bk} {t:TS} (hr:AG8 (rn []) h ⟨bkN q t 0 1 2 3 4 5 6 7,8⟩→WkV Tryz.prog (rn []) h ⟨bkN q t 0 1 2 3 4 5 6 7,8⟩ x r) (g0:lk h.l 0=some (.cells [.ptr 1 0])) (g1:lk h.l 1=some (.cells [.ptr 2 0,.ptr 7 0,.int .i64 (q.a:Nat),.int .i64 (q.n:Nat)])) (h0:lk h.l 2=some (.cells (tabC 3 6 t.C))) (h1:lk h.l 3=some (.cells [.sl 4 0 t.n t.n 7,.sl 5 0 t.m t.m 3,.int .i64 (t.S.fr:Nat)])) (h2:lk h.l 4=some (.cells (D6 t.n t.V t.W t.V3 t.V4 t.S.L t.S.N t.S.P))) (h3:lk h.l 5=some (.cells (N9 t.m t.S.A t.S.B t.S.C))) (h4:lk h.l 6=some (.maps (t.E.map AK9))) (h5:lk h.l 7=some (.cells q.s.a)) (hN0:N0≤8:=by decide) :
  AU3 top Tryz.prog N0 h x (fun r' h'=>r'=r∧h'=⟨bkN q t 0 1 2 3 4 5 6 7,8⟩):=by
 have hs:AG8 (rn []) h ⟨bkN q t 0 1 2 3 4 5 6 7,8⟩:=fun i o hi=>by
  simp only [bkN,rdN,lk] at hi
  show ∃ o',lk h.l i=some o'
  split at hi
  ·rename_i e;subst e;exact ⟨_,g0⟩
  ·split at hi
   ·rename_i e;subst e;exact ⟨_,g1⟩
   ·split at hi
    ·rename_i e;subst e;exact ⟨_,h0⟩
    ·split at hi
     ·rename_i e;subst e;exact ⟨_,h1⟩
     ·split at hi
      ·rename_i e;subst e;exact ⟨_,h2⟩
      ·split at hi
       ·rename_i e;subst e;exact ⟨_,h3⟩
       ·split at hi
        ·rename_i e;subst e;exact ⟨_,h4⟩
        ·split at hi
         ·rename_i e;subst e;exact ⟨_,h5⟩
         ·cases hi
 refine AA0 [] rfl hN0 (P6 rfl) (hr hs) ?_ ⟨rfl,rfl⟩
 exact I4 (show 0 < 8 by decide) g0 (C8 (R4 (i:=1) rfl (show 1 < 8 by decide)) F8)
  (I4 (show 1 < 8 by decide) g1 (C8 (R4 (i:=2) rfl (show 2 < 8 by decide)) (C8 (R4 (i:=7) rfl (show 7 < 8 by decide)) (C8 (K8 rfl) (C8 (K8 rfl) F8))))
  (AL7 hs (show 2 < 8 by decide) h0 rfl (show 3 < 8 by decide) rfl (show 6 < 8 by decide)
  (I4 (show 3 < 8 by decide) h1 (C8 (AE9 rfl (show 4 < 8 by decide) rfl (Nat.le_refl _) (Nat.le_refl _)) (C8 (AE9 rfl (show 5 < 8 by decide) rfl (Nat.le_refl _) (Nat.le_refl _)) (C8 (K8 rfl) F8)))
  (F5 hs (show 4 < 8 by decide) h2 rfl G9 (F5 hs (show 5 < 8 by decide) h3 rfl I7 (AD6 hs (show 6 < 8 by decide) h4 rfl K3 (F5 hs (show 7 < 8 by decide) h5 rfl J4 J8)))))))
theorem X5 {top:Bool} {h:Hp} {N0:Nat} {x r:AV} {q:Bk} {t:TS} (hx:x=r) (hp:Plain r) (g0:lk h.l 0=some (.cells [.ptr 1 0])) (g1:lk h.l 1=some (.cells [.ptr 2 0,.ptr 7 0,.int .i64 (q.a:Nat),.int .i64 (q.n:Nat)])) (h0:lk h.l 2=some (.cells (tabC 3 6 t.C))) (h1:lk h.l 3=some (.cells [.sl 4 0 t.n t.n 7,.sl 5 0 t.m t.m 3,.int .i64 (t.S.fr:Nat)])) (h2:lk h.l 4=some (.cells (D6 t.n t.V t.W t.V3 t.V4 t.S.L t.S.N t.S.P))) (h3:lk h.l 5=some (.cells (N9 t.m t.S.A t.S.B t.S.C))) (h4:lk h.l 6=some (.maps (t.E.map AK9))) (h5:lk h.l 7=some (.cells q.s.a)) (hN0:N0≤8:=by decide) :
  AU3 top Tryz.prog N0 h x (fun r' h'=>r'=r∧h'=⟨bkN q t 0 1 2 3 4 5 6 7,8⟩):=by
 subst hx
 exact end_BK (fun hs=>M8 hs hp) g0 g1 h0 h1 h2 h3 h4 h5 hN0
theorem bk_not {q:Bk} {t:TS} {d:Nat} (hd:8≤d):∀ j o,lk (Hp.l ⟨bkN q t 0 1 2 3 4 5 6 7,8⟩) j=some o→rn [] j ≠ d:=fun j o hj=>by
 have : j < 8:=Classical.byContradiction fun hn=>by
  simp only [bkN,rdN,lk] at hj
  repeat' split at hj
  all_goals first|omega|cases hj
 show j ≠ d
 omega
theorem cx_bz {f z p:Nat} {avs:List AV} {q q':Bk} {t t':TS} {o i a b c d e g nx:Nat} {l:List (Nat × AObj)} {r:AV} {K:AV→Hp→Prop} (hc:AJ1 f z avs q t r q' t')
  (hz:enter [o,i,a,b,c,d,e,g] p z)
  (g0:lk l o=some (.cells [.ptr i 0])) (g1:lk l i=some (.cells [.ptr a 0,.ptr g 0,.int .i64 (q.a:Nat),.int .i64 (q.n:Nat)])) (h0:lk l a=some (.cells (tabC b e t.C))) (h1:lk l b=some (.cells [.sl c 0 t.n t.n 7,.sl d 0 t.m t.m 3,.int .i64 (t.S.fr:Nat)])) (h2:lk l c=some (.cells (D6 t.n t.V t.W t.V3 t.V4 t.S.L t.S.N t.S.P))) (h3:lk l d=some (.cells (N9 t.m t.S.A t.S.B t.S.C))) (h4:lk l e=some (.maps (t.E.map AK9))) (h5:lk l g=some (.cells q.s.a))
  (hlt:o < nx∧i < nx∧a < nx∧b < nx∧c < nx∧d < nx∧e < nx∧g < nx) (hd:Aa8 [o,i,a,b,c,d,e,g]=true)
  (hk:AJ5 [o,i,a,b,c,d,e,g] l fun l2=>K r ⟨([(o,.cells [.ptr i 0]),(i,.cells [.ptr a 0,.ptr g 0,.int .i64 (q'.a:Nat),.int .i64 (q'.n:Nat)]),(a,.cells (tabC b e t'.C)),(b,.cells [.sl c 0 t'.n t'.n 7,.sl d 0 t'.m t'.m 3,.int .i64 (t'.S.fr:Nat)]),(c,.cells (D6 t'.n t'.V t'.W t'.V3 t'.V4 t'.S.L t'.S.N t'.S.P)),(d,.cells (N9 t'.m t'.S.A t'.S.B t'.S.C)),(e,.maps (t'.E.map AK9)),(g,.cells q'.s.a)]:List (Nat × AObj))++l2,nx⟩):AG9 Tryz.prog G0 (.fn f [] []) (.ptr p 0::avs) ⟨l,nx⟩ K:=by
 have e0:enter [o,i,a,b,c,d,e,g] o 0:=rfl
 have e1:enter [o,i,a,b,c,d,e,g] i 1:=rfl
 have e2:enter [o,i,a,b,c,d,e,g] a 2:=rfl
 have e3:enter [o,i,a,b,c,d,e,g] b 3:=rfl
 have e4:enter [o,i,a,b,c,d,e,g] c 4:=rfl
 have e5:enter [o,i,a,b,c,d,e,g] d 5:=rfl
 have e6:enter [o,i,a,b,c,d,e,g] e 6:=rfl
 have e7:enter [o,i,a,b,c,d,e,g] g 7:=rfl
 have k0:back [o,i,a,b,c,d,e,g] nx 0 o:=rfl
 have k1:back [o,i,a,b,c,d,e,g] nx 1 i:=rfl
 have k2:back [o,i,a,b,c,d,e,g] nx 2 a:=rfl
 have k3:back [o,i,a,b,c,d,e,g] nx 3 b:=rfl
 have k4:back [o,i,a,b,c,d,e,g] nx 4 c:=rfl
 have k5:back [o,i,a,b,c,d,e,g] nx 5 d:=rfl
 have k6:back [o,i,a,b,c,d,e,g] nx 6 e:=rfl
 have k7:back [o,i,a,b,c,d,e,g] nx 7 g:=rfl
 refine AG2 (l1:=bkN q' t' o i a b c d e g) [o,i,a,b,c,d,e,g] hc.out F3 hd
  (.cons e0 g0 ⟨F9 e1,trivial⟩ (.cons e1 g1 ⟨F9 e2,F9 e7,C9 A8,C9 A8,trivial⟩ (.cons e2 h0 (AD9 e3 e6) (.cons e3 h1 ⟨W9 e4,W9 e5,C9 A8,trivial⟩ (.cons e4 h2 R8 (.cons e5 h3 Y1 (.maps e6 h4 K3 (.cons e7 h5 (D5 J4) .nil))))))))
  ?_ (by intro x hx;simp only [List.mem_cons,List.not_mem_nil,or_false] at hx;omega) (C9 hc.pr)
  (.cons k0 ⟨F9 k1,trivial⟩ (.cons k1 ⟨F9 k2,F9 k7,C9 A8,C9 A8,trivial⟩ (.cons k2 (AD9 k3 k6) (.cons k3 ⟨W9 k4,W9 k5,C9 A8,trivial⟩ (.cons k4 R8 (.cons k5 Y1 (.maps k6 K3 (.cons k7 (D5 J4) .nil)))))))) hk
 simp only [List.nil_append,List.append_nil]
 exact ⟨F9 hz,D5 hc.pa⟩
theorem AG3 {f:Nat} {avs:List AV} {q q':Bk} {t t':TS} {o i a b c d e g nx:Nat} {l:List (Nat × AObj)} {r:AV} {K:AV→Hp→Prop} (hc:AJ1 f 0 avs q t r q' t')
  (g0:lk l o=some (.cells [.ptr i 0])) (g1:lk l i=some (.cells [.ptr a 0,.ptr g 0,.int .i64 (q.a:Nat),.int .i64 (q.n:Nat)])) (h0:lk l a=some (.cells (tabC b e t.C))) (h1:lk l b=some (.cells [.sl c 0 t.n t.n 7,.sl d 0 t.m t.m 3,.int .i64 (t.S.fr:Nat)])) (h2:lk l c=some (.cells (D6 t.n t.V t.W t.V3 t.V4 t.S.L t.S.N t.S.P))) (h3:lk l d=some (.cells (N9 t.m t.S.A t.S.B t.S.C))) (h4:lk l e=some (.maps (t.E.map AK9))) (h5:lk l g=some (.cells q.s.a))
  (hlt:o < nx∧i < nx∧a < nx∧b < nx∧c < nx∧d < nx∧e < nx∧g < nx) (hd:Aa8 [o,i,a,b,c,d,e,g]=true)
  (hk:AJ5 [o,i,a,b,c,d,e,g] l fun l2=>K r ⟨([(o,.cells [.ptr i 0]),(i,.cells [.ptr a 0,.ptr g 0,.int .i64 (q'.a:Nat),.int .i64 (q'.n:Nat)]),(a,.cells (tabC b e t'.C)),(b,.cells [.sl c 0 t'.n t'.n 7,.sl d 0 t'.m t'.m 3,.int .i64 (t'.S.fr:Nat)]),(c,.cells (D6 t'.n t'.V t'.W t'.V3 t'.V4 t'.S.L t'.S.N t'.S.P)),(d,.cells (N9 t'.m t'.S.A t'.S.B t'.S.C)),(e,.maps (t'.E.map AK9)),(g,.cells q'.s.a)]:List (Nat × AObj))++l2,nx⟩):AG9 Tryz.prog G0 (.fn f [] []) (.ptr o 0::avs) ⟨l,nx⟩ K:=cx_bz hc rfl g0 g1 h0 h1 h2 h3 h4 h5 hlt hd hk
theorem BX3 {f:Nat} {avs:List AV} {q q':Bk} {t t':TS} {o i a b c d e g nx:Nat} {l:List (Nat × AObj)} {r:AV} {K:AV→Hp→Prop} (hc:AJ1 f 1 avs q t r q' t')
  (g1:lk l i=some (.cells [.ptr a 0,.ptr g 0,.int .i64 (q.a:Nat),.int .i64 (q.n:Nat)])) (g0:lk l o=some (.cells [.ptr i 0])) (h0:lk l a=some (.cells (tabC b e t.C))) (h1:lk l b=some (.cells [.sl c 0 t.n t.n 7,.sl d 0 t.m t.m 3,.int .i64 (t.S.fr:Nat)])) (h2:lk l c=some (.cells (D6 t.n t.V t.W t.V3 t.V4 t.S.L t.S.N t.S.P))) (h3:lk l d=some (.cells (N9 t.m t.S.A t.S.B t.S.C))) (h4:lk l e=some (.maps (t.E.map AK9))) (h5:lk l g=some (.cells q.s.a))
  (hlt:o < nx∧i < nx∧a < nx∧b < nx∧c < nx∧d < nx∧e < nx∧g < nx) (hd:Aa8 [o,i,a,b,c,d,e,g]=true)
  (hk:AJ5 [o,i,a,b,c,d,e,g] l fun l2=>K r ⟨([(o,.cells [.ptr i 0]),(i,.cells [.ptr a 0,.ptr g 0,.int .i64 (q'.a:Nat),.int .i64 (q'.n:Nat)]),(a,.cells (tabC b e t'.C)),(b,.cells [.sl c 0 t'.n t'.n 7,.sl d 0 t'.m t'.m 3,.int .i64 (t'.S.fr:Nat)]),(c,.cells (D6 t'.n t'.V t'.W t'.V3 t'.V4 t'.S.L t'.S.N t'.S.P)),(d,.cells (N9 t'.m t'.S.A t'.S.B t'.S.C)),(e,.maps (t'.E.map AK9)),(g,.cells q'.s.a)]:List (Nat × AObj))++l2,nx⟩):AG9 Tryz.prog G0 (.fn f [] []) (.ptr i 0::avs) ⟨l,nx⟩ K:=cx_bz hc rfl g0 g1 h0 h1 h2 h3 h4 h5 hlt hd hk
end Go.Proofs.YtphggldkligldaaGreat.Sh
namespace Go.Proofs.YtphggldkligldaaGreat.Sh
open Go Go.Am Go.Pol
theorem wx_Jb {p q:Prop} (hq:q) (h:R7 q→p:=by (intro hQz;((repeat' ((try (conv=>whnf));first|refine sxA ?_|refine sxF ?_|refine AB3 (by assumption) rfl rfl rfl rfl rfl (by decide) rfl ?_|refine K5 (by assumption) rfl (by decide) ?_|refine sxH ?_|((with_reducible first|apply L8 hQz|apply L9 hQz)<;>(try intro hsp hQz))|exact hQz.out))<;>(try (conv=>whnf))))):p:=h ⟨hq⟩
theorem AH3 {m:Int} {x:Int} (h:inR m x):∃ n:Nat,x=(n:Int)∧(n:Int) < m:=⟨x.toNat,by have:=h.1;omega,by have:=h.1;have:=h.2;omega⟩
section
variable {L:List Vw} {t:TS}
theorem Ab1 {a:Nat}:(AF7 L a).length≤4000:=Nat.le_trans (An4 _ _) (by decide)
theorem AH9 (h:TOk L t) {a k:Int} (hi:inR 64 a∧inR 1024 k) (hf:AO1 L a.toNat k.toNat=none):AA9 89 [.int .i64 a,.int .i64 k] t (.tup [.agg [.int .i64 0,.int .i64 0,.int .i64 0,.bool false],.int .i64 4]) t:=by
 obtain ⟨⟨a1,a2⟩,k1,k2⟩:=hi
 have:=Aq3 h (a:=a.toNat) (k:=k.toNat) (by omega) (by omega) (AL0 hf)
 rwa [Int.toNat_of_nonneg a1,Int.toNat_of_nonneg k1] at this
theorem Ax7 (h:TOk L t) {a k:Int} (hi:inR 64 a∧inR 1024 k) {v:Vw} (hf:AO1 L a.toNat k.toNat=some v):AA9 89 [.int .i64 a,.int .i64 k] t (.tup [.agg [.int .i64 a,.int .i64 k,.int .i64 (v.2.2.1:Nat),.bool v.2.2.2],.int .i64 0]) t:=by
 obtain ⟨⟨a1,a2⟩,k1,k2⟩:=hi
 obtain ⟨hv,e1,e2⟩:=AF8 hf
 have e1:v.1=a.toNat:=e1
 have e2:v.2.1=k.toNat:=e2
 have:=t_Find h hv
 unfold vwC at this
 rwa [e1,e2,Int.toNat_of_nonneg a1,Int.toNat_of_nonneg k1] at this
theorem BB5 (h:TOk L t) {f:Nat} (hf:f < 1024):AA9 49 [.int .i64 (f:Nat)] t (.tup [.int .i64 (cntF L f:Nat),.int .i64 0]) t:=by
 have:=t_Count (t:=t) hf
 rwa [h.cnt] at this
theorem u_Map (h:TOk L t) {a k:Int} {f:Nat} (hi:inR 64 a∧inR 1024 k) (hf4:f < 1024) (hf:AO1 L a.toNat k.toNat=none) (hl:L.length < 2000):∃ t',TOk (AZ2 (a.toNat,k.toNat,f,true) L) t'∧AA9 93 [.agg [.int .i64 a,.int .i64 k,.int .i64 (f:Nat),.bool true]] t (.int .i64 0) t':=by
 obtain ⟨⟨a1,a2⟩,k1,k2⟩:=hi
 obtain ⟨t',h1,h2⟩:=t_Map h (v:=(a.toNat,k.toNat,f,true)) ⟨(by omega:a.toNat < 64),(by omega:k.toNat < 1024),hf4⟩ (AL0 hf) hl
 refine ⟨t',h1,?_⟩
 unfold vwC at h2
 dsimp only at h2
 rwa [Int.toNat_of_nonneg a1,Int.toNat_of_nonneg k1] at h2
theorem BI4 (h:TOk L t) {a k:Int} (hi:inR 64 a∧inR 1024 k) (hf:AO1 L a.toNat k.toNat=none):AA9 94 [.int .i64 a,.int .i64 k] t (.tup [.int .i64 0,.int .i64 0,.int .i64 4]) t:=by
 obtain ⟨⟨a1,a2⟩,k1,k2⟩:=hi
 have:=BI8 h (a:=a.toNat) (k:=k.toNat) (by omega) (by omega) (AL0 hf)
 rwa [Int.toNat_of_nonneg a1,Int.toNat_of_nonneg k1] at this
theorem u_at {a k:Int} (hi:inR 64 a∧inR 1024 k) {v:Vw} (hf:AO1 L a.toNat k.toNat=some v):v ∈ L∧((v.1:Nat):Int)=a∧((v.2.1:Nat):Int)=k∧v.1=a.toNat∧v.2.1=k.toNat:=by
 obtain ⟨⟨a1,a2⟩,k1,k2⟩:=hi
 obtain ⟨hv,e1,e2⟩:=AF8 hf
 have e1:v.1=a.toNat:=e1
 have e2:v.2.1=k.toNat:=e2
 exact ⟨hv,by omega,by omega,e1,e2⟩
theorem u_Unmap (h:TOk L t) {a k:Int} (hi:inR 64 a∧inR 1024 k) {v:Vw} (hf:AO1 L a.toNat k.toNat=some v):∃ t',TOk (Aw4 L a.toNat k.toNat) t'∧AA9 94 [.int .i64 a,.int .i64 k] t (.tup [.int .i64 (v.2.2.1:Nat),.int .i64 (cntF (Aw4 L a.toNat k.toNat) v.2.2.1:Nat),.int .i64 0]) t':=by
 obtain ⟨hv,e1,e2,e3,e4⟩:=u_at hi hf
 obtain ⟨s,hs,hu⟩:=h.slot hv
 obtain ⟨t',A,B,X,Y,hL,h1,_,_,_,h2⟩:=t_Unmap h hs hu
 have hsr:=h.srt
 have hd:Aw4 L a.toNat k.toNat=A++B:=by rw [hL] at hsr ⊢;rw [← e3,← e4,BO2 hsr]
 rw [e1,e2] at h2
 rw [hd]
 exact ⟨t',h1,h2⟩
theorem u_Protect (h:TOk L t) {a k:Int} (hi:inR 64 a∧inR 1024 k) {v:Vw} (hf:AO1 L a.toNat k.toNat=some v) (w:Bool):∃ t',TOk (AR5 (prV w) a.toNat k.toNat L) t'∧AA9 95 [.int .i64 a,.int .i64 k,.bool w] t (.int .i64 0) t':=by
 obtain ⟨hv,e1,e2,e3,e4⟩:=u_at hi hf
 obtain ⟨s,hs,hu⟩:=h.slot hv
 obtain ⟨t',A,B,hL,h1,h2⟩:=t_Protect h hs hu w
 have hsr:=h.srt
 have hd:AR5 (prV w) a.toNat k.toNat L=A++prV w v::B:=by rw [hL] at hsr ⊢;rw [← e3,← e4,Ac5 hsr]
 rw [e1,e2] at h2
 rw [hd]
 exact ⟨t',h1,h2⟩
theorem u_Split (h:TOk L t) {a k:Int} (hi:inR 64 a∧inR 1024 k) {v:Vw} (hf:AO1 L a.toNat k.toNat=some v) {f:Nat} (hf4:f < 1024) (hc:cntF L f=0):∃ t',TOk (AR5 (frV f) a.toNat k.toNat L) t'∧AA9 96 [.int .i64 a,.int .i64 k,.int .i64 (f:Nat)] t (.int .i64 0) t':=by
 obtain ⟨hv,e1,e2,e3,e4⟩:=u_at hi hf
 obtain ⟨s,hs,hu⟩:=h.slot hv
 obtain ⟨t',A,B,hL,h1,h2⟩:=t_Split h hs hu hf4 hc
 have hsr:=h.srt
 have hd:AR5 (frV f) a.toNat k.toNat L=A++frV f v::B:=by rw [hL] at hsr ⊢;rw [← e3,← e4,Ac5 hsr]
 rw [e1,e2] at h2
 rw [hd]
 exact ⟨t',h1,h2⟩
theorem u_Fork {q:Bk} (h:TOk q.L t) (a b:Int):∃ t',TOk (q.take a b).2.2.L t'∧AA9 85 [.int .i64 a,.int .i64 b] t (.tup [.int .i64 (q.take a b).1,.int .i64 (q.take a b).2.1]) t':=by
 unfold Bk.take
 by_cases hr:inR 64 a∧inR 64 b
 ·rw [if_neg (by rw [Classical.not_not];exact hr)]
  obtain ⟨a',rfl,ha⟩:=AH3 hr.1
  obtain ⟨b',rfl,hb⟩:=AH3 hr.2
  have ha':a' < 64:=by omega
  have hb':b' < 64:=by omega
  rw [Int.toNat_natCast,Int.toNat_natCast]
  by_cases hab:a'=b'
  ·rw [if_pos (by rw [hab])]
   exact ⟨t,h,Ah2 h ha' hb' (.inl ⟨rfl,hab⟩)⟩
  ·rw [if_neg (by omega)]
   by_cases hB:(ofA b' q.L).length=0
   ·rw [if_neg (by rw [Classical.not_not];exact hB)]
    by_cases hf:2000 < q.L.length+(ofA a' q.L).length
    ·rw [if_pos hf]
     exact ⟨t,h,Ah2 h ha' hb' (.inr (.inr ⟨rfl,hab,hB,hf⟩))⟩
    ·rw [if_neg hf]
     have hnb:ofA b' q.L=[]:=List.eq_nil_of_length_eq_zero hB
     obtain ⟨t',M,h1,h2,h3⟩:=t_Fork h hab ha' hb' hnb (by omega)
     have e:=BN5 h.srt h1.srt hnb h2
     rw [e] at h1
     exact ⟨t',h1,h3⟩
   ·rw [if_pos hB]
    exact ⟨t,h,Ah2 h ha' hb' (.inr (.inl ⟨rfl,hab,hB⟩))⟩
 ·rw [if_pos hr]
  exact ⟨t,h,t_Fork_no a b hr⟩
theorem u_where {q:Bk} (h:TOk q.L t) (a at_:Int) (w:Bool):AA9 121 [.int .i64 a,.int .i64 at_,.bool w] t (.tup [.int .i64 (q.where_ a at_ w).1,.int .i64 (q.where_ a at_ w).2]) t:=by
 unfold Bk.where_
 by_cases hat:inR 65536 at_
 ·obtain ⟨at',rfl,hat'⟩:=AH3 hat
  by_cases ha:inR 64 a
  ·obtain ⟨a',rfl,ha'⟩:=AH3 ha
   rw [if_neg (by rw [Classical.not_not];exact ⟨ha,hat⟩),Int.toNat_natCast,Int.toNat_natCast]
   cases hf:AO1 q.L a' (at' / 64) with
   | none=>exact BI6 h (by omega) (by omega) (AL0 hf) w
   | some v =>
    obtain ⟨hv,e1,e2⟩:=AF8 hf
    have e1:v.1=a':=e1
    have e2:v.2.1=at' / 64:=e2
    dsimp only
    by_cases hw:w=true∧v.2.2.2=false
    ·rw [if_pos hw]
     have:=t_where_ro h hv (by omega) e2 hw.2
     rw [e1] at this;rw [hw.1];exact this
    ·rw [if_neg hw]
     have:=t_where h hv (at_:=at') (by omega) e2 (w:=w) fun e=>by
      cases hb:v.2.2.2
      ·exact absurd ⟨e,hb⟩ hw
      ·rfl
     rw [e1] at this;exact this
  ·rw [if_pos fun e=>ha e.1]
   exact t_where_no a at' w (by omega) ha
 ·rw [if_pos fun e=>hat e.2]
  exact BR4 a at_ w hat
theorem u_Read {q:Bk} (h:TOk q.L t) (a at_:Int):LocTX 52 [.int .i64 a,.int .i64 at_] t q.s (.tup [.int .u8 (q.read a at_).1,.int .i64 (q.read a at_).2]) q.s:=by
 have h1:=u_where h a at_ false
 have hr:=p_read (s:=q.s) (a:=(q.where_ a at_ false).1)
 unfold Bk.read
 generalize (q.where_ a at_ false)=x at *
 obtain ⟨k,e⟩:=x
 dsimp only at *
 generalize q.s=s at *
 by_cases he:e=0
 ·rw [if_pos he]
  refine ⟨E8 D9 b52 rfl ?_,by simp [A8],R6⟩
  unfold c52
  unfold rdN
  (refine wx_Jb ?_;repeat' (first|with_reducible refine And.intro ?_ ?_|intro hsp))
  all_goals exact end_TX (fun hs=>M8 hs R6) rfl rfl rfl rfl rfl rfl
 ·rw [if_neg he]
  refine ⟨E8 D9 b52 rfl ?_,by simp [A8],R6⟩
  unfold c52
  unfold rdN
  (refine wx_Jb ?_;repeat' (first|with_reducible refine And.intro ?_ ?_|intro hsp))
  all_goals exact end_TX (fun hs=>M8 hs R6) rfl rfl rfl rfl rfl rfl
theorem BR1 {q:Bk} (h:TOk q.L t) (a at_ b:Int):LocTX 97 [.int .i64 a,.int .i64 at_,.int .u8 b] t q.s (.int .i64 (q.put a at_ b).1) (q.put a at_ b).2.s:=by
 have h1:=u_where h a at_ true
 have hr:=BT6 (s:=q.s) (a:=(q.where_ a at_ true).1) (b:=b)
 unfold Bk.put
 generalize (q.where_ a at_ true)=x at *
 obtain ⟨k,e⟩:=x
 dsimp only at *
 by_cases he:e=0
 ·rw [if_pos he]
  dsimp only
  generalize q.s.write k b=y at *
  generalize q.s=s at *
  obtain ⟨e2,s2⟩:=y
  dsimp only at *
  refine ⟨E8 D9 b97 rfl ?_,by simp [A8],A8⟩
  unfold c97
  unfold rdN
  (refine wx_Jb ?_;repeat' (first|with_reducible refine And.intro ?_ ?_|intro hsp))
  all_goals exact end_TX (fun hs=>M8 hs A8) rfl rfl rfl rfl rfl rfl
 ·rw [if_neg he]
  dsimp only
  generalize q.s=s at *
  refine ⟨E8 D9 b97 rfl ?_,by simp [A8],A8⟩
  unfold c97
  unfold rdN
  (refine wx_Jb ?_;repeat' (first|with_reducible refine And.intro ?_ ?_|intro hsp))
  all_goals exact end_TX (fun hs=>M8 hs A8) rfl rfl rfl rfl rfl rfl
end
end Go.Proofs.YtphggldkligldaaGreat.Sh
namespace Go.Pol
open Go.Am Go.Proofs.YtphggldkligldaaGreat.Sh
theorem giv_s {s:Sy} {G:List Nat} {i:Nat} (hi:i < G.length):AI4 s (G.take (i+1))=((AI4 s (G.take i)).chg (nth 0 G i:Nat) 1 2 1 3).2:=by
 rw [d9 (d:=0) hi];unfold AI4;rw [List.foldl_append];rfl
theorem BF0 {s:Sy} (h:GoodS s) (G:List Nat):∀ i,i≤G.length→GoodS (AI4 s (G.take i))
 | 0,_=>h
 | i+1,hi=>by rw [giv_s (by omega)];exact Ae6 (BF0 h G i (by omega)) (by decide)
def rdK (f:Nat→Int) (k:Nat):Nat→AV:=fun j=>.int .u8 (if j < k then f j else 0)
def bcA (f:Nat→Int):List AV:=memA 64 fun j=>.int .u8 (f j)
theorem rdK_0 {f:Nat→Int}:memA 64 (rdK f 0)=List.replicate 64 (.int .u8 0):=by
 refine List.ext_getElem? fun i=>?_
 by_cases h:i < 64
 ·rw [List.getElem?_replicate,if_pos h,V9 h];unfold rdK;rw [if_neg (by omega)]
 ·rw [List.getElem?_eq_none (by rw [Y4];omega),List.getElem?_eq_none (by rw [List.length_replicate];omega)]
theorem rdK_s {f:Nat→Int} {k:Nat} (hk:k < 64):(memA 64 (rdK f k)).set k (.int .u8 (f k))=memA 64 (rdK f (k+1)):=by
 rw [AS4]
 refine AA7 fun j _=>?_
 unfold rdK
 split
 ·rename_i e;subst e;rw [if_pos (by omega)]
 ·rename_i e
  by_cases h:j < k
  ·rw [if_pos h,if_pos (by omega)]
  ·rw [if_neg h,if_neg (by omega)]
theorem rdK_all {f:Nat→Int}:memA 64 (rdK f 64)=bcA f:=AA7 fun j hj=>by unfold rdK;rw [if_pos hj]
theorem AQ7 {f:Nat→Int} {k:Nat}:∀ x ∈ memA 64 (rdK f k),Plain x:=AL6 fun _ _=>A8
theorem AT4 {f:Nat→Int}:∀ x ∈ bcA f,Plain x:=AL6 fun _ _=>A8
theorem AH6 {f:Nat→Int}:(bcA f).length=64:=Y4 _ _
theorem over_pre:∀ (a cs:List AV),over (a++cs) a.length cs=a++cs
 | a,[]=>rfl
 | a,v::vs=>by
  show over ((a++v::vs).set a.length v) (a.length+1) vs=a++v::vs
  have e:(a++v::vs).set a.length v=(a++[v])++vs:=by simp
  have h:=over_pre (a++[v]) vs
  rw [List.length_append] at h
  rw [e]
  exact h.trans (by simp)
theorem over_self (cs:List AV):over cs 0 cs=cs:=over_pre [] cs
theorem BG4 {f:Nat→Int}:(bcA f).take 64=bcA f:=List.take_of_length_le (by rw [AH6];exact Nat.le_refl _)
theorem in_lt {m n:Int} (h:0≤n):decide (n < m)=decide (inR m n):=decide_eq_decide.2 ⟨fun h2=>⟨h,h2⟩,fun h2=>h2.2⟩
theorem in_yes {m n:Int} (h:0≤n∧n < m):true=decide (inR m n):=(decide_eq_true (show inR m n from h)).symm
theorem in_not {m n:Int} (h:n < 0∨m≤n):false=decide (inR m n):=(decide_eq_false fun h2:inR m n=>by have:=h2.1;have:=h2.2;omega).symm
end Go.Pol
namespace Go.Proofs.YtphggldkligldaaGreat.Sh
open Go Go.Am Go.Pol
theorem plx_Jc {p:Prop} (h:p:=by ((first|exact plw|(with_reducible first|apply O4|apply M5|apply J3|apply u6|apply z8|apply AB2|fail)|fail);first|done|fail)):p:=h
theorem ppx_Jc {p:Prop} (h:p:=by ((first|with_reducible assumption|(with_reducible first|apply G9|apply I7|apply V6|apply T9 _ _|apply X9|apply AM9|apply J4|apply H8|apply AQ7|apply AT4|fail)|exact ppw|fail);first|done|fail)):p:=h
open Go.Proofs.YtphggldkligldaaGreat.Sh renaming plx_Jc → plx
open Go.Proofs.YtphggldkligldaaGreat.Sh renaming ppx_Jc → ppx
theorem wx_Jc {p q:Prop} (hq:q) (h:R7 q→p:=by (intro hQz;((repeat' ((try (conv=>whnf));first|refine sxA ?_|refine Z9 (d:=0) AP3 (by first|assumption|omega) (by with_reducible assumption) ?_|refine E9 (by rw [Y4];omega) hset ?_|refine Y5 (by rw [AH6];omega) List.drop_zero (Y0 (by rw [AH6];omega) BG4 ?_)|refine ⟨AH6,?_⟩|refine AK8 (by simp only [AH6];omega) (over_self _) ?_|refine sxF ?_|refine K5 (by assumption) rfl (by decide) ?_|refine sxH ?_|((with_reducible first|apply L8 hQz|apply L9 hQz)<;>(try intro hsp hQz))|exact hQz.out))<;>(try (conv=>whnf))))):p:=h ⟨hq⟩
theorem AB2 {f:Nat→Int}:Plain (.agg (bcA f)):=P9 AT4
theorem AW7 (n:Int):E5 88 [.int .i64 n] (.bool (decide (inR 64 n))):=by
 refine E5.mk (I5 D9 b88 F3 ⟨A8,trivial⟩ A9 rfl ?_)
 unfold c88
 (refine wx_Jc ?_;repeat' (first|with_reducible refine And.intro ?_ ?_|intro hsp))
 all_goals exact J7 (by first|exact in_lt (by assumption)|exact in_yes (by omega)|exact in_not (by omega))
theorem k_slot (n:Int):E5 91 [.int .i64 n] (.bool (decide (inR 1024 n))):=by
 refine E5.mk (I5 D9 b91 F3 ⟨A8,trivial⟩ A9 rfl ?_)
 unfold c91
 (refine wx_Jc ?_;repeat' (first|with_reducible refine And.intro ?_ ?_|intro hsp))
 all_goals exact J7 (by first|exact in_lt (by assumption)|exact in_yes (by omega)|exact in_not (by omega))
section
variable {q:Bk} {t:TS}
theorem b_is:AJ1 51 0 [] q t (.bool true) q t:=by
 refine AJ1.mk (E8 D9 b51 rfl ?_) (fun x hx=>by cases hx) A9
 unfold c51
 unfold bkN rdN
 (refine wx_Jc ?_;repeat' (first|with_reducible refine And.intro ?_ ?_|intro hsp))
 all_goals exact X5 rfl A9 rfl rfl rfl rfl rfl rfl rfl rfl
theorem b_give (hg:GoodS q.s) {G:List Nat} (hG:G.length≤4000):AJ1 87 1 [.isl (G.map BH3)] q t (.tup []) { q with s:=AI4 q.s G } t:=by
 refine AJ1.mk (E8 D9 b87 rfl ?_) (fun x hx=>by obtain rfl:=List.mem_singleton.1 hx;exact z8) P5
 unfold c87
 unfold bkN rdN
 (refine wx_Jc ?_;repeat' (first|with_reducible refine And.intro ?_ ?_|intro hsp))
 (refine H9 [0,6,7] (fun (i:Nat)=>[(8,.int .i64 (i:Nat))]) (fun (i:Nat)=>⟨bkN { q with s:=AI4 q.s (G.take i) } t 0 1 2 3 4 5 6 7,8⟩) (fun (i:Nat)=>i≤G.length) (fun (i:Nat)=>G.length - i) (0) [] rfl (fun _=>by first|exact Nat.zero_le _|(dsimp only;omega)) ?_ (by ((try (conv=>whnf));exact V8)) ?_)
 ·exact Nat.zero_le _
 intro i hi
 by_cases hil:i < G.length
 ·have c1:=Ay5 (a:=(nth 0 G i:Nat)) (n:=1) (BF0 hg G i hi)
  rw [← giv_s hil] at c1
  generalize hx:nth 0 G i=f at *
  unfold bkN rdN
  dsimp only
  (refine wx_Jc ?_;repeat' (first|with_reducible refine And.intro ?_ ?_|intro hsp))
  all_goals exact D8 (i+1) [] (by (try dsimp only);omega) (by first|omega|(dsimp only;omega)) rfl (by exact V8)
 ·obtain rfl:i=G.length:=by omega
  rw [List.take_length]
  unfold bkN rdN
  dsimp only
  (refine wx_Jc ?_;repeat' (first|with_reducible refine And.intro ?_ ?_|intro hsp))
  all_goals exact X5 (q:={ q with s:=AI4 q.s G }) rfl P5 rfl rfl rfl rfl rfl rfl rfl rfl
theorem b_give_nil:AJ1 87 1 [.nils] q t (.tup []) q t:=by
 refine AJ1.mk (E8 D9 b87 rfl ?_) (fun x hx=>by obtain rfl:=List.mem_singleton.1 hx;exact AA6) P5
 unfold c87
 unfold bkN rdN
 (refine wx_Jc ?_;repeat' (first|with_reducible refine And.intro ?_ ?_|intro hsp))
 (refine H9 [0,6,7] (fun (i:Nat)=>[(8,.int .i64 (i:Nat))]) (fun (i:Nat)=>⟨bkN q t 0 1 2 3 4 5 6 7,8⟩) (fun (i:Nat)=>i=0) (fun (i:Nat)=>0) (0) [] rfl (fun _=>by first|exact Nat.zero_le _|(dsimp only;omega)) ?_ (by ((try (conv=>whnf));exact V8)) ?_)
 ·rfl
 intro i hi
 unfold bkN rdN
 (refine wx_Jc ?_;repeat' (first|with_reducible refine And.intro ?_ ?_|intro hsp))
 all_goals exact X5 rfl P5 rfl rfl rfl rfl rfl rfl rfl rfl
theorem BX7 {f:Nat} (hf:f < 1024) (hk:q.s.K f=2):AJ1 90 1 [.int .i64 (f:Nat)] q t (.agg (bcA (q.s.B f))) q t:=by
 refine AJ1.mk (E8 D9 b90 rfl ?_) (fun x hx=>by obtain rfl:=List.mem_singleton.1 hx;exact A8) AB2
 unfold c90
 unfold bkN rdN
 rw [← rdK_0 (f:=q.s.B f)]
 (refine wx_Jc ?_;repeat' (first|with_reducible refine And.intro ?_ ?_|intro hsp))
 (refine H9 [0,1,4] (fun (k:Nat)=>[(6,.int .i64 (k:Nat))]) (fun (k:Nat)=>⟨bkN q t 0 1 2 3 4 5 6 7++[(8,.cells (memA 64 (rdK (q.s.B f) k)))],9⟩) (fun (k:Nat)=>k≤64) (fun (k:Nat)=>64 - k) (0) [] rfl (fun _=>by first|exact Nat.zero_le _|(dsimp only;omega)) ?_ (by ((try (conv=>whnf));exact V8)) ?_)
 ·exact Nat.zero_le _
 intro k hkk
 by_cases hkl:k < 64
 ·have c1:=p_read (s:=q.s) (a:=(f:Int) * 64+(k:Nat))
  rw [BT0 hk hf hkl] at c1
  dsimp only at c1
  have hset:=rdK_s (f:=q.s.B f) hkl
  unfold bkN rdN
  generalize q.s.B f k=y at *
  (refine wx_Jc ?_;repeat' (first|with_reducible refine And.intro ?_ ?_|intro hsp))
  all_goals exact D8 (k+1) [] (by (try dsimp only);omega) (by first|omega|(dsimp only;omega)) rfl (by exact V8)
 ·obtain rfl:k=64:=by omega
  rw [rdK_all]
  unfold bkN rdN
  (refine wx_Jc ?_;repeat' (first|with_reducible refine And.intro ?_ ?_|intro hsp))
  all_goals exact X5 rfl AB2 rfl rfl rfl rfl rfl rfl rfl rfl
end
end Go.Proofs.YtphggldkligldaaGreat.Sh
