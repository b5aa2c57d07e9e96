/-
 A book: its memory,and contracts over it.
 The table's calls,for any numbers.
 A book's inner calls: is,space,slot,give,bytes.
 A book takes a frame.
 A book's calls: Map,Unmap,Take,Drop,Read,Save.
 A book's calls: Revert,Write.
-/
import Derived.Test.YtphggldkligldaaGreatQas
set_option linter.unusedSimpArgs false
set_option linter.unusedVariables false
set_option maxHeartbeats 1600000
namespace Go.Proofs.YtphggldkligldaaGreat.Sh
open Go Go.Am Go.Pol
def bkN (q:Bk) (t:TS) (o i a b c d e g:Nat):List (Nat × AObj):=(o,.cells [.ptr i 0])::(i,.cells [.ptr a 0,.ptr g 0,.int .i64 (q.a:Nat),.int .i64 (q.n:Nat)])::rdN t q.s a b c d e g
structure AG4 (f z:Nat) (avs:List AV) (q:Bk) (t:TS) (r:AV) (q':Bk) (t':TS):Prop where
 out:AQ1 Tryz.prog G0 f (.ptr z 0::avs) (bkN q t 0 1 2 3 4 5 6 7) 8 fun x h1=>x=r∧h1=⟨bkN q' t' 0 1 2 3 4 5 6 7,8⟩
 pa:∀ x ∈ avs,Plain x
 pr:Plain r
theorem end_BK {top:Bool} {h:Hp} {N0:Nat} {x r:AV} {q:Bk} {t:TS} (hr:AI3 (rn []) h ⟨bkN q t 0 1 2 3 4 5 6 7,8⟩→WkV Tryz.prog (rn []) h ⟨bkN q t 0 1 2 3 4 5 6 7,8⟩ x r) (g0:lk h.l 0=some (.cells [.ptr 1 0])) (g1:lk h.l 1=some (.cells [.ptr 2 0,.ptr 7 0,.int .i64 (q.a:Nat),.int .i64 (q.n:Nat)])) (h0:lk h.l 2=some (.cells (tabC 3 6 t.C))) (h1:lk h.l 3=some (.cells [.sl 4 0 t.n t.n 7,.sl 5 0 t.m t.m 3,.int .i64 (t.S.fr:Nat)])) (h2:lk h.l 4=some (.cells (C9 t.n t.V t.W t.V3 t.V4 t.S.L t.S.N t.S.P))) (h3:lk h.l 5=some (.cells (J5 t.m t.S.A t.S.B t.S.C))) (h4:lk h.l 6=some (.maps (t.E.map AG8))) (h5:lk h.l 7=some (.cells q.s.a)) (hN0:N0≤8:=by decide) :
  AR3 top Tryz.prog N0 h x (fun r' h'=>r'=r∧h'=⟨bkN q t 0 1 2 3 4 5 6 7,8⟩):=by
 have hs:AI3 (rn []) h ⟨bkN q t 0 1 2 3 4 5 6 7,8⟩:=fun i o hi=>by
  simp only [bkN,rdN,lk] at hi
  show ∃ o',lk h.l i=some o'
  split at hi
  ·rename_i e;subst e;exact ⟨_,g0⟩
  ·split at hi
   ·rename_i e;subst e;exact ⟨_,g1⟩
   ·split at hi
    ·rename_i e;subst e;exact ⟨_,h0⟩
    ·split at hi
     ·rename_i e;subst e;exact ⟨_,h1⟩
     ·split at hi
      ·rename_i e;subst e;exact ⟨_,h2⟩
      ·split at hi
       ·rename_i e;subst e;exact ⟨_,h3⟩
       ·split at hi
        ·rename_i e;subst e;exact ⟨_,h4⟩
        ·split at hi
         ·rename_i e;subst e;exact ⟨_,h5⟩
         ·cases hi
 refine j6 [] rfl hN0 (L6 rfl) (hr hs) ?_ ⟨rfl,rfl⟩
 exact J3 (show 0 < 8 by decide) g0 (D5 (X9 (i:=1) rfl (show 1 < 8 by decide)) J4)
  (J3 (show 1 < 8 by decide) g1 (D5 (X9 (i:=2) rfl (show 2 < 8 by decide)) (D5 (X9 (i:=7) rfl (show 7 < 8 by decide)) (D5 (L8 rfl) (D5 (L8 rfl) J4))))
  (AH7 hs (show 2 < 8 by decide) h0 rfl (show 3 < 8 by decide) rfl (show 6 < 8 by decide)
  (J3 (show 3 < 8 by decide) h1 (D5 (j4 rfl (show 4 < 8 by decide) rfl (Nat.le_refl _) (Nat.le_refl _)) (D5 (j4 rfl (show 5 < 8 by decide) rfl (Nat.le_refl _) (Nat.le_refl _)) (D5 (L8 rfl) J4)))
  (E8 hs (show 4 < 8 by decide) h2 rfl F5 (E8 hs (show 5 < 8 by decide) h3 rfl F8 (x9 hs (show 6 < 8 by decide) h4 rfl H9 (E8 hs (show 7 < 8 by decide) h5 rfl G8 J6)))))))
theorem O4 {top:Bool} {h:Hp} {N0:Nat} {x r:AV} {q:Bk} {t:TS} (hx:x=r) (hp:Plain r) (g0:lk h.l 0=some (.cells [.ptr 1 0])) (g1:lk h.l 1=some (.cells [.ptr 2 0,.ptr 7 0,.int .i64 (q.a:Nat),.int .i64 (q.n:Nat)])) (h0:lk h.l 2=some (.cells (tabC 3 6 t.C))) (h1:lk h.l 3=some (.cells [.sl 4 0 t.n t.n 7,.sl 5 0 t.m t.m 3,.int .i64 (t.S.fr:Nat)])) (h2:lk h.l 4=some (.cells (C9 t.n t.V t.W t.V3 t.V4 t.S.L t.S.N t.S.P))) (h3:lk h.l 5=some (.cells (J5 t.m t.S.A t.S.B t.S.C))) (h4:lk h.l 6=some (.maps (t.E.map AG8))) (h5:lk h.l 7=some (.cells q.s.a)) (hN0:N0≤8:=by decide) :
  AR3 top Tryz.prog N0 h x (fun r' h'=>r'=r∧h'=⟨bkN q t 0 1 2 3 4 5 6 7,8⟩):=by
 subst hx
 exact end_BK (fun hs=>K5 hs hp) g0 g1 h0 h1 h2 h3 h4 h5 hN0
theorem bk_not {q:Bk} {t:TS} {d:Nat} (hd:8≤d):∀ j o,lk (Hp.l ⟨bkN q t 0 1 2 3 4 5 6 7,8⟩) j=some o→rn [] j ≠ d:=fun j o hj=>by
 have : j < 8:=Classical.byContradiction fun hn=>by
  simp only [bkN,rdN,lk] at hj
  repeat' split at hj
  all_goals first|omega|cases hj
 show j ≠ d
 omega
theorem cx_bz {f z p:Nat} {avs:List AV} {q q':Bk} {t t':TS} {o i a b c d e g nx:Nat} {l:List (Nat × AObj)} {r:AV} {K:AV→Hp→Prop} (hc:AG4 f z avs q t r q' t')
  (hz:enter [o,i,a,b,c,d,e,g] p z)
  (g0:lk l o=some (.cells [.ptr i 0])) (g1:lk l i=some (.cells [.ptr a 0,.ptr g 0,.int .i64 (q.a:Nat),.int .i64 (q.n:Nat)])) (h0:lk l a=some (.cells (tabC b e t.C))) (h1:lk l b=some (.cells [.sl c 0 t.n t.n 7,.sl d 0 t.m t.m 3,.int .i64 (t.S.fr:Nat)])) (h2:lk l c=some (.cells (C9 t.n t.V t.W t.V3 t.V4 t.S.L t.S.N t.S.P))) (h3:lk l d=some (.cells (J5 t.m t.S.A t.S.B t.S.C))) (h4:lk l e=some (.maps (t.E.map AG8))) (h5:lk l g=some (.cells q.s.a))
  (hlt:o < nx∧i < nx∧a < nx∧b < nx∧c < nx∧d < nx∧e < nx∧g < nx) (hd:AY6 [o,i,a,b,c,d,e,g]=true)
  (hk:AG1 [o,i,a,b,c,d,e,g] l fun l2=>K r ⟨([(o,.cells [.ptr i 0]),(i,.cells [.ptr a 0,.ptr g 0,.int .i64 (q'.a:Nat),.int .i64 (q'.n:Nat)]),(a,.cells (tabC b e t'.C)),(b,.cells [.sl c 0 t'.n t'.n 7,.sl d 0 t'.m t'.m 3,.int .i64 (t'.S.fr:Nat)]),(c,.cells (C9 t'.n t'.V t'.W t'.V3 t'.V4 t'.S.L t'.S.N t'.S.P)),(d,.cells (J5 t'.m t'.S.A t'.S.B t'.S.C)),(e,.maps (t'.E.map AG8)),(g,.cells q'.s.a)]:List (Nat × AObj))++l2,nx⟩):AB8 Tryz.prog G0 (.fn f [] []) (.ptr p 0::avs) ⟨l,nx⟩ K:=by
 have e0:enter [o,i,a,b,c,d,e,g] o 0:=rfl
 have e1:enter [o,i,a,b,c,d,e,g] i 1:=rfl
 have e2:enter [o,i,a,b,c,d,e,g] a 2:=rfl
 have e3:enter [o,i,a,b,c,d,e,g] b 3:=rfl
 have e4:enter [o,i,a,b,c,d,e,g] c 4:=rfl
 have e5:enter [o,i,a,b,c,d,e,g] d 5:=rfl
 have e6:enter [o,i,a,b,c,d,e,g] e 6:=rfl
 have e7:enter [o,i,a,b,c,d,e,g] g 7:=rfl
 have k0:back [o,i,a,b,c,d,e,g] nx 0 o:=rfl
 have k1:back [o,i,a,b,c,d,e,g] nx 1 i:=rfl
 have k2:back [o,i,a,b,c,d,e,g] nx 2 a:=rfl
 have k3:back [o,i,a,b,c,d,e,g] nx 3 b:=rfl
 have k4:back [o,i,a,b,c,d,e,g] nx 4 c:=rfl
 have k5:back [o,i,a,b,c,d,e,g] nx 5 d:=rfl
 have k6:back [o,i,a,b,c,d,e,g] nx 6 e:=rfl
 have k7:back [o,i,a,b,c,d,e,g] nx 7 g:=rfl
 refine AA9 (l1:=bkN q' t' o i a b c d e g) [o,i,a,b,c,d,e,g] hc.out I7 hd
  (.cons e0 g0 ⟨H8 e1,trivial⟩ (.cons e1 g1 ⟨H8 e2,H8 e7,D6 A8,D6 A8,trivial⟩ (.cons e2 h0 (AF2 e3 e6) (.cons e3 h1 ⟨J7 e4,J7 e5,D6 A8,trivial⟩ (.cons e4 h2 P6 (.cons e5 h3 V8 (.maps e6 h4 H9 (.cons e7 h5 (C8 G8) .nil))))))))
  ?_ (by intro x hx;simp only [List.mem_cons,List.not_mem_nil,or_false] at hx;omega) (D6 hc.pr)
  (.cons k0 ⟨H8 k1,trivial⟩ (.cons k1 ⟨H8 k2,H8 k7,D6 A8,D6 A8,trivial⟩ (.cons k2 (AF2 k3 k6) (.cons k3 ⟨J7 k4,J7 k5,D6 A8,trivial⟩ (.cons k4 P6 (.cons k5 V8 (.maps k6 H9 (.cons k7 (C8 G8) .nil)))))))) hk
 simp only [List.nil_append,List.append_nil]
 exact ⟨H8 hz,C8 hc.pa⟩
theorem AI2 {f:Nat} {avs:List AV} {q q':Bk} {t t':TS} {o i a b c d e g nx:Nat} {l:List (Nat × AObj)} {r:AV} {K:AV→Hp→Prop} (hc:AG4 f 0 avs q t r q' t')
  (g0:lk l o=some (.cells [.ptr i 0])) (g1:lk l i=some (.cells [.ptr a 0,.ptr g 0,.int .i64 (q.a:Nat),.int .i64 (q.n:Nat)])) (h0:lk l a=some (.cells (tabC b e t.C))) (h1:lk l b=some (.cells [.sl c 0 t.n t.n 7,.sl d 0 t.m t.m 3,.int .i64 (t.S.fr:Nat)])) (h2:lk l c=some (.cells (C9 t.n t.V t.W t.V3 t.V4 t.S.L t.S.N t.S.P))) (h3:lk l d=some (.cells (J5 t.m t.S.A t.S.B t.S.C))) (h4:lk l e=some (.maps (t.E.map AG8))) (h5:lk l g=some (.cells q.s.a))
  (hlt:o < nx∧i < nx∧a < nx∧b < nx∧c < nx∧d < nx∧e < nx∧g < nx) (hd:AY6 [o,i,a,b,c,d,e,g]=true)
  (hk:AG1 [o,i,a,b,c,d,e,g] l fun l2=>K r ⟨([(o,.cells [.ptr i 0]),(i,.cells [.ptr a 0,.ptr g 0,.int .i64 (q'.a:Nat),.int .i64 (q'.n:Nat)]),(a,.cells (tabC b e t'.C)),(b,.cells [.sl c 0 t'.n t'.n 7,.sl d 0 t'.m t'.m 3,.int .i64 (t'.S.fr:Nat)]),(c,.cells (C9 t'.n t'.V t'.W t'.V3 t'.V4 t'.S.L t'.S.N t'.S.P)),(d,.cells (J5 t'.m t'.S.A t'.S.B t'.S.C)),(e,.maps (t'.E.map AG8)),(g,.cells q'.s.a)]:List (Nat × AObj))++l2,nx⟩):AB8 Tryz.prog G0 (.fn f [] []) (.ptr o 0::avs) ⟨l,nx⟩ K:=cx_bz hc rfl g0 g1 h0 h1 h2 h3 h4 h5 hlt hd hk
theorem BJ6 {f:Nat} {avs:List AV} {q q':Bk} {t t':TS} {o i a b c d e g nx:Nat} {l:List (Nat × AObj)} {r:AV} {K:AV→Hp→Prop} (hc:AG4 f 1 avs q t r q' t')
  (g1:lk l i=some (.cells [.ptr a 0,.ptr g 0,.int .i64 (q.a:Nat),.int .i64 (q.n:Nat)])) (g0:lk l o=some (.cells [.ptr i 0])) (h0:lk l a=some (.cells (tabC b e t.C))) (h1:lk l b=some (.cells [.sl c 0 t.n t.n 7,.sl d 0 t.m t.m 3,.int .i64 (t.S.fr:Nat)])) (h2:lk l c=some (.cells (C9 t.n t.V t.W t.V3 t.V4 t.S.L t.S.N t.S.P))) (h3:lk l d=some (.cells (J5 t.m t.S.A t.S.B t.S.C))) (h4:lk l e=some (.maps (t.E.map AG8))) (h5:lk l g=some (.cells q.s.a))
  (hlt:o < nx∧i < nx∧a < nx∧b < nx∧c < nx∧d < nx∧e < nx∧g < nx) (hd:AY6 [o,i,a,b,c,d,e,g]=true)
  (hk:AG1 [o,i,a,b,c,d,e,g] l fun l2=>K r ⟨([(o,.cells [.ptr i 0]),(i,.cells [.ptr a 0,.ptr g 0,.int .i64 (q'.a:Nat),.int .i64 (q'.n:Nat)]),(a,.cells (tabC b e t'.C)),(b,.cells [.sl c 0 t'.n t'.n 7,.sl d 0 t'.m t'.m 3,.int .i64 (t'.S.fr:Nat)]),(c,.cells (C9 t'.n t'.V t'.W t'.V3 t'.V4 t'.S.L t'.S.N t'.S.P)),(d,.cells (J5 t'.m t'.S.A t'.S.B t'.S.C)),(e,.maps (t'.E.map AG8)),(g,.cells q'.s.a)]:List (Nat × AObj))++l2,nx⟩):AB8 Tryz.prog G0 (.fn f [] []) (.ptr i 0::avs) ⟨l,nx⟩ K:=cx_bz hc rfl g0 g1 h0 h1 h2 h3 h4 h5 hlt hd hk
end Go.Proofs.YtphggldkligldaaGreat.Sh
namespace Go.Proofs.YtphggldkligldaaGreat.Sh
open Go Go.Am Go.Pol
theorem wx_Jb {p q:Prop} (hq:q) (h:X5 q→p:=by (intro hQz;((repeat' ((try (conv=>whnf));first|refine sxA ?_|refine sxF ?_|refine Z0 (by assumption) rfl rfl rfl rfl rfl (by decide) rfl ?_|refine X6 (by assumption) rfl (by decide) ?_|refine sxH ?_|((with_reducible first|apply N9 hQz|apply O1 hQz)<;>(try intro hsp hQz))|exact hQz.out))<;>(try (conv=>whnf))))):p:=h ⟨hq⟩
theorem AF8 {m:Int} {x:Int} (h:inR m x):∃ n:Nat,x=(n:Int)∧(n:Int) < m:=⟨x.toNat,by have:=h.1;omega,by have:=h.1;have:=h.2;omega⟩
section
variable {L:List Vw} {t:TS}
theorem BI4 {a:Nat}:(AC3 L a).length≤4000:=Nat.le_trans (As0 _ _) (by decide)
theorem AB3 (h:TOk L t) {a k:Int} (hi:inR 64 a∧inR 1024 k) (hf:Q6 L a.toNat k.toNat=none):X7 89 [.int .i64 a,.int .i64 k] t (.tup [.agg [.int .i64 0,.int .i64 0,.int .i64 0,.bool false],.int .i64 4]) t:=by
 obtain ⟨⟨a1,a2⟩,k1,k2⟩:=hi
 have:=Af4 h (a:=a.toNat) (k:=k.toNat) (by omega) (by omega) (Z7 hf)
 rwa [Int.toNat_of_nonneg a1,Int.toNat_of_nonneg k1] at this
theorem Al0 (h:TOk L t) {a k:Int} (hi:inR 64 a∧inR 1024 k) {v:Vw} (hf:Q6 L a.toNat k.toNat=some v):X7 89 [.int .i64 a,.int .i64 k] t (.tup [.agg [.int .i64 a,.int .i64 k,.int .i64 (v.2.2.1:Nat),.bool v.2.2.2],.int .i64 0]) t:=by
 obtain ⟨⟨a1,a2⟩,k1,k2⟩:=hi
 obtain ⟨hv,e1,e2⟩:=J2 hf
 have e1:v.1=a.toNat:=e1
 have e2:v.2.1=k.toNat:=e2
 have:=t_Find h hv
 unfold vwC at this
 rwa [e1,e2,Int.toNat_of_nonneg a1,Int.toNat_of_nonneg k1] at this
theorem BE1 (h:TOk L t) {f:Nat} (hf:f < 1024):X7 49 [.int .i64 (f:Nat)] t (.tup [.int .i64 (cntF L f:Nat),.int .i64 0]) t:=by
 have:=t_Count (t:=t) hf
 rwa [h.cnt] at this
theorem u_Map (h:TOk L t) {a k:Int} {f:Nat} (hi:inR 64 a∧inR 1024 k) (hf4:f < 1024) (hf:Q6 L a.toNat k.toNat=none) (hl:L.length < 2000):∃ t',TOk (Ab6 (a.toNat,k.toNat,f,true) L) t'∧X7 93 [.agg [.int .i64 a,.int .i64 k,.int .i64 (f:Nat),.bool true]] t (.int .i64 0) t':=by
 obtain ⟨⟨a1,a2⟩,k1,k2⟩:=hi
 obtain ⟨t',h1,h2⟩:=t_Map h (v:=(a.toNat,k.toNat,f,true)) ⟨(by omega:a.toNat < 64),(by omega:k.toNat < 1024),hf4⟩ (Z7 hf) hl
 refine ⟨t',h1,?_⟩
 unfold vwC at h2
 dsimp only at h2
 rwa [Int.toNat_of_nonneg a1,Int.toNat_of_nonneg k1] at h2
theorem Av6 (h:TOk L t) {a k:Int} (hi:inR 64 a∧inR 1024 k) (hf:Q6 L a.toNat k.toNat=none):X7 94 [.int .i64 a,.int .i64 k] t (.tup [.int .i64 0,.int .i64 0,.int .i64 4]) t:=by
 obtain ⟨⟨a1,a2⟩,k1,k2⟩:=hi
 have:=Av9 h (a:=a.toNat) (k:=k.toNat) (by omega) (by omega) (Z7 hf)
 rwa [Int.toNat_of_nonneg a1,Int.toNat_of_nonneg k1] at this
theorem u_at {a k:Int} (hi:inR 64 a∧inR 1024 k) {v:Vw} (hf:Q6 L a.toNat k.toNat=some v):v ∈ L∧((v.1:Nat):Int)=a∧((v.2.1:Nat):Int)=k∧v.1=a.toNat∧v.2.1=k.toNat:=by
 obtain ⟨⟨a1,a2⟩,k1,k2⟩:=hi
 obtain ⟨hv,e1,e2⟩:=J2 hf
 have e1:v.1=a.toNat:=e1
 have e2:v.2.1=k.toNat:=e2
 exact ⟨hv,by omega,by omega,e1,e2⟩
theorem u_Unmap (h:TOk L t) {a k:Int} (hi:inR 64 a∧inR 1024 k) {v:Vw} (hf:Q6 L a.toNat k.toNat=some v):∃ t',TOk (Ak7 L a.toNat k.toNat) t'∧X7 94 [.int .i64 a,.int .i64 k] t (.tup [.int .i64 (v.2.2.1:Nat),.int .i64 (cntF (Ak7 L a.toNat k.toNat) v.2.2.1:Nat),.int .i64 0]) t':=by
 obtain ⟨hv,e1,e2,e3,e4⟩:=u_at hi hf
 obtain ⟨s,hs,hu⟩:=h.slot hv
 obtain ⟨t',A,B,X,Y,hL,h1,_,_,_,h2⟩:=t_Unmap h hs hu
 have hsr:=h.srt
 have hd:Ak7 L a.toNat k.toNat=A++B:=by rw [hL] at hsr ⊢;rw [← e3,← e4,del_split hsr]
 rw [e1,e2] at h2
 rw [hd]
 exact ⟨t',h1,h2⟩
theorem u_Protect (h:TOk L t) {a k:Int} (hi:inR 64 a∧inR 1024 k) {v:Vw} (hf:Q6 L a.toNat k.toNat=some v) (w:Bool):∃ t',TOk (AQ7 (prV w) a.toNat k.toNat L) t'∧X7 95 [.int .i64 a,.int .i64 k,.bool w] t (.int .i64 0) t':=by
 obtain ⟨hv,e1,e2,e3,e4⟩:=u_at hi hf
 obtain ⟨s,hs,hu⟩:=h.slot hv
 obtain ⟨t',A,B,hL,h1,h2⟩:=t_Protect h hs hu w
 have hsr:=h.srt
 have hd:AQ7 (prV w) a.toNat k.toNat L=A++prV w v::B:=by rw [hL] at hsr ⊢;rw [← e3,← e4,Aw3 hsr]
 rw [e1,e2] at h2
 rw [hd]
 exact ⟨t',h1,h2⟩
theorem u_Split (h:TOk L t) {a k:Int} (hi:inR 64 a∧inR 1024 k) {v:Vw} (hf:Q6 L a.toNat k.toNat=some v) {f:Nat} (hf4:f < 1024) (hc:cntF L f=0):∃ t',TOk (AQ7 (frV f) a.toNat k.toNat L) t'∧X7 96 [.int .i64 a,.int .i64 k,.int .i64 (f:Nat)] t (.int .i64 0) t':=by
 obtain ⟨hv,e1,e2,e3,e4⟩:=u_at hi hf
 obtain ⟨s,hs,hu⟩:=h.slot hv
 obtain ⟨t',A,B,hL,h1,h2⟩:=t_Split h hs hu hf4 hc
 have hsr:=h.srt
 have hd:AQ7 (frV f) a.toNat k.toNat L=A++frV f v::B:=by rw [hL] at hsr ⊢;rw [← e3,← e4,Aw3 hsr]
 rw [e1,e2] at h2
 rw [hd]
 exact ⟨t',h1,h2⟩
theorem u_Fork {q:Bk} (h:TOk q.L t) (a b:Int):∃ t',TOk (q.take a b).2.2.L t'∧X7 85 [.int .i64 a,.int .i64 b] t (.tup [.int .i64 (q.take a b).1,.int .i64 (q.take a b).2.1]) t':=by
 unfold Bk.take
 by_cases hr:inR 64 a∧inR 64 b
 ·rw [if_neg (by rw [Classical.not_not];exact hr)]
  obtain ⟨a',rfl,ha⟩:=AF8 hr.1
  obtain ⟨b',rfl,hb⟩:=AF8 hr.2
  have ha':a' < 64:=by omega
  have hb':b' < 64:=by omega
  rw [Int.toNat_natCast,Int.toNat_natCast]
  by_cases hab:a'=b'
  ·rw [if_pos (by rw [hab])]
   exact ⟨t,h,AX5 h ha' hb' (.inl ⟨rfl,hab⟩)⟩
  ·rw [if_neg (by omega)]
   by_cases hB:(ofA b' q.L).length=0
   ·rw [if_neg (by rw [Classical.not_not];exact hB)]
    by_cases hf:2000 < q.L.length+(ofA a' q.L).length
    ·rw [if_pos hf]
     exact ⟨t,h,AX5 h ha' hb' (.inr (.inr ⟨rfl,hab,hB,hf⟩))⟩
    ·rw [if_neg hf]
     have hnb:ofA b' q.L=[]:=List.eq_nil_of_length_eq_zero hB
     obtain ⟨t',M,h1,h2,h3⟩:=t_Fork h hab ha' hb' hnb (by omega)
     have e:=BA3 h.srt h1.srt hnb h2
     rw [e] at h1
     exact ⟨t',h1,h3⟩
   ·rw [if_pos hB]
    exact ⟨t,h,AX5 h ha' hb' (.inr (.inl ⟨rfl,hab,hB⟩))⟩
 ·rw [if_pos hr]
  exact ⟨t,h,t_Fork_no a b hr⟩
theorem u_where {q:Bk} (h:TOk q.L t) (a at_:Int) (w:Bool):X7 121 [.int .i64 a,.int .i64 at_,.bool w] t (.tup [.int .i64 (q.where_ a at_ w).1,.int .i64 (q.where_ a at_ w).2]) t:=by
 unfold Bk.where_
 by_cases hat:inR 65536 at_
 ·obtain ⟨at',rfl,hat'⟩:=AF8 hat
  by_cases ha:inR 64 a
  ·obtain ⟨a',rfl,ha'⟩:=AF8 ha
   rw [if_neg (by rw [Classical.not_not];exact ⟨ha,hat⟩),Int.toNat_natCast,Int.toNat_natCast]
   cases hf:Q6 q.L a' (at' / 64) with
   | none=>exact Av7 h (by omega) (by omega) (Z7 hf) w
   | some v =>
    obtain ⟨hv,e1,e2⟩:=J2 hf
    have e1:v.1=a':=e1
    have e2:v.2.1=at' / 64:=e2
    dsimp only
    by_cases hw:w=true∧v.2.2.2=false
    ·rw [if_pos hw]
     have:=BS4 h hv (by omega) e2 hw.2
     rw [e1] at this;rw [hw.1];exact this
    ·rw [if_neg hw]
     have:=t_where h hv (at_:=at') (by omega) e2 (w:=w) fun e=>by
      cases hb:v.2.2.2
      ·exact absurd ⟨e,hb⟩ hw
      ·rfl
     rw [e1] at this;exact this
  ·rw [if_pos fun e=>ha e.1]
   exact BS5 a at' w (by omega) ha
 ·rw [if_pos fun e=>hat e.2]
  exact BE3 a at_ w hat
theorem u_Read {q:Bk} (h:TOk q.L t) (a at_:Int):LocTX 52 [.int .i64 a,.int .i64 at_] t q.s (.tup [.int .u8 (q.read a at_).1,.int .i64 (q.read a at_).2]) q.s:=by
 have h1:=u_where h a at_ false
 have hr:=p_read (s:=q.s) (a:=(q.where_ a at_ false).1)
 unfold Bk.read
 generalize (q.where_ a at_ false)=x at *
 obtain ⟨k,e⟩:=x
 dsimp only at *
 generalize q.s=s at *
 by_cases he:e=0
 ·rw [if_pos he]
  refine ⟨D9 E9 b52 rfl ?_,by simp [A8],o7⟩
  unfold c52
  unfold rdN
  (refine wx_Jb ?_;repeat' (first|with_reducible refine And.intro ?_ ?_|intro hsp))
  all_goals exact BQ2 (fun hs=>K5 hs o7) rfl rfl rfl rfl rfl rfl
 ·rw [if_neg he]
  refine ⟨D9 E9 b52 rfl ?_,by simp [A8],o7⟩
  unfold c52
  unfold rdN
  (refine wx_Jb ?_;repeat' (first|with_reducible refine And.intro ?_ ?_|intro hsp))
  all_goals exact BQ2 (fun hs=>K5 hs o7) rfl rfl rfl rfl rfl rfl
theorem BE0 {q:Bk} (h:TOk q.L t) (a at_ b:Int):LocTX 97 [.int .i64 a,.int .i64 at_,.int .u8 b] t q.s (.int .i64 (q.put a at_ b).1) (q.put a at_ b).2.s:=by
 have h1:=u_where h a at_ true
 have hr:=BG2 (s:=q.s) (a:=(q.where_ a at_ true).1) (b:=b)
 unfold Bk.put
 generalize (q.where_ a at_ true)=x at *
 obtain ⟨k,e⟩:=x
 dsimp only at *
 by_cases he:e=0
 ·rw [if_pos he]
  dsimp only
  generalize q.s.write k b=y at *
  generalize q.s=s at *
  obtain ⟨e2,s2⟩:=y
  dsimp only at *
  refine ⟨D9 E9 b97 rfl ?_,by simp [A8],A8⟩
  unfold c97
  unfold rdN
  (refine wx_Jb ?_;repeat' (first|with_reducible refine And.intro ?_ ?_|intro hsp))
  all_goals exact BQ2 (fun hs=>K5 hs A8) rfl rfl rfl rfl rfl rfl
 ·rw [if_neg he]
  dsimp only
  generalize q.s=s at *
  refine ⟨D9 E9 b97 rfl ?_,by simp [A8],A8⟩
  unfold c97
  unfold rdN
  (refine wx_Jb ?_;repeat' (first|with_reducible refine And.intro ?_ ?_|intro hsp))
  all_goals exact BQ2 (fun hs=>K5 hs A8) rfl rfl rfl rfl rfl rfl
end
end Go.Proofs.YtphggldkligldaaGreat.Sh
namespace Go.Pol
open Go.Am Go.Proofs.YtphggldkligldaaGreat.Sh
theorem giv_s {s:Sy} {G:List Nat} {i:Nat} (hi:i < G.length):AG5 s (G.take (i+1))=((AG5 s (G.take i)).chg (nth 0 G i:Nat) 1 2 1 3).2:=by
 rw [y9 (d:=0) hi];unfold AG5;rw [List.foldl_append];rfl
theorem BP5 {s:Sy} (h:GoodS s) (G:List Nat):∀ i,i≤G.length→GoodS (AG5 s (G.take i))
 | 0,_=>h
 | i+1,hi=>by rw [giv_s (by omega)];exact Ar8 (BP5 h G i (by omega)) (by decide)
def rdK (f:Nat→Int) (k:Nat):Nat→AV:=fun j=>.int .u8 (if j < k then f j else 0)
def bcA (f:Nat→Int):List AV:=memA 64 fun j=>.int .u8 (f j)
theorem rdK_0 {f:Nat→Int}:memA 64 (rdK f 0)=List.replicate 64 (.int .u8 0):=by
 refine List.ext_getElem? fun i=>?_
 by_cases h:i < 64
 ·rw [List.getElem?_replicate,if_pos h,Q5 h];unfold rdK;rw [if_neg (by omega)]
 ·rw [List.getElem?_eq_none (by rw [R5];omega),List.getElem?_eq_none (by rw [List.length_replicate];omega)]
theorem rdK_s {f:Nat→Int} {k:Nat} (hk:k < 64):(memA 64 (rdK f k)).set k (.int .u8 (f k))=memA 64 (rdK f (k+1)):=by
 rw [AP4]
 refine U7 fun j _=>?_
 unfold rdK
 split
 ·rename_i e;subst e;rw [if_pos (by omega)]
 ·rename_i e
  by_cases h:j < k
  ·rw [if_pos h,if_pos (by omega)]
  ·rw [if_neg h,if_neg (by omega)]
theorem rdK_all {f:Nat→Int}:memA 64 (rdK f 64)=bcA f:=U7 fun j hj=>by unfold rdK;rw [if_pos hj]
theorem AU3 {f:Nat→Int} {k:Nat}:∀ x ∈ memA 64 (rdK f k),Plain x:=AB4 fun _ _=>A8
theorem AW5 {f:Nat→Int}:∀ x ∈ bcA f,Plain x:=AB4 fun _ _=>A8
theorem Aj0 {f:Nat→Int}:(bcA f).length=64:=R5 _ _
theorem BN9:∀ (a cs:List AV),over (a++cs) a.length cs=a++cs
 | a,[]=>rfl
 | a,v::vs=>by
  show over ((a++v::vs).set a.length v) (a.length+1) vs=a++v::vs
  have e:(a++v::vs).set a.length v=(a++[v])++vs:=by simp
  have h:=BN9 (a++[v]) vs
  rw [List.length_append] at h
  rw [e]
  exact h.trans (by simp)
theorem over_self (cs:List AV):over cs 0 cs=cs:=BN9 [] cs
theorem bc_take {f:Nat→Int}:(bcA f).take 64=bcA f:=List.take_of_length_le (by rw [Aj0];exact Nat.le_refl _)
theorem in_lt {m n:Int} (h:0≤n):decide (n < m)=decide (inR m n):=decide_eq_decide.2 ⟨fun h2=>⟨h,h2⟩,fun h2=>h2.2⟩
theorem in_yes {m n:Int} (h:0≤n∧n < m):true=decide (inR m n):=(decide_eq_true (show inR m n from h)).symm
theorem in_not {m n:Int} (h:n < 0∨m≤n):false=decide (inR m n):=(decide_eq_false fun h2:inR m n=>by have:=h2.1;have:=h2.2;omega).symm
end Go.Pol
namespace Go.Proofs.YtphggldkligldaaGreat.Sh
open Go Go.Am Go.Pol
theorem plx_Jc {p:Prop} (h:p:=by ((first|exact plw|(with_reducible first|apply O7|apply M8|apply Y1|apply plain_stA|apply AK1|apply AH1|fail)|fail);first|done|fail)):p:=h
theorem ppx_Jc {p:Prop} (h:p:=by ((first|with_reducible assumption|(with_reducible first|apply F5|apply F8|apply P9|apply P5 _ _|apply Y0|apply AU9|apply G8|apply Aj1|apply AU3|apply AW5|fail)|exact ppw|fail);first|done|fail)):p:=h
open Go.Proofs.YtphggldkligldaaGreat.Sh renaming plx_Jc → plx
open Go.Proofs.YtphggldkligldaaGreat.Sh renaming ppx_Jc → ppx
theorem wx_Jc {p q:Prop} (hq:q) (h:X5 q→p:=by (intro hQz;((repeat' ((try (conv=>whnf));first|refine sxA ?_|refine AI0 (d:=0) Ad4 (by first|assumption|omega) (by with_reducible assumption) ?_|refine D7 (by rw [R5];omega) hset ?_|refine p9 (by rw [Aj0];omega) List.drop_zero (p8 (by rw [Aj0];omega) bc_take ?_)|refine ⟨Aj0,?_⟩|refine Aq6 (by simp only [Aj0];omega) (over_self _) ?_|refine sxF ?_|refine X6 (by assumption) rfl (by decide) ?_|refine sxH ?_|((with_reducible first|apply N9 hQz|apply O1 hQz)<;>(try intro hsp hQz))|exact hQz.out))<;>(try (conv=>whnf))))):p:=h ⟨hq⟩
theorem AH1 {f:Nat→Int}:Plain (.agg (bcA f)):=K8 AW5
theorem AZ5 (n:Int):M5 88 [.int .i64 n] (.bool (decide (inR 64 n))):=by
 refine M5.mk (V7 E9 b88 I7 ⟨A8,trivial⟩ A9 rfl ?_)
 unfold c88
 (refine wx_Jc ?_;repeat' (first|with_reducible refine And.intro ?_ ?_|intro hsp))
 all_goals exact Y3 (by first|exact in_lt (by assumption)|exact in_yes (by omega)|exact in_not (by omega))
theorem k_slot (n:Int):M5 91 [.int .i64 n] (.bool (decide (inR 1024 n))):=by
 refine M5.mk (V7 E9 b91 I7 ⟨A8,trivial⟩ A9 rfl ?_)
 unfold c91
 (refine wx_Jc ?_;repeat' (first|with_reducible refine And.intro ?_ ?_|intro hsp))
 all_goals exact Y3 (by first|exact in_lt (by assumption)|exact in_yes (by omega)|exact in_not (by omega))
section
variable {q:Bk} {t:TS}
theorem b_is:AG4 51 0 [] q t (.bool true) q t:=by
 refine AG4.mk (D9 E9 b51 rfl ?_) (fun x hx=>by cases hx) A9
 unfold c51
 unfold bkN rdN
 (refine wx_Jc ?_;repeat' (first|with_reducible refine And.intro ?_ ?_|intro hsp))
 all_goals exact O4 rfl A9 rfl rfl rfl rfl rfl rfl rfl rfl
theorem b_give (hg:GoodS q.s) {G:List Nat} (hG:G.length≤4000):AG4 87 1 [.isl (G.map nat1)] q t (.tup []) { q with s:=AG5 q.s G } t:=by
 refine AG4.mk (D9 E9 b87 rfl ?_) (fun x hx=>by obtain rfl:=List.mem_singleton.1 hx;exact AK1) M0
 unfold c87
 unfold bkN rdN
 (refine wx_Jc ?_;repeat' (first|with_reducible refine And.intro ?_ ?_|intro hsp))
 (refine F6 [0,6,7] (fun (i:Nat)=>[(8,.int .i64 (i:Nat))]) (fun (i:Nat)=>⟨bkN { q with s:=AG5 q.s (G.take i) } t 0 1 2 3 4 5 6 7,8⟩) (fun (i:Nat)=>i≤G.length) (fun (i:Nat)=>G.length - i) (0) [] rfl (fun _=>by first|exact Nat.zero_le _|(dsimp only;omega)) ?_ (by ((try (conv=>whnf));exact F9)) ?_)
 ·exact Nat.zero_le _
 intro i hi
 by_cases hil:i < G.length
 ·have c1:=Al6 (a:=(nth 0 G i:Nat)) (n:=1) (BP5 hg G i hi)
  rw [← giv_s hil] at c1
  generalize hx:nth 0 G i=f at *
  unfold bkN rdN
  dsimp only
  (refine wx_Jc ?_;repeat' (first|with_reducible refine And.intro ?_ ?_|intro hsp))
  all_goals exact F3 (i+1) [] (by (try dsimp only);omega) (by first|omega|(dsimp only;omega)) rfl (by exact F9)
 ·obtain rfl:i=G.length:=by omega
  rw [List.take_length]
  unfold bkN rdN
  dsimp only
  (refine wx_Jc ?_;repeat' (first|with_reducible refine And.intro ?_ ?_|intro hsp))
  all_goals exact O4 (q:={ q with s:=AG5 q.s G }) rfl M0 rfl rfl rfl rfl rfl rfl rfl rfl
theorem BX0:AG4 87 1 [.nils] q t (.tup []) q t:=by
 refine AG4.mk (D9 E9 b87 rfl ?_) (fun x hx=>by obtain rfl:=List.mem_singleton.1 hx;exact AJ0) M0
 unfold c87
 unfold bkN rdN
 (refine wx_Jc ?_;repeat' (first|with_reducible refine And.intro ?_ ?_|intro hsp))
 (refine F6 [0,6,7] (fun (i:Nat)=>[(8,.int .i64 (i:Nat))]) (fun (i:Nat)=>⟨bkN q t 0 1 2 3 4 5 6 7,8⟩) (fun (i:Nat)=>i=0) (fun (i:Nat)=>0) (0) [] rfl (fun _=>by first|exact Nat.zero_le _|(dsimp only;omega)) ?_ (by ((try (conv=>whnf));exact F9)) ?_)
 ·rfl
 intro i hi
 unfold bkN rdN
 (refine wx_Jc ?_;repeat' (first|with_reducible refine And.intro ?_ ?_|intro hsp))
 all_goals exact O4 rfl M0 rfl rfl rfl rfl rfl rfl rfl rfl
theorem BK2 {f:Nat} (hf:f < 1024) (hk:q.s.K f=2):AG4 90 1 [.int .i64 (f:Nat)] q t (.agg (bcA (q.s.B f))) q t:=by
 refine AG4.mk (D9 E9 b90 rfl ?_) (fun x hx=>by obtain rfl:=List.mem_singleton.1 hx;exact A8) AH1
 unfold c90
 unfold bkN rdN
 rw [← rdK_0 (f:=q.s.B f)]
 (refine wx_Jc ?_;repeat' (first|with_reducible refine And.intro ?_ ?_|intro hsp))
 (refine F6 [0,1,4] (fun (k:Nat)=>[(6,.int .i64 (k:Nat))]) (fun (k:Nat)=>⟨bkN q t 0 1 2 3 4 5 6 7++[(8,.cells (memA 64 (rdK (q.s.B f) k)))],9⟩) (fun (k:Nat)=>k≤64) (fun (k:Nat)=>64 - k) (0) [] rfl (fun _=>by first|exact Nat.zero_le _|(dsimp only;omega)) ?_ (by ((try (conv=>whnf));exact F9)) ?_)
 ·exact Nat.zero_le _
 intro k hkk
 by_cases hkl:k < 64
 ·have c1:=p_read (s:=q.s) (a:=(f:Int) * 64+(k:Nat))
  rw [read_at hk hf hkl] at c1
  dsimp only at c1
  have hset:=rdK_s (f:=q.s.B f) hkl
  unfold bkN rdN
  generalize q.s.B f k=y at *
  (refine wx_Jc ?_;repeat' (first|with_reducible refine And.intro ?_ ?_|intro hsp))
  all_goals exact F3 (k+1) [] (by (try dsimp only);omega) (by first|omega|(dsimp only;omega)) rfl (by exact F9)
 ·obtain rfl:k=64:=by omega
  rw [rdK_all]
  unfold bkN rdN
  (refine wx_Jc ?_;repeat' (first|with_reducible refine And.intro ?_ ?_|intro hsp))
  all_goals exact O4 rfl AH1 rfl rfl rfl rfl rfl rfl rfl rfl
end
end Go.Proofs.YtphggldkligldaaGreat.Sh
namespace Go.Pol
open Go.Am
theorem kind_at {s:Sy} {f:Nat} (hf:f < 1024) (hm:s.M f=false):s.kind (f:Nat)=[.int .i64 (s.K f),.bool false,.int .i64 0]:=by
 unfold Sy.kind
 rw [if_neg (by omega),Int.toNat_natCast,hm]
theorem chg_err {s:Sy} {f:Nat} (hf:f < 1024) (hk:s.K f=1) (hm:s.M f=false):(s.chg (f:Nat) 1 1 2 2).1=0→(s.chg (f:Nat) 1 1 2 2).2.K f=2:=fun h=>by
 rw [At7 hf hk hm] at h ⊢
 split at h
 ·exact absurd h (show ¬ (60:Int)=0 by decide)
 ·rename_i e;rw [if_neg e];show (if f=f then (2:Int) else s.K f)=2;rw [if_pos rfl]
end Go.Pol
namespace Go.Proofs.YtphggldkligldaaGreat.Sh
open Go Go.Am Go.Pol
open Go.Proofs.YtphggldkligldaaGreat.Sh renaming plx_Jc → plx
open Go.Proofs.YtphggldkligldaaGreat.Sh renaming ppx_Jc → ppx
theorem wx_Jd {p q:Prop} (hq:q) (h:X5 q→p:=by (intro hQz;((repeat' ((try (conv=>whnf));first|refine sxA ?_|refine p9 (by rw [Aj0];omega) List.drop_zero (p8 (by rw [Aj0];omega) bc_take ?_)|refine G5 hxk ?_|refine sxF ?_|refine Z0 (by assumption) rfl rfl rfl rfl rfl (by decide) rfl ?_|refine AS7 E9 rfl hF hA hB rfl ?_|refine Z0 hcn rfl rfl rfl rfl rfl (by decide) rfl ?_|refine X6 hck rfl (by decide) ?_|refine X6 hcm rfl (by decide) ?_|refine X6 hws rfl (by decide) ?_|refine rd_ret rfl ?_|refine rg_ret rfl ?_|(refine X4 E9 b75 rfl ?_;unfold c75)|refine sxH ?_|((with_reducible first|apply N9 hQz|apply O1 hQz)<;>(try intro hsp hQz))|exact hQz.out))<;>(try (conv=>whnf))))):p:=h ⟨hq⟩
section
variable {q:Bk} {t:TS}
theorem Y2 {a b:Int}:Plain (.tup [.int .i64 a,.int .i64 b]):=G7 fun x hx=>by
 simp only [List.mem_cons,List.not_mem_nil,or_false] at hx
 rcases hx with rfl|rfl<;>exact A8
theorem b_take (hg:H6 q) (h:TOk q.L t) (x:Nat→Int):AG4 92 1 [.agg (bcA x)] q t (.tup [.int .i64 ((tkP q.a q.n q.L q.s x).2.1:Nat),.int .i64 (tkP q.a q.n q.L q.s x).1]) { q with s:=(tkP q.a q.n q.L q.s x).2.2 } t:=by
 refine AG4.mk (D9 E9 b92 rfl ?_) (fun x hx=>by obtain rfl:=List.mem_singleton.1 hx;exact AH1) Y2
 have hrng:=hg.rng
 unfold c92
 unfold bkN rdN
 (refine wx_Jd ?_;repeat' (first|with_reducible refine And.intro ?_ ?_|intro hsp))
 refine AR8 E9 b137 rfl trivial ?_
 intro frl asl bdl hF hA hB
 unfold c137
 (refine wx_Jd ?_;repeat' (first|with_reducible refine And.intro ?_ ?_|intro hsp))
 (refine F6 [0,1] (fun (i:Nat)=>[(3,.int .i64 ((q.a+i:Nat):Int))]) (fun (i:Nat)=>⟨bkN q t 0 1 2 3 4 5 6 7++[(8,.cells [.ptr 1 0]),(9,.cells (bcA x)),(10,.cells [.int .i64 0]),(11,.cells [.int .i64 0]),(12,.cells [.ptr 1 0]),(13,.loop .ready none frl [16,17] asl bdl)],14⟩) (fun (i:Nat)=>i≤q.n∧∀ j,j < i→0 < cntF q.L (q.a+j)) (fun (i:Nat)=>q.n - i) (0) [] rfl (fun _=>by first|exact Nat.zero_le _|(dsimp only;omega)) ?_ (by ((try (conv=>whnf));exact F9)) ?_)
 ·exact ⟨Nat.zero_le _,fun j hj=>absurd hj (Nat.not_lt_zero _)⟩
 intro i hi
 obtain ⟨hi,hall⟩:=hi
 by_cases hil:i < q.n
 ·have hkd:=hg.kind (q.a+i) (by omega) (by omega)
  have hcn:=BE1 h (f:=q.a+i) (by omega)
  by_cases hc:0 < cntF q.L (q.a+i)
  ·have hnext:i+1≤q.n∧∀ j,j < i+1→0 < cntF q.L (q.a+j):=⟨hil,fun j hj=>by
    by_cases e:j=i
    ·rw [e];exact hc
    ·exact hall j (by omega)⟩
   generalize cntF q.L (q.a+i)=n at *
   unfold bkN rdN
   (refine wx_Jd ?_;repeat' (first|with_reducible refine And.intro ?_ ?_|intro hsp))
   all_goals exact F3 (i+1) [] hnext (by first|omega|(dsimp only;omega)) rfl (by exact F9)
  ·have hc0:cntF q.L (q.a+i)=0:=by omega
   have hfr:=free_at hil hall hc0
   have hck:=p_kind (s:=q.s) (a:=((q.a+i:Nat):Int))
   rw [kind_at (by omega) hkd.2] at hck
   have hcm:=p_commit (a:=((q.a+i:Nat):Int)) (n:=1) hg.good
   have hce:=chg_err (s:=q.s) (f:=q.a+i) (by omega)
   have hgc:GoodS (q.s.chg ((q.a+i:Nat):Int) 1 1 2 2).2:=Ar8 hg.good (by decide)
   have hf4:q.a+i < 1024:=by omega
   unfold tkP
   rw [hfr]
   dsimp only
   rw [hc0] at hcn
   have hfn:q.a+i < q.a+q.n:=by omega
   have hkk:=hkd.1
   have hM:=hkd.2
   generalize q.a+i=f at *
   generalize q.s.chg (f:Int) 1 1 2 2=r at *
   obtain ⟨e,s1⟩:=r
   dsimp only at *
   by_cases hk1:q.s.K f=1
   ·rw [if_pos hk1]
    rw [hk1] at hck
    by_cases he:e=0
    ·rw [if_pos he]
     subst he
     unfold bkN rdN
     (refine wx_Jd ?_;repeat' (first|with_reducible refine And.intro ?_ ?_|intro hsp))
     have hw0:=wrK_0 (s:=s1) (f:=f) (x:=x)
     (refine F6 [2,4,5,6,41] (fun (k:Nat)=>[(42,.int .i64 (k:Nat))]) (fun (k:Nat)=>⟨bkN ⟨q.a,q.n,q.L,wrK s1 f x k⟩ t 0 1 2 3 4 5 6 7++[(8,.cells [.ptr 1 0]),(9,.cells (bcA x)),(10,.cells [.int .i64 0]),(11,.cells [.int .i64 0]),(12,.cells [.ptr 1 0]),(13,.loop .busy none frl [16,17] asl bdl)],25⟩) (fun (k:Nat)=>k≤64) (fun (k:Nat)=>64 - k) (0) [] rfl (fun _=>by first|exact Nat.zero_le _|(dsimp only;omega)) ?_ (by ((try (conv=>whnf));(rw [hw0]);exact F9)) ?_)
     ·exact Nat.zero_le _
     intro k hkk
     by_cases hkl:k < 64
     ·have hws:=BG2 (s:=wrK s1 f x k) (a:=(f:Int) * 64+(k:Nat)) (b:=x k)
      rw [wrK_s (hce hk1 hM rfl) hf4 hkl] at hws
      dsimp only at hws
      have hxk:(bcA x)[k]? = some (.int .u8 (x k)):=Q5 hkl
      unfold bkN rdN
      dsimp only
      (refine wx_Jd ?_;repeat' (first|with_reducible refine And.intro ?_ ?_|intro hsp))
      all_goals exact F3 (k+1) [] (by (try dsimp only);omega) (by first|omega|(dsimp only;omega)) rfl (by exact F9)
     ·obtain rfl:k=64:=by omega
      rw [wrK_all hgc]
      unfold bkN rdN
      dsimp only
      (refine wx_Jd ?_;repeat' (first|with_reducible refine And.intro ?_ ?_|intro hsp))
      all_goals exact O4 (q:=⟨q.a,q.n,q.L,s1.page f x⟩) rfl Y2 rfl rfl rfl rfl rfl rfl rfl rfl
    ·rw [if_neg he]
     unfold bkN rdN
     (refine wx_Jd ?_;repeat' (first|with_reducible refine And.intro ?_ ?_|intro hsp))
     all_goals exact O4 (q:=⟨q.a,q.n,q.L,s1⟩) rfl Y2 rfl rfl rfl rfl rfl rfl rfl rfl
   ·rw [if_neg hk1]
    have hk2:q.s.K f=2:=hkk.resolve_left hk1
    rw [hk2] at hck
    unfold bkN rdN
    (refine wx_Jd ?_;repeat' (first|with_reducible refine And.intro ?_ ?_|intro hsp))
    have hw0:=wrK_0 (s:=q.s) (f:=f) (x:=x)
    (refine F6 [2,4,5,6,41] (fun (k:Nat)=>[(42,.int .i64 (k:Nat))]) (fun (k:Nat)=>⟨bkN ⟨q.a,q.n,q.L,wrK q.s f x k⟩ t 0 1 2 3 4 5 6 7++[(8,.cells [.ptr 1 0]),(9,.cells (bcA x)),(10,.cells [.int .i64 0]),(11,.cells [.int .i64 0]),(12,.cells [.ptr 1 0]),(13,.loop .busy none frl [16,17] asl bdl)],25⟩) (fun (k:Nat)=>k≤64) (fun (k:Nat)=>64 - k) (0) [] rfl (fun _=>by first|exact Nat.zero_le _|(dsimp only;omega)) ?_ (by ((try (conv=>whnf));(rw [hw0]);exact F9)) ?_)
    ·exact Nat.zero_le _
    intro k hkk
    by_cases hkl:k < 64
    ·have hws:=BG2 (s:=wrK q.s f x k) (a:=(f:Int) * 64+(k:Nat)) (b:=x k)
     rw [wrK_s hk2 hf4 hkl] at hws
     dsimp only at hws
     have hxk:(bcA x)[k]? = some (.int .u8 (x k)):=Q5 hkl
     unfold bkN rdN
     dsimp only
     (refine wx_Jd ?_;repeat' (first|with_reducible refine And.intro ?_ ?_|intro hsp))
     all_goals exact F3 (k+1) [] (by (try dsimp only);omega) (by first|omega|(dsimp only;omega)) rfl (by exact F9)
    ·obtain rfl:k=64:=by omega
     rw [wrK_all hg.good]
     unfold bkN rdN
     dsimp only
     (refine wx_Jd ?_;repeat' (first|with_reducible refine And.intro ?_ ?_|intro hsp))
     all_goals exact O4 (q:=⟨q.a,q.n,q.L,q.s.page f x⟩) rfl Y2 rfl rfl rfl rfl rfl rfl rfl rfl
 ·obtain rfl:i=q.n:=by omega
  have hfr:=free_not hall
  unfold tkP
  rw [hfr]
  dsimp only
  unfold bkN rdN
  (refine wx_Jd ?_;repeat' (first|with_reducible refine And.intro ?_ ?_|intro hsp))
  all_goals exact O4 rfl Y2 rfl rfl rfl rfl rfl rfl rfl rfl
end
end Go.Proofs.YtphggldkligldaaGreat.Sh
namespace Go.Pol
open Go.Am
theorem bc_zero:bcA (fun _=>0)=List.replicate 64 (.int .u8 0):=by
 refine List.ext_getElem? fun i=>?_
 unfold bcA
 by_cases h:i < 64
 ·rw [List.getElem?_replicate,if_pos h,Q5 h]
 ·rw [List.getElem?_eq_none (by rw [R5];omega),List.getElem?_eq_none (by rw [List.length_replicate];omega)]
end Go.Pol
namespace Go.Proofs.YtphggldkligldaaGreat.Sh
open Go Go.Am Go.Pol
theorem plx_Je {p:Prop} (h:p:=by ((first|exact plw|(with_reducible first|apply O7|apply M8|apply Y1|apply plain_stA|apply AK1|apply AH1|apply M0|fail)|fail);first|done|fail)):p:=h
open Go.Proofs.YtphggldkligldaaGreat.Sh renaming plx_Je → plx
open Go.Proofs.YtphggldkligldaaGreat.Sh renaming ppx_Jc → ppx
theorem wx_Je {p q:Prop} (hq:q) (h:X5 q→p:=by (intro hQz;((repeat' ((try (conv=>whnf));first|refine sxA ?_|refine sxF ?_|refine AI2 (by assumption) rfl rfl rfl rfl rfl rfl rfl rfl (by decide) rfl ?_|refine O5 (by assumption) ?_|refine Z0 (by assumption) rfl rfl rfl rfl rfl (by decide) rfl ?_|refine AI2 hi rfl rfl rfl rfl rfl rfl rfl rfl (by decide) rfl ?_|refine BJ6 (o:=0) htk rfl rfl rfl rfl rfl rfl rfl rfl (by decide) rfl ?_|refine X6 (by assumption) rfl (by decide) ?_|refine BJ6 (o:=0) hgv rfl rfl rfl rfl rfl rfl rfl rfl (by decide) rfl ?_|(refine X4 E9 b87 rfl ?_;unfold c87)|refine sxH ?_|((with_reducible first|apply N9 hQz|apply O1 hQz)<;>(try intro hsp hQz))|exact hQz.out))<;>(try (conv=>whnf))))):p:=h ⟨hq⟩
theorem wx_Jen {p q:Prop} (hq:q) (h:X5 q→p:=by (intro hQz;((repeat' ((try (conv=>whnf));first|refine sxA ?_|refine sxN ?_|refine AI2 hi rfl rfl rfl rfl rfl rfl rfl rfl (by decide) rfl ?_|refine cx_tx (by assumption) rfl rfl rfl rfl rfl rfl (by decide) rfl ?_|refine BJ5 (by assumption) rfl rfl rfl rfl rfl rfl rfl ?_|refine sxH ?_|((with_reducible first|apply N9 hQz|apply O1 hQz)<;>(try intro hsp hQz))|exact hQz.out))<;>(try (conv=>whnf))))):p:=h ⟨hq⟩
section
variable {q:Bk} {t:TS}
theorem R4 {a b:Int}:Plain (.tup [.int .i64 a,.int .i64 b]):=G7 fun x hx=>by
 simp only [List.mem_cons,List.not_mem_nil,or_false] at hx
 rcases hx with rfl|rfl<;>exact A8
theorem b_Map (hg:H6 q) (h:TOk q.L t) (x k:Int):∃ t',TOk (q.map x k).2.L t'∧AG4 35 0 [.int .i64 x,.int .i64 k] q t (.int .i64 (q.map x k).1) (q.map x k).2 t':=by
 have hi:=b_is (q:=q) (t:=t)
 have hsp:=AZ5 x
 have hsl:=k_slot k
 have hsv:=t_Save h
 unfold Bk.map
 by_cases hin:inR 64 x∧inR 1024 k
 ·rw [if_neg (by rw [Classical.not_not];exact hin)]
  rw [decide_eq_true hin.1] at hsp
  rw [decide_eq_true hin.2] at hsl
  cases hf:Q6 q.L x.toNat k.toNat with
  | some v =>
   have hfi:=Al0 h hin hf
   rw [if_pos (by rfl)]
   refine ⟨t,h,AG4.mk (D9 E9 b35 rfl ?_) I4 A8⟩
   unfold c35
   unfold bkN rdN
   (refine wx_Je ?_;repeat' (first|with_reducible refine And.intro ?_ ?_|intro hsp))
   all_goals exact O4 rfl A8 rfl rfl rfl rfl rfl rfl rfl rfl
  | none =>
   have hfi:=AB3 h hin hf
   rw [if_neg (by simp)]
   by_cases hl:2000≤q.L.length
   ·rw [if_pos hl]
    refine ⟨t,h,AG4.mk (D9 E9 b35 rfl ?_) I4 A8⟩
    unfold c35
    unfold bkN rdN
    (refine wx_Je ?_;repeat' (first|with_reducible refine And.intro ?_ ?_|intro hsp))
    all_goals first|exact O4 rfl A8 rfl rfl rfl rfl rfl rfl rfl rfl|(exfalso;omega)
   ·rw [if_neg hl]
    have htk:=b_take hg h fun _=>0
    rw [bc_zero] at htk
    have tk:=hg.tk fun _=>0
    generalize hr:tkP q.a q.n q.L q.s (fun _=>0)=r at *
    obtain ⟨e,f,s1⟩:=r
    dsimp only at *
    have hin2:=b_is (q:={ q with s:=s1 }) (t:=t)
    by_cases he:e=0
    ·rw [if_pos he]
     subst he
     have hgot:=tk.got rfl
     dsimp only at hgot
     obtain ⟨t',h1,h2⟩:=u_Map h hin (f:=f) (by have:=hgot.2.1;have:=hg.rng.2;omega) hf (by omega)
     refine ⟨t',h1,AG4.mk (D9 E9 b35 rfl ?_) I4 A8⟩
     unfold c35
     unfold bkN rdN
     (refine wx_Je ?_;repeat' (first|with_reducible refine And.intro ?_ ?_|intro hsp))
     all_goals first|exact O4 (q:=⟨q.a,q.n,Ab6 (x.toNat,k.toNat,f,true) q.L,s1⟩) rfl A8 rfl rfl rfl rfl rfl rfl rfl rfl|(exfalso;omega)
    ·rw [if_neg he]
     refine ⟨t,h,AG4.mk (D9 E9 b35 rfl ?_) I4 A8⟩
     unfold c35
     unfold bkN rdN
     (refine wx_Je ?_;repeat' (first|with_reducible refine And.intro ?_ ?_|intro hsp))
     all_goals first|exact O4 (q:=⟨q.a,q.n,q.L,s1⟩) rfl A8 rfl rfl rfl rfl rfl rfl rfl rfl|(exfalso;omega)
 ·rw [if_pos hin]
  refine ⟨t,h,AG4.mk (D9 E9 b35 rfl ?_) I4 A8⟩
  unfold c35
  unfold bkN rdN
  (refine wx_Je ?_;repeat' (first|with_reducible refine And.intro ?_ ?_|intro hsp))
  all_goals first|exact O4 rfl A8 rfl rfl rfl rfl rfl rfl rfl rfl|(exfalso;simp_all;done)
theorem b_Unmap (hg:H6 q) (h:TOk q.L t) (x k:Int):∃ t',TOk (q.unmap x k).2.L t'∧AG4 36 0 [.int .i64 x,.int .i64 k] q t (.int .i64 (q.unmap x k).1) (q.unmap x k).2 t':=by
 have hi:=b_is (q:=q) (t:=t)
 unfold Bk.unmap
 by_cases hin:inR 64 x∧inR 1024 k
 ·rw [if_neg (by rw [Classical.not_not];exact hin)]
  cases hf:Q6 q.L x.toNat k.toNat with
  | none =>
   have hfi:=Av6 h hin hf
   refine ⟨t,h,AG4.mk (D9 E9 b36 rfl ?_) I4 A8⟩
   unfold c36
   unfold bkN rdN
   (refine wx_Je ?_;repeat' (first|with_reducible refine And.intro ?_ ?_|intro hsp))
   all_goals first|exact O4 rfl A8 rfl rfl rfl rfl rfl rfl rfl rfl|(exfalso;omega)
  | some v =>
   obtain ⟨t',h1,h2⟩:=u_Unmap h hin hf
   refine ⟨t',h1,AG4.mk (D9 E9 b36 rfl ?_) I4 A8⟩
   unfold c36
   unfold bkN rdN
   have hdc:=Al6 (a:=(v.2.2.1:Nat)) (n:=1) hg.good
   rw [show (q.s.chg ((v.2.2.1:Nat):Int) 1 2 1 3).2=AG5 q.s [v.2.2.1] from rfl] at hdc
   dsimp only
   by_cases hc:cntF (Ak7 q.L x.toNat k.toNat) v.2.2.1=0
   ·rw [if_pos hc]
    rw [hc] at h2
    generalize v.2.2.1=f at *
    generalize Ak7 q.L x.toNat k.toNat=L1 at *
    have hz:AG5 q.s (if 0=0 then [] else [f])=q.s:=rfl
    (refine wx_Je ?_;repeat' (first|with_reducible refine And.intro ?_ ?_|intro hsp))
    (refine F6 [0,6,7] (fun (i:Nat)=>[(8,.int .i64 (i:Nat))]) (fun (i:Nat)=>⟨bkN ⟨q.a,q.n,L1,AG5 q.s (if i=0 then [] else [f])⟩ t' 0 1 2 3 4 5 6 7++[(8,.cells [.int .i64 (f:Nat)])],9⟩) (fun (i:Nat)=>i≤1) (fun (i:Nat)=>1 - i) (0) [] rfl (fun _=>by first|exact Nat.zero_le _|(dsimp only;omega)) ?_ (by ((try (conv=>whnf));(rw [hz]);exact F9)) ?_)
    ·exact Nat.zero_le _
    intro i hi1
    rcases (show i=0∨i=1 by omega) with rfl|rfl
    ·unfold bkN rdN
     dsimp only
     rw [hz]
     have hz1:AG5 q.s (if 1=0 then [] else [f])=AG5 q.s [f]:=rfl
     (refine wx_Je ?_;repeat' (first|with_reducible refine And.intro ?_ ?_|intro hsp))
     all_goals exact F3 (1) [] (by (try dsimp only);omega) (by first|omega|(dsimp only;omega)) rfl (by ((try dsimp only);rw [hz1]);exact F9)
    ·unfold bkN rdN
     dsimp only
     rw [show AG5 q.s (if 1=0 then [] else [f])=AG5 q.s [f] from rfl]
     (refine wx_Je ?_;repeat' (first|with_reducible refine And.intro ?_ ?_|intro hsp))
     all_goals first|exact O4 (q:=⟨q.a,q.n,L1,AG5 q.s [f]⟩) rfl A8 rfl rfl rfl rfl rfl rfl rfl rfl|(exfalso;omega)
   ·rw [if_neg hc]
    generalize cntF (Ak7 q.L x.toNat k.toNat) v.2.2.1=n at *
    (refine wx_Je ?_;repeat' (first|with_reducible refine And.intro ?_ ?_|intro hsp))
    all_goals first|exact O4 (q:=⟨q.a,q.n,Ak7 q.L x.toNat k.toNat,q.s⟩) rfl A8 rfl rfl rfl rfl rfl rfl rfl rfl|(exfalso;omega)
 ·rw [if_pos hin]
  have hfi:=BS6 (t:=t) x k hin
  refine ⟨t,h,AG4.mk (D9 E9 b36 rfl ?_) I4 A8⟩
  unfold c36
  unfold bkN rdN
  (refine wx_Je ?_;repeat' (first|with_reducible refine And.intro ?_ ?_|intro hsp))
  all_goals first|exact O4 rfl A8 rfl rfl rfl rfl rfl rfl rfl rfl|(exfalso;omega)
theorem b_Take (h:TOk q.L t) (x y:Int):∃ t',TOk (q.take x y).2.2.L t'∧AG4 30 0 [.int .i64 x,.int .i64 y] q t (.tup [.int .i64 (q.take x y).1,.int .i64 (q.take x y).2.1]) (q.take x y).2.2 t':=by
 have hi:=b_is (q:=q) (t:=t)
 obtain ⟨t',h1,h2⟩:=u_Fork h x y
 have ha:(q.take x y).2.2.a=q.a∧(q.take x y).2.2.n=q.n∧(q.take x y).2.2.s=q.s:=by unfold Bk.take;(repeat' split)<;>exact ⟨rfl,rfl,rfl⟩
 refine ⟨t',h1,AG4.mk (D9 E9 b30 rfl ?_) I4 R4⟩
 unfold c30
 unfold bkN rdN
 rw [ha.1,ha.2.1,ha.2.2]
 generalize q.take x y=r at *
 obtain ⟨n,e,ra,rn,rL,rs⟩:=r
 dsimp only at *
 obtain ⟨rfl,rfl,rfl⟩:=ha
 (refine wx_Je ?_;repeat' (first|with_reducible refine And.intro ?_ ?_|intro hsp))
 all_goals exact O4 (q:=⟨q.a,q.n,rL,q.s⟩) rfl R4 rfl rfl rfl rfl rfl rfl rfl rfl
theorem b_Drop (hg:H6 q) (h:TOk q.L t) (x:Int):∃ t',TOk (q.drop x).2.2.L t'∧AG4 31 0 [.int .i64 x] q t (.tup [.int .i64 (q.drop x).1,.int .i64 (q.drop x).2.1]) (q.drop x).2.2 t':=by
 have hi:=b_is (q:=q) (t:=t)
 unfold Bk.drop
 by_cases hin:inR 64 x
 ·rw [if_neg (by rw [Classical.not_not];exact hin)]
  obtain ⟨x',rfl,hx⟩:=AF8 hin
  rw [Int.toNat_natCast]
  obtain ⟨t',h1,h2⟩:=t_Drop h (a:=x') (by omega)
  refine ⟨t',h1,AG4.mk (D9 E9 b31 rfl ?_) AO8 R4⟩
  unfold c31
  unfold bkN rdN
  have hgv:=b_give (q:=⟨q.a,q.n,noA x' q.L,q.s⟩) (t:=t') hg.good (G:=AC3 q.L x') BI4
  have hle:=BI4 (L:=q.L) (a:=x')
  generalize AC3 q.L x'=G at *
  dsimp only at hgv ⊢
  (refine wx_Je ?_;repeat' (first|with_reducible refine And.intro ?_ ?_|intro hsp))
  all_goals exact O4 (q:=⟨q.a,q.n,noA x' q.L,AG5 q.s G⟩) (by simp) R4 rfl rfl rfl rfl rfl rfl rfl rfl
 ·rw [if_pos hin]
  have hd:=t_Drop_no (t:=t) x hin
  have hgv:=BX0 (q:=q) (t:=t)
  refine ⟨t,h,AG4.mk (D9 E9 b31 rfl ?_) AO8 R4⟩
  unfold c31
  unfold bkN rdN
  (refine wx_Je ?_;repeat' (first|with_reducible refine And.intro ?_ ?_|intro hsp))
  all_goals exact O4 rfl R4 rfl rfl rfl rfl rfl rfl rfl rfl
theorem BR1 (h:TOk q.L t) (x a:Int):AG4 16 0 [.int .i64 x,.int .i64 a] q t (.tup [.int .u8 (q.read x a).1,.int .i64 (q.read x a).2]) q t:=by
 have hi:=b_is (q:=q) (t:=t)
 have h1:=u_Read h x a
 refine AG4.mk (D9 E9 b16 rfl ?_) I4 o7
 unfold c16
 unfold bkN rdN
 generalize q.read x a=r at *
 (refine wx_Jen ?_;repeat' (first|with_reducible refine And.intro ?_ ?_|intro hsp))
 all_goals exact O4 rfl o7 rfl rfl rfl rfl rfl rfl rfl rfl
theorem plain_sna {a n:Int} {L:List Vw}:Plain (.agg [.int .i64 a,.int .i64 n,.isl (L.map vwC)]):=K8 fun x hx=>by
 simp only [List.mem_cons,List.not_mem_nil,or_false] at hx
 rcases hx with rfl|rfl|rfl<;>first|exact A8|exact Y1
end
end Go.Proofs.YtphggldkligldaaGreat.Sh
namespace Go.Pol
open Go.Am
def rvN (L:List Vw) (x y i:Nat):Int:=(i:Int)+((ofA y (L.take i)).length:Nat) - ((ofA x (L.take i)).length:Nat)
theorem rvN_0 {L:List Vw} {x y:Nat}:rvN L x y 0=0:=rfl
theorem rvN_s {L:List Vw} {x y i:Nat} (hi:i < L.length):rvN L x y (i+1)=rvN L x y i+1+(if (nth dV L i).1=y then 1 else 0) - (if (nth dV L i).1=x then 1 else 0):=by
 have h:∀ a,(ofA a (L.take (i+1))).length=(ofA a (L.take i)).length+if (nth dV L i).1=a then 1 else 0:=fun a=>by
  rw [y9 (d:=dV) hi];unfold ofA
  rw [List.filter_append,List.length_append]
  by_cases e:(nth dV L i).1=a<;>simp [e]
 unfold rvN
 rw [h,h]
 split<;>split<;>omega
theorem rvN_le {L:List Vw} {x y i:Nat} (hi:i≤L.length):0≤rvN L x y i∧rvN L x y i≤2 * i:=by
 have h:∀ a,(ofA a (L.take i)).length≤i:=fun a=>Nat.le_trans (List.length_filter_le ..) (by rw [List.length_take];omega)
 have h1:=h x
 have h2:=h y
 unfold rvN;omega
theorem rvN_all {L:List Vw} {x y:Nat}:rvN L x y L.length=(L.length:Int)+((ofA y L).length:Nat) - ((ofA x L).length:Nat):=by unfold rvN;rw [List.take_length]
theorem put_a {q:Bk} {x t v:Int}:(q.put x t v).2.a=q.a∧(q.put x t v).2.n=q.n∧(q.put x t v).2.L=q.L:=by unfold Bk.put;split<;>exact ⟨rfl,rfl,rfl⟩
end Go.Pol
namespace Go.Proofs.YtphggldkligldaaGreat.Sh
open Go Go.Am Go.Pol
open Go.Proofs.YtphggldkligldaaGreat.Sh renaming plx_Je → plx
open Go.Proofs.YtphggldkligldaaGreat.Sh renaming ppx_Jc → ppx
theorem wx_Jf {p q:Prop} (hq:q) (h:X5 q→p:=by (intro hQz;((repeat' ((try (conv=>whnf));first|refine sxA ?_|refine AI0 (d:=dV) Av1 (by first|assumption|omega) (by with_reducible assumption) ?_|refine AC7 (by with_reducible assumption) ?_|refine sxF ?_|refine AI2 hi rfl rfl rfl rfl rfl rfl rfl rfl (by decide) rfl ?_|refine O5 (by assumption) ?_|refine Z0 (by assumption) rfl rfl rfl rfl rfl (by decide) rfl ?_|refine Z0 h2 rfl rfl rfl rfl rfl (by decide) rfl ?_|refine Z0 h5 rfl rfl rfl rfl rfl (by decide) rfl ?_|refine BJ6 (o:=0) hgv rfl rfl rfl rfl rfl rfl rfl rfl (by decide) rfl ?_|refine sxH ?_|((with_reducible first|apply N9 hQz|apply O1 hQz)<;>(try intro hsp hQz))|exact hQz.out))<;>(try (conv=>whnf))))):p:=h ⟨hq⟩
theorem wx_Jfn {p q:Prop} (hq:q) (h:X5 q→p:=by (intro hQz;((repeat' ((try (conv=>whnf));first|refine sxA ?_|refine cx_tx (by assumption) rfl rfl rfl rfl rfl rfl (by decide) rfl ?_|refine AC7 (by with_reducible assumption) ?_|refine sxN ?_|refine AI2 hi rfl rfl rfl rfl rfl rfl rfl rfl (by decide) rfl ?_|refine O5 (by assumption) ?_|refine Z0 (by assumption) rfl rfl rfl rfl rfl (by decide) rfl ?_|refine BJ5 (by assumption) rfl rfl rfl rfl rfl rfl rfl ?_|refine Z0 hfi rfl rfl rfl rfl rfl (by decide) rfl ?_|refine Z0 h2 rfl rfl rfl rfl rfl (by decide) rfl ?_|refine BJ5 hcn rfl rfl rfl rfl rfl rfl rfl ?_|refine BJ6 (o:=0) hby rfl rfl rfl rfl rfl rfl rfl rfl (by decide) rfl ?_|refine BJ6 (o:=0) htk rfl rfl rfl rfl rfl rfl rfl rfl (by decide) rfl ?_|refine sxH ?_|((with_reducible first|apply N9 hQz|apply O1 hQz)<;>(try intro hsp hQz))|exact hQz.out))<;>(try (conv=>whnf))))):p:=h ⟨hq⟩
section
variable {q:Bk} {t:TS}
theorem b_Revert (hg:H6 q) (h:TOk q.L t) (x y:Int):∃ t',TOk (q.revert x y).2.2.L t'∧AG4 32 0 [.int .i64 x,.int .i64 y] q t (.tup [.int .i64 (q.revert x y).1,.int .i64 (q.revert x y).2.1]) (q.revert x y).2.2 t':=by
 have hi:=b_is (q:=q) (t:=t)
 have hsv:=t_Save h
 have hs1:=AZ5 x
 have hs2:=AZ5 y
 have hlen:=hg.len
 unfold Bk.revert
 by_cases hin:inR 64 x∧inR 64 y
 ·rw [if_neg (by rw [Classical.not_not];exact hin)]
  rw [decide_eq_true hin.1] at hs1
  rw [decide_eq_true hin.2] at hs2
  obtain ⟨x',rfl,hx⟩:=AF8 hin.1
  obtain ⟨y',rfl,hy⟩:=AF8 hin.2
  rw [Int.toNat_natCast,Int.toNat_natCast]
  by_cases hxy:x'=y'
  ·rw [if_pos (by omega)]
   refine ⟨t,h,AG4.mk (D9 E9 b32 rfl ?_) I4 R4⟩
   unfold c32
   unfold bkN rdN
   (refine wx_Jf ?_;repeat' (first|with_reducible refine And.intro ?_ ?_|intro hsp))
   all_goals first|exact O4 rfl R4 rfl rfl rfl rfl rfl rfl rfl rfl|(exfalso;omega)
  ·rw [if_neg (by omega)]
   have hxl:(ofA x' q.L).length≤q.L.length:=List.length_filter_le ..
   by_cases hf:2000 < q.L.length+(ofA y' q.L).length - (ofA x' q.L).length
   ·rw [if_pos hf]
    refine ⟨t,h,AG4.mk (D9 E9 b32 rfl ?_) I4 R4⟩
    unfold c32
    unfold bkN rdN
    (refine wx_Jf ?_;repeat' (first|with_reducible refine And.intro ?_ ?_|intro hsp))
    (refine F6 [0,1,2,8,39,40] (fun (i:Nat)=>[(9,.int .i64 (rvN q.L x' y' i)),(41,.int .i64 (i:Nat))]) (fun (i:Nat)=>⟨bkN q t 0 1 2 3 4 5 6 7,8⟩) (fun (i:Nat)=>i≤q.L.length) (fun (i:Nat)=>q.L.length - i) (0) [] rfl (fun _=>by first|exact Nat.zero_le _|(dsimp only;omega)) ?_ (by ((try (conv=>whnf));(rw [rvN_0]);exact F9)) ?_)
    ·exact Nat.zero_le _
    intro i hil
    by_cases hik:i < q.L.length
    ·have hst:=rvN_s (x:=x') (y:=y') hik
     have hle:=rvN_le (L:=q.L) (x:=x') (y:=y') hil
     generalize hx':nth dV q.L i=v at *
     generalize rvN q.L x' y' i=m at *
     unfold bkN rdN
     (refine wx_Jf ?_;repeat' (first|with_reducible refine And.intro ?_ ?_|intro hsp))
     all_goals exact F3 (i+1) [] (by (try dsimp only);omega) (by first|omega|(dsimp only;omega)) rfl (by exact F9)
    ·obtain rfl:i=q.L.length:=by omega
     have hal:=rvN_all (L:=q.L) (x:=x') (y:=y')
     generalize rvN q.L x' y' q.L.length=m at *
     unfold bkN rdN
     (refine wx_Jf ?_;repeat' (first|with_reducible refine And.intro ?_ ?_|intro hsp))
     all_goals first|exact O4 rfl R4 rfl rfl rfl rfl rfl rfl rfl rfl|(exfalso;omega)
   ·rw [if_neg hf]
    obtain ⟨t1,h1,h2⟩:=t_Drop h (a:=x') (by omega)
    have hno:ofA y' (noA x' q.L)=ofA y' q.L:=ofA_noA (Ne.symm hxy)
    have hnl:=noA_len (L:=q.L) (a:=x')
    obtain ⟨t2,M,h3,h4,h5⟩:=t_Fork h1 (a:=y') (b:=x') (Ne.symm hxy) (by omega) (by omega) Ad3 (by rw [hno];omega)
    have e:=BA3 h1.srt h3.srt Ad3 h4
    rw [show BN0 x' ((noA x' q.L).map (wnV y')) (ofA y' (noA x' q.L))=BV9 y' x' (noA x' q.L) from rfl] at e
    rw [e] at h3
    rw [hno] at h5
    have hgv:=b_give (q:=⟨q.a,q.n,BV9 y' x' (noA x' q.L),q.s⟩) (t:=t2) hg.good (G:=AC3 q.L x') BI4
    dsimp only at hgv ⊢
    refine ⟨t2,h3,AG4.mk (D9 E9 b32 rfl ?_) I4 R4⟩
    unfold c32
    unfold bkN rdN
    (refine wx_Jf ?_;repeat' (first|with_reducible refine And.intro ?_ ?_|intro hsp))
    (refine F6 [0,1,2,8,39,40] (fun (i:Nat)=>[(9,.int .i64 (rvN q.L x' y' i)),(41,.int .i64 (i:Nat))]) (fun (i:Nat)=>⟨bkN q t 0 1 2 3 4 5 6 7,8⟩) (fun (i:Nat)=>i≤q.L.length) (fun (i:Nat)=>q.L.length - i) (0) [] rfl (fun _=>by first|exact Nat.zero_le _|(dsimp only;omega)) ?_ (by ((try (conv=>whnf));(rw [rvN_0]);exact F9)) ?_)
    ·exact Nat.zero_le _
    intro i hil
    by_cases hik:i < q.L.length
    ·have hst:=rvN_s (x:=x') (y:=y') hik
     have hle:=rvN_le (L:=q.L) (x:=x') (y:=y') hil
     generalize hx':nth dV q.L i=v at *
     generalize rvN q.L x' y' i=m at *
     unfold bkN rdN
     (refine wx_Jf ?_;repeat' (first|with_reducible refine And.intro ?_ ?_|intro hsp))
     all_goals exact F3 (i+1) [] (by (try dsimp only);omega) (by first|omega|(dsimp only;omega)) rfl (by exact F9)
    ·obtain rfl:i=q.L.length:=by omega
     have hal:=rvN_all (L:=q.L) (x:=x') (y:=y')
     generalize rvN q.L x' y' q.L.length=m at *
     generalize AC3 q.L x'=G at *
     unfold bkN rdN
     (refine wx_Jf ?_;repeat' (first|with_reducible refine And.intro ?_ ?_|intro hsp))
     all_goals first|exact O4 (q:=⟨q.a,q.n,BV9 y' x' (noA x' q.L),AG5 q.s G⟩) rfl R4 rfl rfl rfl rfl rfl rfl rfl rfl|(exfalso;omega)
 ·rw [if_pos hin]
  refine ⟨t,h,AG4.mk (D9 E9 b32 rfl ?_) I4 R4⟩
  unfold c32
  unfold bkN rdN
  (refine wx_Jf ?_;repeat' (first|with_reducible refine And.intro ?_ ?_|intro hsp))
  all_goals first|exact O4 rfl R4 rfl rfl rfl rfl rfl rfl rfl rfl|(exfalso;simp_all;done)
theorem Aj2 (hg:H6 q) (h:TOk q.L t) (x a v:Int):∃ t',TOk (q.write x a v).2.L t'∧AG4 37 0 [.int .i64 x,.int .i64 a,.int .u8 v] q t (.int .i64 (q.write x a v).1) (q.write x a v).2 t':=by
 have hi:=b_is (q:=q) (t:=t)
 have hsp:=AZ5 x
 unfold Bk.write
 by_cases hin:inR 64 x∧inR 65536 a
 ·rw [if_neg (by rw [Classical.not_not];exact hin)]
  rw [decide_eq_true hin.1] at hsp
  obtain ⟨a',rfl,ha⟩:=AF8 hin.2
  have hq:=q64 (t:=a') (by omega)
  rw [Int.toNat_natCast]
  have hk:inR 1024 ((a' / 64:Nat):Int):=⟨by omega,by omega⟩
  have hfn:∀ r,Q6 q.L x.toNat (a' / 64)=r→Q6 q.L x.toNat ((a' / 64:Nat):Int).toNat=r:=fun r hr=>by rw [Int.toNat_natCast];exact hr
  cases hf:Q6 q.L x.toNat (a' / 64) with
  | none =>
   have hfi:=AB3 h ⟨hin.1,hk⟩ (hfn _ hf)
   refine ⟨t,h,AG4.mk (D9 E9 b37 rfl ?_) (by simp [A8]) A8⟩
   unfold c37
   unfold bkN rdN
   generalize ((a' / 64:Nat):Int)=kk at *
   (refine wx_Jf ?_;repeat' (first|with_reducible refine And.intro ?_ ?_|intro hsp))
   all_goals first|exact O4 rfl A8 rfl rfl rfl rfl rfl rfl rfl rfl|(exfalso;omega)
  | some u =>
   have hfi:=Al0 h ⟨hin.1,hk⟩ (hfn _ hf)
   have huv:=hg.view (J2 hf).1
   have hu4:u.2.2.1 < 1024:=by have:=hg.rng.2;omega
   have hcn:=BE1 h hu4
   dsimp only
   by_cases hw:u.2.2.2=true
   ·rw [if_pos hw]
    rw [hw] at hfi
    have hwr:=BE0 h x (a':Nat) v
    have hpa:=put_a (q:=q) (x:=x) (t:=(a':Nat)) (v:=v)
    refine ⟨t,by rw [hpa.2.2];exact h,AG4.mk (D9 E9 b37 rfl ?_) (by simp [A8]) A8⟩
    unfold c37
    unfold bkN rdN
    generalize ((a' / 64:Nat):Int)=kk at *
    generalize cntF q.L u.2.2.1=n at *
    rw [hpa.1,hpa.2.1]
    generalize q.put x (a':Nat) v=r at *
    obtain ⟨e,ra,rn,rL,rs⟩:=r
    dsimp only at *
    (refine wx_Jfn ?_;repeat' (first|with_reducible refine And.intro ?_ ?_|intro hsp))
    all_goals first|exact O4 (q:=⟨q.a,q.n,q.L,rs⟩) rfl A8 rfl rfl rfl rfl rfl rfl rfl rfl|(exfalso;omega)
   ·rw [if_neg hw]
    have hw:u.2.2.2=false:=by cases hb:u.2.2.2<;>simp_all
    rw [hw] at hfi
    by_cases hc:cntF q.L u.2.2.1=1
    ·rw [if_pos hc]
     rw [hc] at hcn
     obtain ⟨t1,h1,h2⟩:=u_Protect h ⟨hin.1,hk⟩ (hfn _ hf) true
     rw [Int.toNat_natCast] at h1
     have hwr:=BE0 (q:=⟨q.a,q.n,AQ7 (prV true) x.toNat (a' / 64) q.L,q.s⟩) h1 x (a':Nat) v
     have hpa:=put_a (q:=⟨q.a,q.n,AQ7 (prV true) x.toNat (a' / 64) q.L,q.s⟩) (x:=x) (t:=(a':Nat)) (v:=v)
     refine ⟨t1,by rw [hpa.2.2];exact h1,AG4.mk (D9 E9 b37 rfl ?_) (by simp [A8]) A8⟩
     unfold c37
     unfold bkN rdN
     rw [hpa.1,hpa.2.1]
     generalize AQ7 (prV true) x.toNat (a' / 64) q.L=L1 at *
     generalize ((a' / 64:Nat):Int)=kk at *
     dsimp only at hwr ⊢
     generalize Bk.put ⟨q.a,q.n,L1,q.s⟩ x (a':Nat) v=r at *
     obtain ⟨e,ra,rn,rL,rs⟩:=r
     dsimp only at *
     (refine wx_Jfn ?_;repeat' (first|with_reducible refine And.intro ?_ ?_|intro hsp))
     all_goals first|exact O4 (q:=⟨q.a,q.n,L1,rs⟩) rfl A8 rfl rfl rfl rfl rfl rfl rfl rfl|(exfalso;omega)
    ·rw [if_neg hc]
     have hby:=BK2 (q:=q) (t:=t) hu4 huv.2.2
     have htk:=b_take hg h (q.s.B u.2.2.1)
     have tk:=hg.tk (q.s.B u.2.2.1)
     generalize hr:tkP q.a q.n q.L q.s (q.s.B u.2.2.1)=r at *
     generalize cntF q.L u.2.2.1=n at *
     obtain ⟨e,f,s1⟩:=r
     dsimp only at *
     by_cases he:e=0
     ·rw [if_pos he]
      subst he
      have hgot:=tk.got rfl
      dsimp only at hgot
      obtain ⟨t1,h1,h2⟩:=u_Split h ⟨hin.1,hk⟩ (hfn _ hf) (f:=f) (by have:=hgot.2.1;have:=hg.rng.2;omega) hgot.2.2.1
      rw [Int.toNat_natCast] at h1
      have hwr:=BE0 (q:=⟨q.a,q.n,AQ7 (frV f) x.toNat (a' / 64) q.L,s1⟩) h1 x (a':Nat) v
      have hpa:=put_a (q:=⟨q.a,q.n,AQ7 (frV f) x.toNat (a' / 64) q.L,s1⟩) (x:=x) (t:=(a':Nat)) (v:=v)
      refine ⟨t1,by rw [hpa.2.2];exact h1,AG4.mk (D9 E9 b37 rfl ?_) (by simp [A8]) A8⟩
      unfold c37
      unfold bkN rdN
      rw [hpa.1,hpa.2.1]
      generalize AQ7 (frV f) x.toNat (a' / 64) q.L=L1 at *
      generalize ((a' / 64:Nat):Int)=kk at *
      dsimp only at hwr ⊢
      generalize Bk.put ⟨q.a,q.n,L1,s1⟩ x (a':Nat) v=r at *
      obtain ⟨e,ra,rn,rL,rs⟩:=r
      dsimp only at *
      (refine wx_Jfn ?_;repeat' (first|with_reducible refine And.intro ?_ ?_|intro hsp))
      all_goals first|exact O4 (q:=⟨q.a,q.n,L1,rs⟩) rfl A8 rfl rfl rfl rfl rfl rfl rfl rfl|(exfalso;omega)
     ·rw [if_neg he]
      refine ⟨t,h,AG4.mk (D9 E9 b37 rfl ?_) (by simp [A8]) A8⟩
      unfold c37
      unfold bkN rdN
      generalize ((a' / 64:Nat):Int)=kk at *
      (refine wx_Jfn ?_;repeat' (first|with_reducible refine And.intro ?_ ?_|intro hsp))
      all_goals first|exact O4 (q:=⟨q.a,q.n,q.L,s1⟩) rfl A8 rfl rfl rfl rfl rfl rfl rfl rfl|(exfalso;omega)
 ·rw [if_pos hin]
  refine ⟨t,h,AG4.mk (D9 E9 b37 rfl ?_) (by simp [A8]) A8⟩
  unfold c37
  unfold bkN rdN
  unfold inR at hin
  by_cases hx1:inR 64 x
  ·rw [decide_eq_true hx1] at hsp
   (refine wx_Jf ?_;repeat' (first|with_reducible refine And.intro ?_ ?_|intro hsp))
   all_goals first|exact O4 rfl A8 rfl rfl rfl rfl rfl rfl rfl rfl|(exfalso;exact hin ⟨hx1,by omega,by omega⟩)
  ·rw [decide_eq_false hx1] at hsp
   (refine wx_Jf ?_;repeat' (first|with_reducible refine And.intro ?_ ?_|intro hsp))
   all_goals first|exact O4 rfl A8 rfl rfl rfl rfl rfl rfl rfl rfl|(exfalso;omega)
end
end Go.Proofs.YtphggldkligldaaGreat.Sh
