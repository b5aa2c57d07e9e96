/-
 A store of pages in frames and slots,plain: what pages have.
 A store of pages in frames and slots,plain: reads,writes,pages put out or freed.
 A store of pages in frames and slots,plain: Out,Free;any call;bytes (SwapBytes,SwapKeeps).
 A store of pages in frames and slots,plain: with more frames no more pages are brought in (SwapFewer).
 A store of pages in frames and slots,plain: two stores (SwapFewer).
 A store of pages in frames and slots,plain: victims (SwapVictims);counts (SwapFits).
 A store of pages in frames and slots,plain: all pages are freed (SwapFits' end);a new store.
 A store of pages in frames and slots,plain: pages outside of it;a new one;slots that are held.
 A store: its memory,and contracts over it.
 Several slices of their own that grow: they stand one behind the other at the heap's end. No program in sight.
 A call that makes one block,in a region that draws its order;a call that reads alone. No program in sight.
 The runs of the program: its iterator,collected.
 Pages' bytes as wholes: compared,written,read.
 A store's inner calls: is,stated,numbers,the bytes of a frame.
-/
import Derived.Test.YtbhgfoikbkaohaaQam
set_option linter.unusedSimpArgs false
set_option linter.unusedVariables false
set_option maxHeartbeats 800000
namespace Go.Pol
open Go.Am Go.Proofs.Ytbhgfoikbkaohaa.Sh
section
variable {w:Sw}
def Sw.hs (w:Sw) (p j:Nat):Int:=if 0≤w.F p then w.s.B (w.F p).toNat j else if 0≤w.T p then w.D (w.T p).toNat j else 0
theorem BB3 {s:Sy} {f g j:Nat} {x:Nat→Int}:(s.page f x).B g j=if g=f then (if j < 64 then x j else 0) else s.B g j:=by
 show AB9 s.B f _ g j=_
 unfold AB9
 split<;>rfl
theorem got_hs {p j:Nat} (hn:¬ 0≤w.F p):w.got p j=w.hs p j:=by
 unfold Sw.got Sw.hs
 rw [if_neg hn]
 split<;>rfl
structure TouY (w:Sw) (p:Nat) (now:Int) (q:Int × Sw):Prop where
 e:q.1=0
 fr:0≤q.2.F p
 st:q.2.Z p=now
 hs:∀ r j,j < 64→q.2.hs r j=w.hs r j
 is:∀ r,r ≠ p→(q.2.is r ↔ w.is r)
 z:∀ r,r ≠ p→q.2.Z r=w.Z r
 sz:q.2.pg=w.pg
structure TouN (w:Sw) (q:Int × Sw):Prop where
 e:q.1 ≠ 0
 same:∃ s',q.2={ w with s:=s' }∧s'.K=w.s.K∧s'.M=w.s.M∧s'.B=w.s.B∧s'.G=w.s.G
theorem j5 (h:E9 w) {p:Nat} (now:Int):TouY w p now (w.touch p now)∨TouN w (w.touch p now):=by
 have hsp:=AQ3 (w:=w) p now
 generalize w.touch p now=q at hsp
 cases hsp with
 | here h0=>exact .inl ⟨rfl,h0,C8,fun _ _ _=>rfl,fun _ _=>Iff.rfl,fun r hr=>upd_ne hr,rfl⟩
 | no f s' e hn hf hk hc he =>
  obtain ⟨f1,f2,_⟩:=X8 hf
  have hr:=h.rng
  rw [Ab2 (by omega) hk (h.kind f f1 f2).2] at hc
  split at hc
  ·cases hc;exact .inr ⟨he,_,rfl,rfl,rfl,rfl,rfl⟩
  ·cases hc;exact absurd rfl he
 | new f s' hn hf hs =>
  obtain ⟨f1,f2,f3⟩:=X8 hf
  have hB:∀ g,g ≠ f→s'.B g=w.s.B g:=fun g hg=>by
   rcases hs with ⟨_,rfl⟩ | ⟨h1,h2⟩
   ·rfl
   ·obtain ⟨_,_,c3⟩:=comW h ⟨f1,f2⟩ h1 h2
    rw [c3,if_pos rfl];exact if_neg hg
  refine .inl ⟨rfl,?_,C8,fun r j hj=>?_,fun r hr=>?_,fun r hr=>upd_ne hr,rfl⟩
  ·show 0≤D8 w.F p (f:Nat) p
   rw [C8];omega
  ·show (if 0≤D8 w.F p (f:Nat) r then (s'.page f (w.got p)).B (D8 w.F p (f:Nat) r).toNat j else if 0≤D8 w.T p (-1) r then w.D (D8 w.T p (-1) r).toNat j else 0)=_
   by_cases e:r=p
   ·subst e
    rw [C8,if_pos (by omega),BB3,if_pos (by omega),if_pos hj,got_hs hn]
   ·rw [upd_ne e,upd_ne e]
    unfold Sw.hs
    by_cases h0:0≤w.F r
    ·have hne:(w.F r).toNat ≠ f:=fun e2=>f3 ⟨r,l8 h h0,by omega⟩
     rw [if_pos h0,if_pos h0,BB3,if_neg hne,hB _ hne]
    ·rw [if_neg h0,if_neg h0]
  ·show (0≤D8 w.F p (f:Nat) r∨0≤D8 w.T p (-1) r) ↔ _
   rw [upd_ne hr,upd_ne hr];exact Iff.rfl
 | full hn hf hs=>exact .inr ⟨(show (5:Int) ≠ 0 by decide),w.s,rfl,rfl,rfl,rfl,rfl⟩
 | swp k v hn hf hk hv =>
  obtain ⟨v1,v2,v3⟩:=(AA9 (w:=w) w.pg).1 v hv
  obtain ⟨k1,k2⟩:=AC1 hk
  have hne:v ≠ p:=fun e=>hn (e▸v2)
  refine .inl ⟨rfl,?_,C8,fun r j hj=>?_,fun r hr=>?_,fun r hr=>upd_ne hr,rfl⟩
  ·show 0≤D8 (D8 w.F v (-1)) p ((w.F v).toNat:Nat) p
   rw [C8];omega
  ·show (if 0≤D8 (D8 w.F v (-1)) p ((w.F v).toNat:Nat) r then (w.s.page (w.F v).toNat (w.got p)).B (D8 (D8 w.F v (-1)) p ((w.F v).toNat:Nat) r).toNat j else if 0≤D8 (D8 w.T v (k:Nat)) p (-1) r then AB9 w.D k (w.s.B (w.F v).toNat) (D8 (D8 w.T v (k:Nat)) p (-1) r).toNat j else 0)=_
   by_cases e:r=p
   ·subst e
    rw [C8,if_pos (by omega),BB3,if_pos (by omega),if_pos hj,got_hs hn]
   ·rw [upd_ne e,upd_ne e]
    by_cases e2:r=v
    ·subst e2
     rw [C8,C8,if_neg (by decide),if_pos (by omega),show ((k:Nat):Int).toNat=k from rfl]
     unfold AB9 Sw.hs
     rw [if_pos rfl,if_pos v2]
    ·rw [upd_ne e2,upd_ne e2]
     unfold Sw.hs
     by_cases h0:0≤w.F r
     ·have hne2:(w.F r).toNat ≠ (w.F v).toNat:=fun e3=>e2 (h.oneF r v h0 (by omega))
      rw [if_pos h0,if_pos h0,BB3,if_neg hne2]
     ·rw [if_neg h0,if_neg h0]
      by_cases h1:0≤w.T r
      ·have hne3:(w.T r).toNat ≠ k:=fun e3=>by
        rcases k2 with k2|k2
        ·exact e (h.oneT r p h1 (by omega))
        ·exact k2 ⟨r,AI8 h h1,by omega⟩
       rw [if_pos h1,if_pos h1]
       unfold AB9
       rw [if_neg hne3]
      ·rw [if_neg h1,if_neg h1]
  ·show (0≤D8 (D8 w.F v (-1)) p ((w.F v).toNat:Nat) r∨0≤D8 (D8 w.T v (k:Nat)) p (-1) r) ↔ (0≤w.F r∨0≤w.T r)
   rw [upd_ne hr,upd_ne hr]
   by_cases e2:r=v
   ·subst e2;rw [C8,C8];omega
   ·rw [upd_ne e2,upd_ne e2]
end
end Go.Pol
namespace Go.Pol
open Go.Am Go.Proofs.Ytbhgfoikbkaohaa.Sh
section
variable {w:Sw}
theorem U0 (h:E9 w) {p:Nat} (h0:0≤w.F p):∃ f:Nat,w.F p=(f:Nat)∧w.a≤f∧f < w.a+w.n∧w.s.K f=2:=by
 rcases h.fr p with h1 | ⟨_,h2⟩
 ·omega
 ·exact h2
theorem good_B (h:E9 w) {s':Sy} (hg:GoodS s') (hK:s'.K=w.s.K) (hM:s'.M=w.s.M):E9 { w with s:=s' }:=by
 refine ⟨hg,h.rng,fun f h1 h2=>?_,h.far,fun p=>?_,h.sl,h.oneF,h.oneT,h.st,h.cnt⟩
 ·show (s'.K f=1∨s'.K f=2)∧s'.M f=false
  rw [hK,hM];exact h.kind f h1 h2
 ·show w.F p = -1∨(w.T p = -1∧∃ f:Nat,w.F p=(f:Nat)∧w.a≤f∧f < w.a+w.n∧s'.K f=2)
  rw [hK];exact h.fr p
theorem Ak7 (h:E9 w) {t v:Int} (ht:0≤t) (h0:0≤w.F (t.toNat / 64)):(w.byte t v).1=0∧E9 (w.byte t v).2∧(∀ p j,j < 64→(w.byte t v).2.hs p j=if p=t.toNat / 64∧j=t.toNat % 64 then v else w.hs p j)∧∃ s',(w.byte t v).2={ w with s:=s' }∧s'.K=w.s.K:=by
 obtain ⟨f,f1,f2,f3,f4⟩:=U0 h h0
 have hr:=h.rng
 have e1:w.F (t.toNat / 64) * 64+t % 64=((f * 64+t.toNat % 64:Nat):Int):=by rw [f1];omega
 have e:w.s.write (w.F (t.toNat / 64) * 64+t % 64) v=(0,{ w.s with B:=AB9 w.s.B f (D8 (w.s.B f) (t.toNat % 64) v) }):=by
  rw [e1]
  unfold Sy.write
  rw [if_neg (by omega),show ((f * 64+t.toNat % 64:Nat):Int).toNat / 64=f by omega,if_pos f4,show ((f * 64+t.toNat % 64:Nat):Int).toNat % 64=t.toNat % 64 by omega]
 have hg:=BI2 (a:=w.F (t.toNat / 64) * 64+t % 64) (b:=v) h.good
 rw [e] at hg
 unfold Sw.byte
 rw [e]
 refine ⟨rfl,good_B h hg rfl rfl,fun p j hj=>?_,_,rfl,rfl⟩
 show (if 0≤w.F p then AB9 w.s.B f (D8 (w.s.B f) (t.toNat % 64) v) (w.F p).toNat j else if 0≤w.T p then w.D (w.T p).toNat j else 0)=_
 unfold Sw.hs
 by_cases hp:p=t.toNat / 64
 ·subst hp
  rw [if_pos h0,if_pos h0,show (w.F (t.toNat / 64)).toNat=f by omega]
  unfold AB9 D8
  rw [if_pos rfl]
  by_cases hj2:j=t.toNat % 64
  ·rw [if_pos hj2,if_pos ⟨rfl,hj2⟩]
  ·rw [if_neg hj2,if_neg fun hc=>hj2 hc.2]
 ·rw [if_neg (show ¬ (p=t.toNat / 64∧j=t.toNat % 64) from fun hc=>hp hc.1)]
  by_cases hF:0≤w.F p
  ·rw [if_pos hF,if_pos hF]
   unfold AB9
   rw [if_neg fun e2=>hp (h.oneF p _ hF (by omega))]
  ·rw [if_neg hF,if_neg hF]
theorem BC0 (h:E9 w) {t:Int} (ht:0≤t) (h0:0≤w.F (t.toNat / 64)):w.s.read (w.F (t.toNat / 64) * 64+t % 64)=(w.hs (t.toNat / 64) (t.toNat % 64),0):=by
 obtain ⟨f,f1,f2,f3,f4⟩:=U0 h h0
 have hr:=h.rng
 have e1:w.F (t.toNat / 64) * 64+t % 64=((f * 64+t.toNat % 64:Nat):Int):=by rw [f1];omega
 rw [e1]
 unfold Sy.read Sw.hs
 rw [if_neg (by omega),show ((f * 64+t.toNat % 64:Nat):Int).toNat / 64=f by omega,if_pos f4,show ((f * 64+t.toNat % 64:Nat):Int).toNat % 64=t.toNat % 64 by omega,if_pos h0,show (w.F (t.toNat / 64)).toNat=f by omega]
theorem BJ7 (h:E9 w) {t now v:Int} (he:(w.write t now v).1=0):w.nums t now∧E9 (w.write t now v).2∧(∀ p j,j < 64→(w.write t now v).2.hs p j=if p=t.toNat / 64∧j=t.toNat % 64 then v else w.hs p j):=by
 unfold Sw.write at he ⊢
 split at he
 ·exact absurd he (by decide:¬ (7:Int)=0)
 rename_i hn
 have hn2:w.nums t now:=Classical.not_not.1 hn
 rw [if_neg hn]
 obtain ⟨n1,n2,n3,n4⟩:=hn2
 have hg:=X4 h (p:=t.toNat / 64) (now:=now) (by omega) ⟨n3,n4⟩
 rcases j5 h (p:=t.toNat / 64) now with hy|hno
 ·rw [if_pos hy.e]
  obtain ⟨b1,b2,b3,_⟩:=Ak7 (v:=v) hg n1 hy.fr
  refine ⟨⟨n1,n2,n3,n4⟩,b2,fun p j hj=>?_⟩
  rw [b3 p j hj,hy.hs p j hj]
 ·rw [if_neg hno.e] at he
  exact absurd he hno.e
theorem BC8 (h:E9 w) {f:Nat} (hf:w.a≤f∧f < w.a+w.n) (hh:¬ w.heldF f) (hk:w.s.K f=2):E9 (w.gone (f:Nat))∧(∀ p j,(w.gone (f:Nat)).hs p j=w.hs p j):=by
 have hr:=h.rng
 have hm:=(h.kind f hf.1 hf.2).2
 have hu:∀ g,w.heldF g→w.s.K g=2:=fun g hg=>by
  obtain ⟨p,_,hp⟩:=hg
  rcases h.fr p with h1 | ⟨_,g',h2,_,_,h3⟩
  ·omega
  ·rw [show g=g' by omega];exact h3
 unfold Sw.gone
 rw [Ab2 (by omega) hk hm]
 split
 ·exact ⟨AW5 h (Ai7 h.good) h.kind hu,fun _ _=>rfl⟩
 ·refine ⟨AW5 h (Ap6 h.good (by omega) (by decide) hk hm) (fun g h1 h2=>⟨?_,(h.kind g h1 h2).2⟩) fun g hg=>?_,fun p j=>?_⟩
  ·rw [AN1];split
   ·exact .inl rfl
   ·exact (h.kind g h1 h2).1
  ·rw [AN1,if_neg (show ¬ g=f from fun e=>hh (e▸hg))];exact hu g hg
  ·show (if 0≤w.F p then (w.s.turn f 1 3).B (w.F p).toNat j else if 0≤w.T p then w.D (w.T p).toNat j else 0)=w.hs p j
   unfold Sw.hs
   by_cases hF:0≤w.F p
   ·rw [if_pos hF,if_pos hF,BL7,if_neg fun e=>hh ⟨p,l8 h hF,by omega⟩]
   ·rw [if_neg hF,if_neg hF]
end
end Go.Pol
namespace Go.Pol
open Go.Am Go.Proofs.Ytbhgfoikbkaohaa.Sh
section
variable {w:Sw}
theorem put_hs (h:E9 w) {v k:Nat} (h0:0≤w.F v) (hh:¬ w.heldT k) (q j:Nat):(w.put v k).hs q j=w.hs q j:=by
 show (if 0≤D8 w.F v (-1) q then w.s.B (D8 w.F v (-1) q).toNat j else if 0≤D8 w.T v (k:Nat) q then AB9 w.D k (w.s.B (w.F v).toNat) (D8 w.T v (k:Nat) q).toNat j else 0)=_
 unfold Sw.hs
 by_cases e:q=v
 ·subst e
  rw [C8,C8,if_neg (by decide),if_pos (by omega),if_pos h0,show ((k:Nat):Int).toNat=k from rfl]
  unfold AB9
  rw [if_pos rfl]
 ·rw [upd_ne e,upd_ne e]
  by_cases hF:0≤w.F q
  ·rw [if_pos hF,if_pos hF]
  ·rw [if_neg hF,if_neg hF]
   by_cases hT:0≤w.T q
   ·have : (w.T q).toNat ≠ k:=fun e3=>hh ⟨q,AI8 h hT,by omega⟩
    rw [if_pos hT,if_pos hT]
    unfold AB9
    rw [if_neg this]
   ·rw [if_neg hT,if_neg hT]
theorem out_yes (h:E9 w) {p:Int} (he:(w.out p).1=0):E9 (w.out p).2∧∀ q j,(w.out p).2.hs q j=w.hs q j:=by
 unfold Sw.out at he ⊢
 split at he
 ·exact absurd he (by decide:¬ (7:Int)=0)
 rename_i c1;rw [if_neg c1]
 split at he
 ·exact absurd he (by decide:¬ (4:Int)=0)
 rename_i c2;rw [if_neg c2]
 cases hk:w.slot (-1) with
 | none=>rw [hk] at he;exact absurd he (by decide:¬ (5:Int)=0)
 | some k =>
  have c1:0≤p∧p < (w.pg:Nat):=Classical.not_not.1 c1
  have h0:0≤w.F p.toNat:=by omega
  obtain ⟨k1,k2⟩:=AC1 hk
  have k2:¬ w.heldT k:=k2.resolve_left (by omega)
  obtain ⟨f,f1,f2,f3,f4⟩:=U0 h h0
  have hg:=Ap7 h (v:=p.toNat) (by omega) h0 k1 k2
  dsimp only
  rw [f1]
  obtain ⟨g1,g2⟩:=BC8 hg (f:=f) ⟨f2,f3⟩ (by
   rintro ⟨q,hq,e⟩
   have e:D8 w.F p.toNat (-1) q=(f:Nat):=e
   by_cases e2:q=p.toNat
   ·rw [e2,C8] at e;omega
   ·rw [upd_ne e2] at e;exact e2 (h.oneF q _ (by omega) (by omega))) f4
  exact ⟨g1,fun q j=>(g2 q j).trans (put_hs h h0 k2 q j)⟩
theorem out_no (p:Int) (he:(w.out p).1 ≠ 0):(w.out p).2=w:=by
 unfold Sw.out at he ⊢
 split
 ·rfl
 rename_i c1;rw [if_neg c1] at he
 split
 ·rfl
 rename_i c2;rw [if_neg c2] at he
 cases hk:w.slot (-1) with
 | none=>rfl
 | some k=>rw [hk] at he;exact absurd rfl he
def Sw.nowh (w:Sw) (p:Nat):Sw:={ w with F:=D8 w.F p (-1),T:=D8 w.T p (-1),Z:=D8 w.Z p 0 }
theorem BU1 (h:E9 w) (p:Nat):E9 (w.nowh p)∧∀ q j,(w.nowh p).hs q j=if q=p then 0 else w.hs q j:=by
 refine ⟨⟨h.good,h.rng,h.kind,fun q hq=>?_,fun q=>?_,fun q=>?_,fun q r h1 h2=>?_,fun q r h1 h2=>?_,fun q=>?_,h.cnt⟩,fun q j=>?_⟩
 ·show D8 w.F p (-1) q = -1∧D8 w.T p (-1) q = -1
  by_cases e:q=p
  ·rw [e,C8,C8];exact ⟨rfl,rfl⟩
  ·rw [upd_ne e,upd_ne e];exact h.far q hq
 ·show D8 w.F p (-1) q = -1∨(D8 w.T p (-1) q = -1∧∃ f:Nat,D8 w.F p (-1) q=(f:Nat)∧w.a≤f∧f < w.a+w.n∧w.s.K f=2)
  by_cases e:q=p
  ·exact .inl (by rw [e,C8])
  ·rw [upd_ne e,upd_ne e];exact h.fr q
 ·show D8 w.T p (-1) q = -1∨(D8 w.F p (-1) q = -1∧∃ k:Nat,D8 w.T p (-1) q=(k:Nat)∧k < w.sl)
  by_cases e:q=p
  ·exact .inl (by rw [e,C8])
  ·rw [upd_ne e,upd_ne e];exact h.sl q
 ·have h1:0≤D8 w.F p (-1) q:=h1
  have h2:D8 w.F p (-1) q=D8 w.F p (-1) r:=h2
  by_cases e:q=p
  ·rw [e,C8] at h1;exact absurd h1 (by decide)
  ·rw [upd_ne e] at h1 h2
   by_cases e2:r=p
   ·rw [e2,C8] at h2;omega
   ·rw [upd_ne e2] at h2;exact h.oneF q r h1 h2
 ·have h1:0≤D8 w.T p (-1) q:=h1
  have h2:D8 w.T p (-1) q=D8 w.T p (-1) r:=h2
  by_cases e:q=p
  ·rw [e,C8] at h1;exact absurd h1 (by decide)
  ·rw [upd_ne e] at h1 h2
   by_cases e2:r=p
   ·rw [e2,C8] at h2;omega
   ·rw [upd_ne e2] at h2;exact h.oneT q r h1 h2
 ·show 0≤D8 w.Z p 0 q∧D8 w.Z p 0 q≤1000000000000
  by_cases e:q=p
  ·rw [e,C8];decide
  ·rw [upd_ne e];exact h.st q
 ·show (if 0≤D8 w.F p (-1) q then w.s.B (D8 w.F p (-1) q).toNat j else if 0≤D8 w.T p (-1) q then w.D (D8 w.T p (-1) q).toNat j else 0)=_
  by_cases e:q=p
  ·rw [e,C8,C8,if_pos rfl];rfl
  ·rw [upd_ne e,upd_ne e,if_neg e];rfl
theorem fre_yes (h:E9 w) {p:Int} (he:(w.fre p).1=0):(0≤p∧p < (w.pg:Nat))∧E9 (w.fre p).2∧∀ q j,(w.fre p).2.hs q j=if q=p.toNat then 0 else w.hs q j:=by
 unfold Sw.fre at he ⊢
 split at he
 ·exact absurd he (by decide:¬ (7:Int)=0)
 rename_i c1;rw [if_neg c1]
 split at he
 ·exact absurd he (by decide:¬ (4:Int)=0)
 rename_i c2;rw [if_neg c2]
 have c1:0≤p∧p < (w.pg:Nat):=Classical.not_not.1 c1
 obtain ⟨n1,n2⟩:=BU1 h p.toNat
 refine ⟨c1,?_⟩
 dsimp only
 split
 ·rename_i h0
  obtain ⟨f,f1,f2,f3,f4⟩:=U0 h h0
  rw [f1]
  obtain ⟨g1,g2⟩:=BC8 n1 (f:=f) ⟨f2,f3⟩ (by
   rintro ⟨q,hq,e⟩
   have e:D8 w.F p.toNat (-1) q=(f:Nat):=e
   by_cases e2:q=p.toNat
   ·rw [e2,C8] at e;omega
   ·rw [upd_ne e2] at e;exact e2 (h.oneF q _ (by omega) (by omega))) f4
  exact ⟨g1,fun q j=>(g2 q j).trans (n2 q j)⟩
 ·exact ⟨n1,n2⟩
theorem fre_no (p:Int) (he:(w.fre p).1 ≠ 0):(w.fre p).2=w:=by
 unfold Sw.fre at he ⊢
 split
 ·rfl
 rename_i c1;rw [if_neg c1] at he
 split
 ·rfl
 rename_i c2;rw [if_neg c2] at he
 exact absurd rfl he
def Sw.call (w:Sw) (k:Nat) (t now v p:Int) (l:List Rl):Int × Sw :=
 if k < 6 then w.write t now v else if k < 10 then (w.read t now).2 else if k=10 then w.out p else if k=11 then w.fre p else
 if k=13 then ((w.s.plan l).1,{ w with s:=(w.s.plan l).2 }) else (0,w)
end
end Go.Pol
namespace Go.Pol
open Go.Am Go.Proofs.Ytbhgfoikbkaohaa.Sh
theorem fil_le {α:Type} {p q:α→Bool}:∀ {l:List α},(∀ x ∈ l,p x=true→q x=true)→(l.filter p).length≤(l.filter q).length
 | [],_=>Nat.le_refl _
 | x::l,h=>by
  have ih:=fil_le (l:=l) fun y hy=>h y (List.mem_cons_of_mem _ hy)
  have hx:=h x (List.mem_cons_self ..)
  rw [List.filter_cons,List.filter_cons]
  by_cases e:p x=true
  ·rw [if_pos e,if_pos (hx e),List.length_cons,List.length_cons];omega
  ·rw [if_neg e]
   split
   ·rw [List.length_cons];omega
   ·exact ih
theorem fil_uniq {α:Type} {p:α→Bool} {l:List α} (hn:l.Nodup) (h:∀ x ∈ l,∀ y ∈ l,p x=true→p y=true→x=y):(l.filter p).length≤1:=by
 have h2:(l.filter p).Nodup:=hn.sublist List.filter_sublist
 have h3:∀ x ∈ l.filter p,∀ y ∈ l.filter p,x=y:=fun x hx y hy=>h x (List.mem_filter.1 hx).1 y (List.mem_filter.1 hy).1 (List.mem_filter.1 hx).2 (List.mem_filter.1 hy).2
 generalize l.filter p=M at *
 match M,h2,h3 with
 | [],_,_=>exact Nat.zero_le _
 | [_],_,_=>exact Nat.le_refl _
 | x::y::M,h2,h3 =>
  have:=h3 x (List.mem_cons_self ..) y (List.mem_cons_of_mem _ (List.mem_cons_self ..))
  rw [List.nodup_cons] at h2
  exact absurd (this▸List.mem_cons_self ..) h2.1
theorem AN4 {c:Nat}:∀ n,BJ3 (fun _=>c) n=n * c
 | 0=>(Nat.zero_mul c).symm
 | n+1=>by
  show BJ3 (fun _=>c) n+c=_
  rw [AN4 n,Nat.add_mul,Nat.one_mul]
section
variable {w:Sw}
def Sw.inN (w:Sw):Nat:=((List.range w.pg).filter fun p=>decide (0≤w.F p)).length
def Sw.outN (w:Sw):Nat:=((List.range w.pg).filter fun p=>decide (0≤w.T p)).length
theorem in_sum (h:E9 w):w.inN=BJ3 (fun i=>(((List.range w.pg).filter fun p=>decide (0≤w.F p)).filter fun p=>decide ((w.F p).toNat - w.a=i)).length) w.n:=by
 rw [BM3]
 ·rfl
 ·intro p hp
  have h0:0≤w.F p:=by simpa using (List.mem_filter.1 hp).2
  obtain ⟨f,f1,f2,f3,_⟩:=U0 h h0
  omega
theorem in_le (h:E9 w):w.inN≤w.n:=by
 rw [in_sum h]
 refine Nat.le_trans (Az6 (g:=fun _=>1) fun i _=>fil_uniq (List.nodup_range.sublist List.filter_sublist) fun x hx y hy e1 e2=>?_) (by rw [AN4,Nat.mul_one];exact Nat.le_refl _)
 have hx0:0≤w.F x:=by simpa using (List.mem_filter.1 hx).2
 have hy0:0≤w.F y:=by simpa using (List.mem_filter.1 hy).2
 have e1:(w.F x).toNat - w.a=i:=by simpa using e1
 have e2:(w.F y).toNat - w.a=i:=by simpa using e2
 obtain ⟨f,f1,f2,f3,_⟩:=U0 h hx0
 obtain ⟨g,g1,g2,g3,_⟩:=U0 h hy0
 exact h.oneF x y hx0 (by omega)
theorem in_full (h:E9 w) (hf:w.free=none):w.n≤w.inN:=by
 rw [in_sum h]
 refine Nat.le_trans (by rw [AN4,Nat.mul_one];exact Nat.le_refl _) (Az6 (f:=fun _=>1) fun i hi=>?_)
 obtain ⟨p,hp,e⟩:=AI9 hf (w.a+i) (by omega) (by omega)
 refine List.length_pos_of_mem (a:=p) (List.mem_filter.2 ⟨List.mem_filter.2 ⟨List.mem_range.2 hp,?_⟩,?_⟩)
 ·simp;omega
 ·simp;omega
structure Lru (w:Sw) (now:Int):Prop where
 good:E9 w
 l:w.s.l=[]
 sl:w.sl=256
 up:∀ p q,0≤w.F p→w.is q→w.Z p < w.Z q→0≤w.F q
 dist:∀ p q,w.is p→w.is q→w.Z p=w.Z q→p=q
 fresh:∀ p,w.is p→w.Z p < now
 full:∀ p,w.is p→¬ 0≤w.F p→w.free=none
theorem not_full (h:E9 w) (hsl:w.sl=256) (hf:w.free=none) {p:Nat} (hs:w.slot (w.T p)=none∨w.vic=none):False:=by
 have hr:=h.rng
 obtain ⟨v,hv,he⟩:=AI9 hf w.a (Nat.le_refl _) (by omega)
 rcases hs with hs|hs
 ·have h1:256≤w.outN:=by
   have e:w.outN=BJ3 (fun i=>(((List.range w.pg).filter fun p=>decide (0≤w.T p)).filter fun p=>decide ((w.T p).toNat=i)).length) 256:=by
    rw [BM3]
    ·rfl
    ·intro q hq
     have h0:0≤w.T q:=by simpa using (List.mem_filter.1 hq).2
     rcases h.sl q with h1 | ⟨_,k,h2,h3⟩
     ·omega
     ·omega
   rw [e]
   refine Nat.le_trans (by rw [AN4,Nat.mul_one];exact Nat.le_refl _) (Az6 (f:=fun _=>1) (n:=256) fun i hi=>?_)
   obtain ⟨_,q,hq,e⟩:=BG3 hs i (by omega)
   refine List.length_pos_of_mem (a:=q) (List.mem_filter.2 ⟨List.mem_filter.2 ⟨List.mem_range.2 hq,?_⟩,?_⟩)
   ·simp;omega
   ·simp;omega
  have h2:w.outN+1≤w.pg:=by
   have h3:=Aj2 (l:=List.range w.pg) (p:=fun p=>decide (0≤w.T p)) (q:=fun p=>decide (¬ 0≤w.T p)) (r:=fun _=>true) fun f _=>by
    simp only [decide_eq_true_eq]
    exact ⟨⟨fun _=>by omega,fun _=>trivial⟩,fun h2=>h2.2 h2.1⟩
   rw [List.filter_eq_self.2 fun _ _=>rfl,List.length_range] at h3
   have h4:0 < ((List.range w.pg).filter fun p=>decide (¬ 0≤w.T p)).length:=List.length_pos_of_mem (a:=v) (List.mem_filter.2 ⟨List.mem_range.2 hv,by
    rcases h.fr v with h1 | ⟨h1,_⟩
    ·omega
    ·simp;omega⟩)
   unfold Sw.outN;omega
  omega
 ·have:=(AA9 (w:=w) w.pg).2 hs v hv;omega
theorem Ap0 {now:Int} (h:Lru w now) {p:Nat} (hp:p < w.pg) (hnow:0≤now∧now≤1000000000000):(w.touch p now).1=0∧Lru (w.touch p now).2 (now+1)∧(∀ q,(w.touch p now).2.is q ↔ q=p∨w.is q)∧(∀ q,(w.touch p now).2.Z q=if q=p then now else w.Z q)∧(w.touch p now).2.ins=(if 0≤w.F p then w.ins else if 0≤w.T p then AL2 w.ins else w.ins)∧(w.touch p now).2.pg=w.pg∧(w.touch p now).2.n=w.n:=by
 have hg:=X4 h.good hp hnow
 have hy:=j5 h.good (p:=p) now
 have hsp:=AQ3 (w:=w) p now
 generalize w.touch p now=r at hg hy hsp
 have hy:TouY w p now r:=by
  rcases hy with hy|hn
  ·exact hy
  ·exfalso
   cases hsp with
   | here h0=>exact hn.e rfl
   | no f s' e hn2 hf hk hc he =>
    obtain ⟨f1,f2,_⟩:=X8 hf
    have hr:=h.good.rng
    rw [Ab2 (by omega) hk (h.good.kind f f1 f2).2,h.l,BC6] at hc
    cases hc;exact he rfl
   | new f s' hn2 hf hs=>exact hn.e rfl
   | full hn2 hf hs=>exact not_full h.good h.sl hf hs
   | swp k v hn2 hf hk hv=>exact hn.e rfl
 have hZ:∀ q,r.2.Z q=if q=p then now else w.Z q:=fun q=>by
  by_cases e:q=p
  ·rw [if_pos e,e];exact hy.st
  ·rw [if_neg e];exact hy.z q e
 have hI:∀ q,r.2.is q ↔ q=p∨w.is q:=fun q=>by
  by_cases e:q=p
  ·subst e;exact ⟨fun _=>.inl rfl,fun _=>.inl hy.fr⟩
  ·rw [hy.is q e];exact ⟨.inr,fun h2=>h2.resolve_left e⟩
 have hD:∀ a b,r.2.is a→r.2.is b→r.2.Z a=r.2.Z b→a=b:=fun a b ha hb he=>by
  rw [hI] at ha hb
  rw [hZ,hZ] at he
  by_cases e1:a=p
  ·by_cases e2:b=p
   ·rw [e1,e2]
   ·rw [if_pos e1,if_neg e2] at he
    have:=h.fresh b (hb.resolve_left e2);omega
  ·by_cases e2:b=p
   ·rw [if_neg e1,if_pos e2] at he
    have:=h.fresh a (ha.resolve_left e1);omega
   ·rw [if_neg e1,if_neg e2] at he
    exact h.dist a b (ha.resolve_left e1) (hb.resolve_left e2) he
 have hFr:∀ a,r.2.is a→r.2.Z a < now+1:=fun a ha=>by
  rw [hI] at ha
  rw [hZ]
  by_cases e1:a=p
  ·rw [if_pos e1];omega
  ·rw [if_neg e1];have:=h.fresh a (ha.resolve_left e1);omega
 -- pages in frames afterwards: p,and those of before but one that was touched first
 suffices hx:r.2.s.l=[]∧r.2.sl=w.sl∧(∀ a b,0≤r.2.F a→r.2.is b→r.2.Z a < r.2.Z b→0≤r.2.F b)∧(∀ a,r.2.is a→¬ 0≤r.2.F a→r.2.free=none)∧r.2.ins=(if 0≤w.F p then w.ins else if 0≤w.T p then AL2 w.ins else w.ins)∧r.2.n=w.n from ⟨hy.e,⟨hg,hx.1,hx.2.1.trans h.sl,hx.2.2.1,hD,hFr,hx.2.2.2.1⟩,hI,hZ,hx.2.2.2.2.1,hy.sz,hx.2.2.2.2.2⟩
 have hup:∀ (F':Nat→Int),(∀ a,0≤F' a→a ≠ p→0≤w.F a∧∀ b,w.is b→w.Z a < w.Z b→b ≠ p→0≤F' b)→0≤F' p→∀ a b,0≤F' a→r.2.is b→r.2.Z a < r.2.Z b→0≤F' b:=fun F' hF hFp a b ha hb hlt=>by
  rw [hI] at hb
  rw [hZ,hZ] at hlt
  by_cases e2:b=p
  ·rw [e2];exact hFp
  ·rw [if_neg e2] at hlt
   have hbi:=hb.resolve_left e2
   by_cases e1:a=p
   ·rw [if_pos e1] at hlt;have:=h.fresh b hbi;omega
   ·rw [if_neg e1] at hlt
    exact (hF a ha e1).2 b hbi hlt e2
 have hFp:=hy.fr
 cases hsp with
 | here h0=>exact ⟨h.l,rfl,hup _ (fun a ha _=>⟨ha,fun b hb hlt _=>h.up a b ha hb hlt⟩) hFp,fun a ha hn=>by
   rw [hI] at ha
   rcases ha with rfl|ha
   ·exact absurd h0 hn
   ·exact h.full a ha hn,by rw [if_pos h0],rfl⟩
 | no f s' e hn hf hk hc he=>exact absurd hy.e he
 | full hn hf hs=>exact absurd hy.e (by show ¬ (5:Int)=0;decide)
 | new f s' hn hf hs =>
  have hall:∀ b,w.is b→0≤w.F b:=fun b hb=>Classical.byContradiction fun hc=>by
   have:=h.full b hb hc;rw [hf] at this;cases this
  refine ⟨?_,rfl,hup _ (fun a ha hne=>?_) hFp,fun a ha hn2=>?_,by rw [if_neg hn];rfl,rfl⟩
  ·rcases hs with ⟨_,rfl⟩ | ⟨h1,h2⟩
   ·exact h.l
   ·obtain ⟨f1,f2,_⟩:=X8 hf
    have hr:=h.good.rng
    rw [Ab2 (by omega) h1 (h.good.kind f f1 f2).2,h.l,BC6] at h2
    cases h2;exact h.l
  ·have ha:0≤D8 w.F p (f:Nat) a:=ha
   rw [upd_ne hne] at ha
   refine ⟨ha,fun b hb _ hbp=>?_⟩
   show 0≤D8 w.F p (f:Nat) b
   rw [upd_ne hbp];exact hall b hb
  ·have hn2:¬ 0≤D8 w.F p (f:Nat) a:=hn2
   rw [hI] at ha
   by_cases e:a=p
   ·rw [e,C8] at hn2;omega
   ·rw [upd_ne e] at hn2;exact absurd (hall a (ha.resolve_left e)) hn2
 | swp k v hn hf hk hv =>
  obtain ⟨v1,v2,v3⟩:=(AA9 (w:=w) w.pg).1 v hv
  have hne:v ≠ p:=fun e=>hn (e▸v2)
  have hF2:∀ a,a ≠ p→D8 (D8 w.F v (-1)) p ((w.F v).toNat:Nat) a=if a=v then -1 else w.F a:=fun a ha=>by
   rw [upd_ne ha]
   by_cases e:a=v
   ·rw [if_pos e,e,C8]
   ·rw [if_neg e,upd_ne e]
  refine ⟨h.l,rfl,hup _ (fun a ha hnp=>?_) hFp,fun a ha hn2=>?_,?_,rfl⟩
  ·have ha:0≤D8 (D8 w.F v (-1)) p ((w.F v).toNat:Nat) a:=ha
   rw [hF2 a hnp] at ha
   by_cases e:a=v
   ·rw [if_pos e] at ha;omega
   ·rw [if_neg e] at ha
    refine ⟨ha,fun b hb hlt hbp=>?_⟩
    show 0≤D8 (D8 w.F v (-1)) p ((w.F v).toNat:Nat) b
    rw [hF2 b hbp]
    have hb0:=h.up a b ha hb hlt
    by_cases e2:b=v
    ·have:=v3 a (l8 h.good ha) ha
     rw [e2] at hlt;omega
    ·rw [if_neg e2];exact hb0
  ·refine List.find?_eq_none.2 fun g hgm=>?_
   rw [List.mem_range'_1] at hgm
   have hgm:w.a≤g∧g < w.a+w.n:=hgm
   obtain ⟨q,hq,e⟩:=AI9 hf g hgm.1 hgm.2
   have : ((w.put v k).brg p (w.F v).toNat now (w.got p)).heldF g:=by
    by_cases e2:q=v
    ·refine ⟨p,hp,?_⟩
     show D8 (D8 w.F v (-1)) p ((w.F v).toNat:Nat) p=_
     rw [C8,← e2,e];rfl
    ·refine ⟨q,hq,?_⟩
     show D8 (D8 w.F v (-1)) p ((w.F v).toNat:Nat) q=_
     have hqp:q ≠ p:=fun e3=>hn (by rw [← e3,e];omega)
     rw [hF2 q hqp,if_neg e2];exact e
   simpa using this
  ·rw [if_neg hn]
   show (if 0≤D8 w.T v (k:Nat) p then AL2 w.ins else w.ins)=_
   rw [upd_ne hne.symm]
end
end Go.Pol
namespace Go.Pol
open Go.Am Go.Proofs.Ytbhgfoikbkaohaa.Sh
structure Few (t u:Sw) (now:Int):Prop where
 lt:Lru t now
 lu:Lru u now
 pg:t.pg=u.pg
 n:t.n≤u.n
 is:∀ p,t.is p ↔ u.is p
 Z:∀ p,t.is p→t.Z p=u.Z p
 ins:u.ins≤t.ins
section
variable {t u:Sw} {now:Int}
theorem few_in (h:Few t u now) {p:Nat} (hp:0≤t.F p):0≤u.F p:=Classical.byContradiction fun hn=>by
 have hip:t.is p:=.inl hp
 have hiu:=(h.is p).1 hip
 have hfull:=h.lu.full p hiu hn
 have h1:=in_full h.lu.good hfull
 have h2:=in_le h.lt.good
 have hp2:p < t.pg:=l8 h.lt.good hp
 -- all pages in frames of u are in frames of t
 have hsub:∀ q,0≤u.F q→0≤t.F q:=fun q hq=>by
  have hiq:u.is q:=.inl hq
  have hitq:=(h.is q).2 hiq
  have e1:=h.Z p hip
  have e2:=h.Z q hitq
  have hne:q ≠ p:=fun e=>hn (e▸hq)
  refine h.lt.up p q hp hitq ?_
  rw [e1,e2]
  rcases Int.lt_trichotomy (u.Z p) (u.Z q) with h3|h3|h3
  ·exact h3
  ·exact absurd (h.lu.dist p q hiu hiq h3).symm hne
  ·exact absurd (h.lu.up q p hq hiu h3) hn
 have h3:u.inN+1≤t.inN:=by
  unfold Sw.inN
  rw [← h.pg]
  have e:=Aj2 (l:=List.range t.pg) (p:=fun q=>decide (0≤u.F q)) (q:=fun q=>decide (q=p)) (r:=fun q=>decide (0≤u.F q∨q=p)) fun q _=>by
   simp only [decide_eq_true_eq]
   exact ⟨by first|trivial|exact Iff.rfl,fun hc=>hn (hc.2▸hc.1)⟩
  have e2:0 < ((List.range t.pg).filter fun q=>decide (q=p)).length:=List.length_pos_of_mem (a:=p) (List.mem_filter.2 ⟨List.mem_range.2 hp2,by simp⟩)
  have e3:((List.range t.pg).filter fun q=>decide (0≤u.F q∨q=p)).length≤((List.range t.pg).filter fun q=>decide (0≤t.F q)).length:=fil_le fun q _ hq=>by
   simp only [decide_eq_true_eq] at hq ⊢
   rcases hq with hq|rfl
   ·exact hsub q hq
   ·exact hp
  omega
 have:=h.n
 omega
theorem addC_le {x y:Int} (h:x≤y):AL2 x≤AL2 y:=by unfold AL2;split<;>split<;>omega
theorem addC_ge {x:Int} (h:x≤1000000000):x≤AL2 x:=by unfold AL2;split<;>omega
theorem Aq2 (h:Few t u now) {p:Nat} (hp:p < t.pg) (hnow:0≤now∧now≤1000000000000):(t.touch p now).1=0∧(u.touch p now).1=0∧Few (t.touch p now).2 (u.touch p now).2 (now+1):=by
 obtain ⟨t1,t2,t3,t4,t5,t6,t7⟩:=Ap0 h.lt hp hnow
 obtain ⟨u1,u2,u3,u4,u5,u6,u7⟩:=Ap0 h.lu (h.pg▸hp) hnow
 refine ⟨t1,u1,t2,u2,by rw [t6,u6];exact h.pg,by rw [t7,u7];exact h.n,fun q=>by rw [t3,u3,h.is],fun q hq=>?_,?_⟩
 ·rw [t4,u4]
  rw [t3] at hq
  by_cases e:q=p
  ·rw [if_pos e,if_pos e]
  ·rw [if_neg e,if_neg e];exact h.Z q (hq.resolve_left e)
 ·rw [t5,u5]
  have hi:=h.ins
  have hle:=addC_le hi
  have hge:=addC_ge h.lt.good.cnt.2.1
  by_cases ht:0≤t.F p
  ·rw [if_pos ht,if_pos (few_in h ht)];exact hi
  ·rw [if_neg ht]
   by_cases hu:0≤u.F p
   ·rw [if_pos hu];split<;>omega
   ·rw [if_neg hu]
    have:=h.is p
    unfold Sw.is at this
    by_cases hT:0≤t.T p
    ·rw [if_pos hT,if_pos (by have:=this.1 (.inr hT);omega)];exact hle
    ·rw [if_neg hT,if_neg (fun hc=>by have:=this.2 (.inr hc);omega)];exact hi
theorem lru_byte {w:Sw} (h:Lru w now) {s':Sy} (hg:E9 { w with s:=s' }) (hl:s'.l=[]):Lru { w with s:=s' } now:=⟨hg,hl,h.sl,h.up,h.dist,h.fresh,h.full⟩
theorem BB9 {w:Sw} (h:Lru w now):Lru w (now+1):=⟨h.good,h.l,h.sl,h.up,h.dist,fun p hp=>by have:=h.fresh p hp;omega,h.full⟩
theorem AW7 (h:Few t u now):Few t u (now+1):=⟨BB9 h.lt,BB9 h.lu,h.pg,h.n,h.is,h.Z,h.ins⟩
theorem BS1 {w:Sw} (h:Lru w now) {a v:Int} (ha:0≤a) (h0:0≤w.F (a.toNat / 64)):(w.byte a v).1=0∧∃ s',(w.byte a v).2={ w with s:=s' }∧Lru { w with s:=s' } now:=by
 obtain ⟨b1,b2,_,s',b4,_⟩:=Ak7 (v:=v) h.good ha h0
 refine ⟨b1,s',b4,?_⟩
 rw [b4] at b2
 refine lru_byte h b2 ?_
 have : s'=(w.s.write (w.F (a.toNat / 64) * 64+a % 64) v).2:=by
  have : (w.byte a v).2.s=s':=by rw [b4]
  exact this.symm
 rw [this,write_l];exact h.l
theorem BU7 (h:Few t u now) (hnow:0≤now∧now≤1000000000000) (a v:Int):(t.write a now v).1=(u.write a now v).1∧Few (t.write a now v).2 (u.write a now v).2 (now+1):=by
 have hnum:t.nums a now ↔ u.nums a now:=by unfold Sw.nums;rw [h.pg]
 unfold Sw.write
 by_cases hn:t.nums a now
 ·obtain ⟨n1,n2,n3,n4⟩:=hn
  obtain ⟨e1,e2,h2⟩:=Aq2 h (p:=a.toNat / 64) (by omega) hnow
  have hnt:t.nums a now:=⟨n1,n2,n3,n4⟩
  rw [if_neg (show ¬ ¬ t.nums a now from fun hc=>hc hnt),if_neg (show ¬ ¬ u.nums a now from fun hc=>hc (hnum.1 hnt)),if_pos e1,if_pos e2]
  have f1:0≤(t.touch (a.toNat / 64) now).2.F (a.toNat / 64):=by
   rcases j5 h.lt.good (p:=a.toNat / 64) now with hy|hno
   ·exact hy.fr
   ·exact absurd e1 hno.e
  have f2:0≤(u.touch (a.toNat / 64) now).2.F (a.toNat / 64):=by
   rcases j5 h.lu.good (p:=a.toNat / 64) now with hy|hno
   ·exact hy.fr
   ·exact absurd e2 hno.e
  obtain ⟨b1,s1,b2,b3⟩:=BS1 (v:=v) h2.lt n1 f1
  obtain ⟨c1,s2,c2,c3⟩:=BS1 (v:=v) h2.lu n1 f2
  refine ⟨b1.trans c1.symm,?_⟩
  rw [b2,c2]
  exact ⟨b3,c3,h2.pg,h2.n,h2.is,h2.Z,h2.ins⟩
 ·rw [if_pos hn,if_pos (show ¬ u.nums a now from fun hc=>hn (hnum.2 hc))]
  exact ⟨rfl,AW7 h⟩
theorem few_read (h:Few t u now) (hnow:0≤now∧now≤1000000000000) (a:Int):(t.read a now).2.1=(u.read a now).2.1∧Few (t.read a now).2.2 (u.read a now).2.2 (now+1):=by
 have hnum:t.nums a now ↔ u.nums a now:=by unfold Sw.nums;rw [h.pg]
 unfold Sw.read
 by_cases hn:t.nums a now
 ·obtain ⟨n1,n2,n3,n4⟩:=hn
  have hnt:t.nums a now:=⟨n1,n2,n3,n4⟩
  rw [if_neg (show ¬ ¬ t.nums a now from fun hc=>hc hnt),if_neg (show ¬ ¬ u.nums a now from fun hc=>hc (hnum.1 hnt))]
  by_cases hi:t.is (a.toNat / 64)
  ·obtain ⟨e1,e2,h2⟩:=Aq2 h (p:=a.toNat / 64) (by omega) hnow
   rw [if_neg (show ¬ ¬ t.is (a.toNat / 64) from fun hc=>hc hi),if_neg (show ¬ ¬ u.is (a.toNat / 64) from fun hc=>hc ((h.is _).1 hi)),if_pos e1,if_pos e2]
   have f1:0≤(t.touch (a.toNat / 64) now).2.F (a.toNat / 64):=by
    rcases j5 h.lt.good (p:=a.toNat / 64) now with hy|hno
    ·exact hy.fr
    ·exact absurd e1 hno.e
   have f2:0≤(u.touch (a.toNat / 64) now).2.F (a.toNat / 64):=by
    rcases j5 h.lu.good (p:=a.toNat / 64) now with hy|hno
    ·exact hy.fr
    ·exact absurd e2 hno.e
   dsimp only
   rw [BC0 h2.lt.good n1 f1,BC0 h2.lu.good n1 f2]
   exact ⟨rfl,h2⟩
  ·rw [if_pos hi,if_pos (show ¬ u.is (a.toNat / 64) from fun hc=>hi ((h.is _).2 hc))]
   exact ⟨rfl,AW7 h⟩
 ·rw [if_pos hn,if_pos (show ¬ u.nums a now from fun hc=>hn (hnum.2 hc))]
  exact ⟨rfl,AW7 h⟩
end
end Go.Pol
namespace Go.Pol
open Go.Am Go.Proofs.Ytbhgfoikbkaohaa.Sh
section
variable {w:Sw}
def OutW (w:Sw):Prop:=∀ p,¬ (w.a≤p∧p < w.a+w.n)→w.s.K p=0
end
end Go.Pol
namespace Go.Pol
open Go.Am Go.Proofs.Ytbhgfoikbkaohaa.Sh
section
variable {w:Sw}
theorem fre_good (h:E9 w) (p:Int):E9 (w.fre p).2:=by
 by_cases he:(w.fre p).1=0
 ·exact (fre_yes h he).2.1
 ·rw [fre_no p he];exact h
end
end Go.Pol
namespace Go.Pol
open Go.Am Go.Proofs.Ytbhgfoikbkaohaa.Sh
section
variable {w:Sw}
theorem AZ0 {l:List Rl} {a n:Int} {pg sl:Nat} (hc:(AC8 l).2=0) (hi:0≤a∧1≤n∧a+n≤1024) (hp:1≤pg∧pg≤256∧sl≤256) (he:((Sy.new l).chg a n 0 1 0).1=0) (b:Sw) (hb:b=⟨a.toNat,n.toNat,pg,sl,fun _=>-1,fun _=>-1,fun _=>0,fun _ _=>0,0,0,((Sy.new l).chg a n 0 1 0).2⟩):E9 b∧OutW b∧(∀ p j,b.hs p j=0)∧(l=[]→sl=256→Lru b 1):=by
 obtain ⟨k1,k2,k3,k4⟩:=new_chg he
 subst hb
 have hg:E9 ⟨a.toNat,n.toNat,pg,sl,fun _=>-1,fun _=>-1,fun _=>0,fun _ _=>0,0,0,((Sy.new l).chg a n 0 1 0).2⟩:=by
  refine ⟨good_chg (Ai8 hc) (by decide),⟨by show 1≤n.toNat;omega,by show a.toNat+n.toNat≤1024;omega,hp.1,hp.2.1,hp.2.2⟩,fun f h1 h2=>⟨.inl ?_,k2 f⟩,fun _ _=>⟨rfl,rfl⟩,fun _=>.inl rfl,fun _=>.inl rfl,fun p q h1=>absurd h1 (show ¬ (0:Int) ≤ -1 by decide),fun p q h1=>absurd h1 (show ¬ (0:Int) ≤ -1 by decide),fun _=>(show (0:Int)≤0∧(0:Int)≤1000000000000 by decide),(show (0:Int)≤0∧(0:Int)≤1000000000∧(0:Int)≤0∧(0:Int)≤1000000000 by decide)⟩
  show ((Sy.new l).chg a n 0 1 0).2.K f=1
  rw [k1,if_pos ⟨h1,h2⟩]
 have hno:∀ p,¬ Sw.is ⟨a.toNat,n.toNat,pg,sl,fun _=>-1,fun _=>-1,fun _=>0,fun _ _=>0,0,0,((Sy.new l).chg a n 0 1 0).2⟩ p:=fun p h=>by
  rcases h with h|h
  ·exact absurd h (show ¬ (0:Int) ≤ -1 by decide)
  ·exact absurd h (show ¬ (0:Int) ≤ -1 by decide)
 refine ⟨hg,fun p hp=>?_,fun p j=>rfl,fun hl hs=>⟨hg,k4.trans hl,hs,fun p q h=>absurd h (show ¬ (0:Int) ≤ -1 by decide),fun p q h=>absurd h (hno p),fun p h=>absurd h (hno p),fun p h=>absurd h (hno p)⟩⟩
 show ((Sy.new l).chg a n 0 1 0).2.K p=0
 rw [k1,if_neg hp]
end
end Go.Pol
namespace Go.Pol
open Go.Am Go.Proofs.Ytbhgfoikbkaohaa.Sh
def pgE (x:Int × Int × Int):AV:=.agg [.int .i64 x.1,.int .i64 x.2.1,.int .i64 x.2.2]
def byE (b:Nat→Int):AV:=.agg (bcA b)
def nuE (p:Int):AV:=.int .i64 p
theorem F9 (x:Int × Int × Int):Plain (pgE x):=K4 fun y hy=>by
 simp only [List.mem_cons,List.not_mem_nil,or_false] at hy
 rcases hy with rfl|rfl|rfl<;>exact A8
theorem G6 (b:Nat→Int):Plain (byE b):=K4 AJ1
theorem G5 (p:Int):Plain (nuE p):=A8
structure WS where
 W:List (Int × Int × Int × Int)
 D:List (Int × (Nat→Int))
 H:List (Int × Int)
structure WOk (w:Sw) (t:WS):Prop where
 ndW:ndI t.W
 ndD:ndI t.D
 ndH:ndI t.H
 gW:∀ p:Int,mgI t.W p=if 0≤p∧w.is p.toNat then some (w.F p.toNat,w.T p.toNat,w.Z p.toNat) else none
 gD:∀ k:Int,mgI t.D k=if 0≤k∧w.heldT k.toNat then some (w.D k.toNat) else none
 gH:∀ f p:Int,mgI t.H f=some p ↔ 0≤p∧0≤f∧w.F p.toNat=f
def stC (s w d h:Nat) (q:Sw):List AV:=[.ptr s 0,.int .i64 (q.a:Nat),.int .i64 (q.n:Nat),.int .i64 (q.pg:Nat),.int .i64 (q.sl:Nat),.mapr w,.mapr d,.mapr h,.int .i64 q.ins,.int .i64 q.outs]
def stN (q:Sw) (t:WS) (o w d h s:Nat):List (Nat × AObj):=[(o,.cells (stC s w d h q)),(w,.maps (encW pgE t.W)),(d,.maps (encW byE t.D)),(h,.maps (encW nuE t.H)),(s,.cells q.s.a)]
end Go.Pol
namespace Go.Proofs.Ytbhgfoikbkaohaa.Sh
open Go Go.Am Go.Pol
structure K3 (f:Nat) (avs:List AV) (q:Sw) (t:WS) (r:AV) (q':Sw) (t':WS):Prop where
 out:AT4 Try.prog G0 f (.ptr 0 0::avs) (stN q t 0 1 2 3 4) 5 fun x h1=>x=r∧h1=⟨stN q' t' 0 1 2 3 4,5⟩
 pa:∀ x ∈ avs,Plain x
 pr:Plain r
theorem AE8 {p:Nat→Nat→Prop} {q:Sw} {s w d h s' w' d' h':Nat} (e1:p s s') (e2:p w w') (e3:p d d') (e4:p h h'):RnL p (stC s w d h q) (stC s' w' d' h' q) :=
 ⟨P8 e1,F3 A8,F3 A8,F3 A8,F3 A8,BO6 e2,BO6 e3,BO6 e4,F3 A8,F3 A8,trivial⟩
theorem BK0 {σ:Nat→Nat} {h h':Hp} {q:Sw} {t:WS} {o w d m s o' w' d' m' s':Nat} (hs:AM7 σ h h') (e0:σ o'=o) (e1:σ w'=w) (e2:σ d'=d) (e3:σ m'=m) (e4:σ s'=s) (hlt:o' < h'.next∧w' < h'.next∧d' < h'.next∧m' < h'.next∧s' < h'.next)
  (g0:lk h.l o=some (.cells (stC s w d m q))) (g1:lk h.l w=some (.maps (encW pgE t.W))) (g2:lk h.l d=some (.maps (encW byE t.D))) (g3:lk h.l m=some (.maps (encW nuE t.H))) (g4:lk h.l s=some (.cells q.s.a)) {r:List (Nat × AObj)} (hr:WkO Try.prog σ h h' r):WkO Try.prog σ h h' (stN q t o' w' d' m' s'++r):=by
 obtain ⟨l0,l1,l2,l3,l4⟩:=hlt
 refine U5 l0 (by rw [e0];exact g0) (D5 (Y9 e4 l4) (D5 (J7 rfl) (D5 (J7 rfl) (D5 (J7 rfl) (D5 (J7 rfl) (D5 (AT5 e1 l1) (D5 (AT5 e2 l2) (D5 (AT5 e3 l3) (D5 (J7 rfl) (D5 (J7 rfl) K7)))))))))) ?_
 exact O4 hs l1 (by rw [e1];exact g1) rfl (A9 F9) (O4 hs l2 (by rw [e2];exact g2) rfl (A9 G6) (O4 hs l3 (by rw [e3];exact g3) rfl (A9 G5) (H9 hs l4 (by rw [e4];exact g4) rfl F4 hr)))
theorem Ag0 {σ:Nat→Nat} {h h':Hp} {i s w d m s' w' d' m':Nat} {q:Sw} {r:List (Nat × AObj)} (h1:i < h'.next) (h2:lk h.l (σ i)=some (.cells (stC s w d m q))) (e1:σ s'=s) (l1:s' < h'.next) (e2:σ w'=w) (l2:w' < h'.next) (e3:σ d'=d) (l3:d' < h'.next) (e4:σ m'=m) (l4:m' < h'.next) (h4:WkO Try.prog σ h h' r):WkO Try.prog σ h h' ((i,.cells (stC s' w' d' m' q))::r) :=
 U5 h1 h2 (D5 (Y9 e1 l1) (D5 (J7 rfl) (D5 (J7 rfl) (D5 (J7 rfl) (D5 (J7 rfl) (D5 (AT5 e2 l2) (D5 (AT5 e3 l3) (D5 (AT5 e4 l4) (D5 (J7 rfl) (D5 (J7 rfl) K7)))))))))) h4
theorem sub_st {h:Hp} {q:Sw} {t:WS} {nx:Nat} (g0:lk h.l 0=some (.cells (stC 4 1 2 3 q))) (g1:lk h.l 1=some (.maps (encW pgE t.W))) (g2:lk h.l 2=some (.maps (encW byE t.D))) (g3:lk h.l 3=some (.maps (encW nuE t.H))) (g4:lk h.l 4=some (.cells q.s.a)):AM7 (rn []) h ⟨stN q t 0 1 2 3 4,nx⟩:=fun i o hi=>by
 simp only [stN,lk] at hi
 show ∃ o',lk h.l i=some o'
 split at hi
 ·rename_i e;subst e;exact ⟨_,g0⟩
 ·split at hi
  ·rename_i e;subst e;exact ⟨_,g1⟩
  ·split at hi
   ·rename_i e;subst e;exact ⟨_,g2⟩
   ·split at hi
    ·rename_i e;subst e;exact ⟨_,g3⟩
    ·split at hi
     ·rename_i e;subst e;exact ⟨_,g4⟩
     ·cases hi
theorem end_WW {top:Bool} {h:Hp} {N0:Nat} {x r:AV} {q:Sw} {t:WS} (hr:AM7 (rn []) h ⟨stN q t 0 1 2 3 4,5⟩→WkV Try.prog (rn []) h ⟨stN q t 0 1 2 3 4,5⟩ x r) (g0:lk h.l 0=some (.cells (stC 4 1 2 3 q))) (g1:lk h.l 1=some (.maps (encW pgE t.W))) (g2:lk h.l 2=some (.maps (encW byE t.D))) (g3:lk h.l 3=some (.maps (encW nuE t.H))) (g4:lk h.l 4=some (.cells q.s.a)) (hN0:N0≤5:=by decide) :
  AV0 top Try.prog N0 h x (fun r' h'=>r'=r∧h'=⟨stN q t 0 1 2 3 4,5⟩):=by
 have hs:AM7 (rn []) h ⟨stN q t 0 1 2 3 4,5⟩:=sub_st g0 g1 g2 g3 g4
 refine AE3 [] rfl hN0 (P5 rfl) (hr hs) ?_ ⟨rfl,rfl⟩
 have:=BK0 (o':=0) (w':=1) (d':=2) (m':=3) (s':=4) (r:=[]) hs rfl rfl rfl rfl rfl ⟨show 0 < 5 by decide,show 1 < 5 by decide,show 2 < 5 by decide,show 3 < 5 by decide,show 4 < 5 by decide⟩ g0 g1 g2 g3 g4 K6
 exact this
theorem J3 {top:Bool} {h:Hp} {N0:Nat} {x r:AV} {q:Sw} {t:WS} (hr:x=r) (hp:Plain r) (g0:lk h.l 0=some (.cells (stC 4 1 2 3 q))) (g1:lk h.l 1=some (.maps (encW pgE t.W))) (g2:lk h.l 2=some (.maps (encW byE t.D))) (g3:lk h.l 3=some (.maps (encW nuE t.H))) (g4:lk h.l 4=some (.cells q.s.a)) (hN0:N0≤5:=by decide) :
  AV0 top Try.prog N0 h x (fun r' h'=>r'=r∧h'=⟨stN q t 0 1 2 3 4,5⟩):=by
 subst hr
 exact end_WW (fun hs=>Q9 hs hp) g0 g1 g2 g3 g4 hN0
theorem AM5 {f:Nat} {avs:List AV} {q q':Sw} {t t':WS} {o w d m s nx:Nat} {l:List (Nat × AObj)} {r:AV} {K:AV→Hp→Prop} (hc:K3 f avs q t r q' t')
  (g0:lk l o=some (.cells (stC s w d m q))) (g1:lk l w=some (.maps (encW pgE t.W))) (g2:lk l d=some (.maps (encW byE t.D))) (g3:lk l m=some (.maps (encW nuE t.H))) (g4:lk l s=some (.cells q.s.a))
  (hlt:o < nx∧w < nx∧d < nx∧m < nx∧s < nx) (hd:AY9 [o,w,d,m,s]=true)
  (hk:AS6 [o,w,d,m,s] l fun l2=>K r ⟨([(o,.cells (stC s w d m q')),(w,.maps (encW pgE t'.W)),(d,.maps (encW byE t'.D)),(m,.maps (encW nuE t'.H)),(s,.cells q'.s.a)]:List (Nat × AObj))++l2,nx⟩):AE6 Try.prog G0 (.fn f [] []) (.ptr o 0::avs) ⟨l,nx⟩ K:=by
 have e0:enter [o,w,d,m,s] o 0:=rfl
 have e1:enter [o,w,d,m,s] w 1:=rfl
 have e2:enter [o,w,d,m,s] d 2:=rfl
 have e3:enter [o,w,d,m,s] m 3:=rfl
 have e4:enter [o,w,d,m,s] s 4:=rfl
 have k0:back [o,w,d,m,s] nx 0 o:=rfl
 have k1:back [o,w,d,m,s] nx 1 w:=rfl
 have k2:back [o,w,d,m,s] nx 2 d:=rfl
 have k3:back [o,w,d,m,s] nx 3 m:=rfl
 have k4:back [o,w,d,m,s] nx 4 s:=rfl
 refine AL0 (l1:=stN q' t' o w d m s) [o,w,d,m,s] hc.out H8 hd
  (.cons e0 g0 (AE8 e4 e1 e2 e3) (.maps e1 g1 (A9 F9) (.maps e2 g2 (A9 G6) (.maps e3 g3 (A9 G5) (.cons e4 g4 (D7 F4) .nil)))))
  ?_ (by intro x hx;simp only [List.mem_cons,List.not_mem_nil,or_false] at hx;omega) (F3 hc.pr)
  (.cons k0 (AE8 k4 k1 k2 k3) (.maps k1 (A9 F9) (.maps k2 (A9 G6) (.maps k3 (A9 G5) (.cons k4 (D7 F4) .nil))))) hk
 simp only [List.nil_append,List.append_nil]
 exact ⟨P8 e0,D7 hc.pa⟩
theorem dcx_w {f:Nat} {avs:List AV} {q q':Sw} {t t':WS} {o w d m s:Nat} {h:Hp} {r:AV} {K:AV→Up→List Nat→Prop} (hc:K3 f avs q t r q' t')
  (g0:lk h.l o=some (.cells (stC s w d m q))) (g1:lk h.l w=some (.maps (encW pgE t.W))) (g2:lk h.l d=some (.maps (encW byE t.D))) (g3:lk h.l m=some (.maps (encW nuE t.H))) (g4:lk h.l s=some (.cells q.s.a))
  (hd:AY9 [o,w,d,m,s]=true) (hnx':[o,w,d,m,s].contains h.next=false)
  (hk:K r [(o,some (.cells (stC s w d m q'))),(w,some (.maps (encW pgE t'.W))),(d,some (.maps (encW byE t'.D))),(m,some (.maps (encW nuE t'.H))),(s,some (.cells q'.s.a))] [o,w,d,m,s]):AH4 Try.prog G0 f (.ptr o 0::avs) h K:=by
 have hnx:h.next ∉ [o,w,d,m,s]:=fun hm=>by rw [List.contains_eq_mem,decide_eq_false_iff_not] at hnx';exact hnx' hm
 have e0:enter [o,w,d,m,s] o 0:=rfl
 have e1:enter [o,w,d,m,s] w 1:=rfl
 have e2:enter [o,w,d,m,s] d 2:=rfl
 have e3:enter [o,w,d,m,s] m 3:=rfl
 have e4:enter [o,w,d,m,s] s 4:=rfl
 have k0:L6 [o,w,d,m,s] 0 o:=rfl
 have k1:L6 [o,w,d,m,s] 1 w:=rfl
 have k2:L6 [o,w,d,m,s] 2 d:=rfl
 have k3:L6 [o,w,d,m,s] 3 m:=rfl
 have k4:L6 [o,w,d,m,s] 4 s:=rfl
 refine Ak1 (l1:=stN q' t' o w d m s) [o,w,d,m,s] hc.out H8 hd
  (.cons e0 g0 (AE8 e4 e1 e2 e3) (.maps e1 g1 (A9 F9) (.maps e2 g2 (A9 G6) (.maps e3 g3 (A9 G5) (.cons e4 g4 (D7 F4) .nil)))))
  hnx ?_ ?_ ⟨P8 e0,D7 hc.pa⟩ (F3 hc.pr)
  (.cons k0 (AE8 k4 k1 k2 k3) (.maps k1 (A9 F9) (.maps k2 (A9 G6) (.maps k3 (A9 G5) (.cons k4 (D7 F4) .nil))))) hk
 ·intro x hx
  simp only [stN,lk]
  repeat' split
  all_goals first|exact ⟨_,rfl⟩|(exfalso;simp only [List.mem_cons,List.not_mem_nil,or_false] at hx;omega)
 ·intro j x hx
  have : j < 5:=(List.getElem?_eq_some_iff.1 hx).1
  simp only [stN,lk]
  repeat' split
  all_goals first|exact ⟨_,rfl⟩|(exfalso;omega)
end Go.Proofs.Ytbhgfoikbkaohaa.Sh
namespace Go.Am
section
variable {α:Type} {f:α→List AV} {L:List α} {d i:Nat} {r:List (Nat × AObj)}
theorem lk_tN (hz:L.length=0):lk (AV7 d f L++r) i=lk r i:=by rw [AU0 hz];rfl
theorem lk_tA {r':List (Nat × AObj)} (h:i ≠ d):lk (r'++AV7 d f L) i=lk r' i:=by
 by_cases hz:L.length=0
 ·rw [AU0 hz,List.append_nil]
 ·rw [AU1 hz]
  induction r' with
  | nil=>simp [lk,h]
  | cons p r' ih=>obtain ⟨j,o⟩:=p;simp only [List.cons_append,lk];rw [ih]
theorem BS2 (h:i ≠ d):lk (AV7 d f L) i=none:=by
 have:=lk_tA (f:=f) (L:=L) (r':=[]) h
 exact this
end
section
variable {P:Program} {σ:Nat→Nat} {h h':Hp} {ks:List Nat} {r:List (Nat × AObj)} {α:Type} {f:α→List AV} {L:List α} {i n:Nat}
end
end Go.Am
namespace Go.Am
section
variable {P:Program} {G:Gl}
end
theorem appx_q {qa qb:Prop} {α:Type} {L:List α} {l:List (Nat × AObj)} {nx sz bytes d:Nat} {x:AV} {k:AV→Up→List Nat→Prop} (hq:Y5 ((L.length=0→qa)∧(L.length ≠ 0→qb))) (h:Y5 (L.length=0→qa)→Y5 (L.length ≠ 0→qb)→AppX l nx sz bytes (Al6 d sz L.length) x k):AppX l nx sz bytes (Al6 d sz L.length) x k:=h ⟨hq.out.1⟩ ⟨hq.out.2⟩
end Go.Am
namespace Go.Proofs.Ytbhgfoikbkaohaa
open Go Go.Am Go.Pol
theorem ppx_Ti {p:Prop} (h:p:=by ((first|with_reducible assumption|(with_reducible first|apply N7 _|apply X7 N7|apply X7 An1|apply An1|apply D6|apply AI6|apply E8 D6|apply AF7 D6|apply Ab5|apply F4|apply E8 hP|fail)|exact ppw|fail);first|done|fail)):p:=h
open Go.Proofs.Ytbhgfoikbkaohaa renaming plx_Sd → plx
open Go.Proofs.Ytbhgfoikbkaohaa renaming ppx_Ti → ppx
section
variable {K:Nat→Int} {M:Nat→Bool} {B:Nat→Nat→Int} {P:List AV}
end
end Go.Proofs.Ytbhgfoikbkaohaa
namespace Go.Pol
open Go.Am
theorem AV8:∀ {vs cs pre:List AV},cs.length=vs.length→over (pre++cs) pre.length vs=pre++vs
 | [],cs,pre,h=>by
  have : cs=[]:=List.eq_nil_of_length_eq_zero (by simpa using h)
  subst this;rfl
 | v::vs,[],pre,h=>by simp at h
 | v::vs,c::cs,pre,h=>by
  show over ((pre++c::cs).set pre.length v) (pre.length+1) vs=_
  rw [List.set_append_right _ _ (Nat.le_refl _),Nat.sub_self,List.set_cons_zero]
  have:=AV8 (vs:=vs) (cs:=cs) (pre:=pre++[v]) (by simpa using h)
  rw [List.length_append,List.append_assoc,List.append_assoc] at this
  exact this
theorem y_take {y:List AV} (h:y.length=64):y.take 64=y:=List.take_of_length_le (by omega)
theorem over_y {y:List AV} (h:y.length=64):over (List.replicate 64 (AV.int .u8 0)) 0 y=y:=AV8 (pre:=[]) (by rw [h];rfl)
theorem over_y1 {y:List AV} {x:AV} (h:y.length=64):over (x::List.replicate 64 (AV.int .u8 0)) 1 y=x::y:=AV8 (pre:=[x]) (by rw [h];rfl)
section
variable {K:Nat→Int} {M G:Nat→Bool} {B:Nat→Nat→Int} {P:List AV} {p o:Nat}
end
end Go.Pol
namespace Go.Pol
open Go.Am Go.Proofs.Ytbhgfoikbkaohaa.Sh
def O5 (a n pg sl:Int):Prop:=0≤a∧a < 1024∧1≤n∧n≤1024 - a∧1≤pg∧pg≤256∧0≤sl∧sl≤256
instance (a n pg sl:Int):Decidable (O5 a n pg sl):=by unfold O5;infer_instance
theorem BJ6:AV.agg (List.replicate 64 (.int .u8 0))=byE fun _=>0:=by
 unfold byE bcA
 congr 1
 refine List.ext_getElem? fun i=>?_
 by_cases h:i < 64
 ·rw [List.getElem?_replicate,if_pos h,U8 h]
 ·rw [List.getElem?_eq_none (by rw [List.length_replicate];omega),List.getElem?_eq_none (by rw [l7];omega)]
theorem AM0 {x:Nat→Int}:over (List.replicate 64 (AV.int .u8 0)) 0 (bcA x)=bcA x:=AV8 (pre:=[]) (by rw [AB5];rfl)
theorem mlook_d {l:List (Nat × AObj)} {i:Nat} {z:AV} {L:List (Int × (Nat→Int))} {k:Int} {x:Nat→Int} {K:AV→Up→List Nat→Prop} (hD:(match mgI L k with|some b=>b|none=>fun _=>0)=x) (hz:z=byE fun _=>0) (h1:lk l i=some (.maps (encW byE L))) (hk:K (byE x) [] [i]):AU8 l false false [0] z (.mapr i) (.int .i64 k) K:=by
 cases hm:mgI L k with
 | none=>rw [hm] at hD;subst hD;subst hz;exact BR5 hm h1 hk
 | some b=>rw [hm] at hD;subst hD;exact Y4 hm h1 hk
theorem BR4 {l:List (Nat × AObj)} {i:Nat} {z:AV} {L:List (Int × (Nat→Int))} {k:Int} {K:AV→Up→List Nat→Prop} (hg:mgI L k=none) (hz:z=byE fun _=>0) (h1:lk l i=some (.maps (encW byE L))) (hk:K (.tup [byE fun _=>0,.bool false]) [] [i]):AU8 l true false [0] z (.mapr i) (.int .i64 k) K:=by
 subst hz;exact AO9 hg h1 hk
end Go.Pol
namespace Go.Proofs.Ytbhgfoikbkaohaa.Sh
open Go Go.Am Go.Pol
theorem plx_Sxc {p:Prop} (h:p:=by ((first|exact plw|(with_reducible first|apply U1|apply F9 _|apply G6 _|apply G5 _|apply AD5|fail)|fail);first|done|fail)):p:=h
theorem ppx_Sxc {p:Prop} (h:p:=by ((first|with_reducible assumption|(with_reducible first|apply F4|apply Ab5|apply AY2|apply AJ1|apply AZ3|fail)|exact ppw|fail);first|done|fail)):p:=h
open Go.Proofs.Ytbhgfoikbkaohaa.Sh renaming plx_Sxc → plx
open Go.Proofs.Ytbhgfoikbkaohaa.Sh renaming ppx_Sxc → ppx
theorem wx_Sxc {p q:Prop} (hq:q) (h:Y5 q→p:=by (intro hQz;((repeat' ((try (conv=>whnf));first|refine sxA ?_|refine AB0 (by rw [l7];omega) hset ?_|refine AE4 (by rw [AB5];omega) List.drop_zero (AD2 (by rw [AB5];omega) BX1 ?_)|refine ⟨AB5,?_⟩|refine AD6 (by simp only [AB5];omega) (over_self _) ?_|refine J9 hxk ?_|refine sxF ?_|refine Q7 (by assumption) rfl (by decide) ?_|refine Q7 hws rfl (by decide) ?_|refine sxH ?_|((with_reducible first|apply V4 hQz|apply V5 hQz)<;>(try intro hsp hQz))|exact hQz.out))<;>(try (conv=>whnf))))):p:=h ⟨hq⟩
theorem U1:Plain (.tup []):=F5 fun x hx=>by cases hx
theorem AD5 {f:Nat→Int}:Plain (.agg (bcA f)):=K4 AJ1
theorem Ai6 (a n pg sl:Int):J4 44 [.int .i64 a,.int .i64 n,.int .i64 pg,.int .i64 sl] (.bool (decide (O5 a n pg sl))):=by
 refine J4.mk (R8 F7 b44 H8 ⟨A8,A8,A8,A8,trivial⟩ D9 rfl ?_)
 unfold c44
 (refine wx_Sxc ?_;repeat' (first|with_reducible refine And.intro ?_ ?_|intro hsp))
 all_goals first|(exfalso;omega)|exact R4 (by first|exact decide_eq_decide.2 (by unfold O5;omega)|exact (decide_eq_true (show O5 a n pg sl by unfold O5;omega)).symm|exact (decide_eq_false (show ¬ O5 a n pg sl by unfold O5;omega)).symm)
section
variable {q:Sw} {t:WS}
theorem w_is:K3 30 [] q t (.bool true) q t:=by
 refine K3.mk (G7 F7 b30 rfl ?_) (fun x hx=>by cases hx) D9
 unfold c30
 unfold stN stC
 (refine wx_Sxc ?_;repeat' (first|with_reducible refine And.intro ?_ ?_|intro hsp))
 all_goals exact J3 rfl D9 rfl rfl rfl rfl rfl
theorem Am3 (hp:q.pg≤256) (a now:Int):K3 31 [.int .i64 a,.int .i64 now] q t (.bool (decide (q.nums a now))) q t:=by
 refine K3.mk (G7 F7 b31 rfl ?_) (fun x hx=>by
  simp only [List.mem_cons,List.not_mem_nil,or_false] at hx
  rcases hx with rfl|rfl<;>exact A8) D9
 unfold c31
 unfold stN stC
 (refine wx_Sxc ?_;repeat' (first|with_reducible refine And.intro ?_ ?_|intro hsp))
 all_goals first|(exfalso;omega)|exact J3 (by first|exact congrArg AV.bool (decide_eq_decide.2 (by unfold Sw.nums;omega))|exact congrArg AV.bool (decide_eq_true (show q.nums a now by unfold Sw.nums;omega)).symm|exact congrArg AV.bool (decide_eq_false (show ¬ q.nums a now by unfold Sw.nums;omega)).symm) D9 rfl rfl rfl rfl rfl
theorem w_get {f:Nat} (hf:f < 1024) (hk:q.s.K f=2):K3 66 [.int .i64 (f:Nat)] q t (.agg (bcA (q.s.B f))) q t:=by
 refine K3.mk (G7 F7 b66 rfl ?_) (fun x hx=>by obtain rfl:=List.mem_singleton.1 hx;exact A8) AD5
 unfold c66
 unfold stN stC
 rw [← rdK_0 (f:=q.s.B f)]
 (refine wx_Sxc ?_;repeat' (first|with_reducible refine And.intro ?_ ?_|intro hsp))
 (refine U9 [0,1,4] (fun (k:Nat)=>[(6,.int .i64 (k:Nat))]) (fun (k:Nat)=>⟨stN q t 0 1 2 3 4++[(5,.cells (memA 64 (rdK (q.s.B f) k)))],6⟩) (fun (k:Nat)=>k≤64) (fun (k:Nat)=>64 - k) (0) [] rfl (fun _=>by first|exact Nat.zero_le _|(dsimp only;omega)) ?_ (by ((try (conv=>whnf));exact AA5)) ?_)
 ·exact Nat.zero_le _
 intro k hkk
 by_cases hkl:k < 64
 ·have c1:=p_read (s:=q.s) (a:=(f:Int) * 64+(k:Nat))
  rw [read_at hk hf hkl] at c1
  dsimp only at c1
  have hset:=rdK_s (f:=q.s.B f) hkl
  unfold stN stC
  generalize q.s.B f k=y at *
  (refine wx_Sxc ?_;repeat' (first|with_reducible refine And.intro ?_ ?_|intro hsp))
  all_goals exact J8 (k+1) [] (by (try dsimp only);omega) (by first|omega|(dsimp only;omega)) rfl (by exact AA5)
 ·obtain rfl:k=64:=by omega
  rw [rdK_all]
  unfold stN stC
  (refine wx_Sxc ?_;repeat' (first|with_reducible refine And.intro ?_ ?_|intro hsp))
  all_goals exact J3 rfl AD5 rfl rfl rfl rfl rfl
theorem w_set (hg:GoodS q.s) {f:Nat} (hf:f < 1024) (hk:q.s.K f=2) (x:Nat→Int):K3 54 [.int .i64 (f:Nat),.agg (bcA x)] q t (.tup []) { q with s:=q.s.page f x } t:=by
 refine K3.mk (G7 F7 b54 rfl ?_) (fun y hy=>by
  simp only [List.mem_cons,List.not_mem_nil,or_false] at hy
  rcases hy with rfl|rfl
  ·exact A8
  ·exact AD5) U1
 unfold c54
 unfold stN stC
 (refine wx_Sxc ?_;repeat' (first|with_reducible refine And.intro ?_ ?_|intro hsp))
 have hw0:=wrK_0 (s:=q.s) (f:=f) (x:=x)
 (refine U9 [0,1,8] (fun (k:Nat)=>[(9,.int .i64 (k:Nat))]) (fun (k:Nat)=>⟨stN { q with s:=wrK q.s f x k } t 0 1 2 3 4,5⟩) (fun (k:Nat)=>k≤64) (fun (k:Nat)=>64 - k) (0) [] rfl (fun _=>by first|exact Nat.zero_le _|(dsimp only;omega)) ?_ (by ((try (conv=>whnf));(rw [hw0]);exact AA5)) ?_)
 ·exact Nat.zero_le _
 intro k hkk
 by_cases hkl:k < 64
 ·have hws:=BR1 (s:=wrK q.s f x k) (a:=(f:Int) * 64+(k:Nat)) (b:=x k)
  rw [wrK_s hk hf hkl] at hws
  dsimp only at hws
  have hxk:(bcA x)[k]? = some (.int .u8 (x k)):=U8 hkl
  unfold stN stC
  dsimp only
  (refine wx_Sxc ?_;repeat' (first|with_reducible refine And.intro ?_ ?_|intro hsp))
  all_goals exact J8 (k+1) [] (by (try dsimp only);omega) (by first|omega|(dsimp only;omega)) rfl (by exact AA5)
 ·obtain rfl:k=64:=by omega
  rw [wrK_all hg]
  unfold stN stC
  dsimp only
  (refine wx_Sxc ?_;repeat' (first|with_reducible refine And.intro ?_ ?_|intro hsp))
  all_goals exact J3 (q:={ q with s:=q.s.page f x }) rfl U1 rfl rfl rfl rfl rfl
end
end Go.Proofs.Ytbhgfoikbkaohaa.Sh
