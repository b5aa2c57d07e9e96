/-
 A store of pages in frames and slots,plain: what pages have.
 A store of pages in frames and slots,plain: reads,writes,pages put out or freed.
 A store of pages in frames and slots,plain: Out,Free;any call;bytes (SwapBytes,SwapKeeps).
 A store of pages in frames and slots,plain: with more frames no more pages are brought in (SwapFewer).
 A store of pages in frames and slots,plain: two stores (SwapFewer).
 A store of pages in frames and slots,plain: victims (SwapVictims);counts (SwapFits).
 A store of pages in frames and slots,plain: all pages are freed (SwapFits' end);a new store.
 A store of pages in frames and slots,plain: pages outside of it;a new one;slots that are held.
 A store: its memory,and contracts over it.
 Several slices of their own that grow: they stand one behind the other at the heap's end. No program in sight.
 A call that makes one block,in a region that draws its order;a call that reads alone. No program in sight.
 The runs of the program: its iterator,collected.
 Pages' bytes as wholes: compared,written,read.
 A store's inner calls: is,stated,numbers,the bytes of a frame.
 A store's inner calls: the first free frame,the first slot.
-/
import Derived.Test.YtbhgfoikbkaohaaQam
set_option linter.unusedSimpArgs false
set_option linter.unusedVariables false
set_option maxHeartbeats 800000
namespace Go.Pol
open Go.Am Go.Proofs.Ytbhgfoikbkaohaa.Sh
section
variable {w:Sw}
def Sw.hs (w:Sw) (p j:Nat):Int:=if 0≤w.F p then w.s.B (w.F p).toNat j else if 0≤w.T p then w.D (w.T p).toNat j else 0
theorem BE9 {s:Sy} {f g j:Nat} {x:Nat→Int}:(s.page f x).B g j=if g=f then (if j < 64 then x j else 0) else s.B g j:=by
 show AD7 s.B f _ g j=_
 unfold AD7
 split<;>rfl
theorem got_hs {p j:Nat} (hn:¬ 0≤w.F p):w.got p j=w.hs p j:=by
 unfold Sw.got Sw.hs
 rw [if_neg hn]
 split<;>rfl
structure TouY (w:Sw) (p:Nat) (now:Int) (q:Int × Sw):Prop where
 e:q.1=0
 fr:0≤q.2.F p
 st:q.2.Z p=now
 hs:∀ r j,j < 64→q.2.hs r j=w.hs r j
 is:∀ r,r ≠ p→(q.2.is r ↔ w.is r)
 z:∀ r,r ≠ p→q.2.Z r=w.Z r
 sz:q.2.pg=w.pg
structure TouN (w:Sw) (q:Int × Sw):Prop where
 e:q.1 ≠ 0
 same:∃ s',q.2={ w with s:=s' }∧s'.K=w.s.K∧s'.M=w.s.M∧s'.B=w.s.B∧s'.G=w.s.G
theorem AX5 (h:D7 w) {p:Nat} (now:Int):TouY w p now (w.touch p now)∨TouN w (w.touch p now):=by
 have hsp:=AK9 (w:=w) p now
 generalize w.touch p now=q at hsp
 cases hsp with
 | here h0=>exact .inl ⟨rfl,h0,C8,fun _ _ _=>rfl,fun _ _=>Iff.rfl,fun r hr=>upd_ne hr,rfl⟩
 | no f s' e hn hf hk hc he =>
  obtain ⟨f1,f2,_⟩:=Y7 hf
  have hr:=h.rng
  rw [Am8 (by omega) hk (h.kind f f1 f2).2] at hc
  split at hc
  ·cases hc;exact .inr ⟨he,_,rfl,rfl,rfl,rfl,rfl⟩
  ·cases hc;exact absurd rfl he
 | new f s' hn hf hs =>
  obtain ⟨f1,f2,f3⟩:=Y7 hf
  have hB:∀ g,g ≠ f→s'.B g=w.s.B g:=fun g hg=>by
   rcases hs with ⟨_,rfl⟩ | ⟨h1,h2⟩
   ·rfl
   ·obtain ⟨_,_,c3⟩:=comW h ⟨f1,f2⟩ h1 h2
    rw [c3,if_pos rfl];exact if_neg hg
  refine .inl ⟨rfl,?_,C8,fun r j hj=>?_,fun r hr=>?_,fun r hr=>upd_ne hr,rfl⟩
  ·show 0≤E9 w.F p (f:Nat) p
   rw [C8];omega
  ·show (if 0≤E9 w.F p (f:Nat) r then (s'.page f (w.got p)).B (E9 w.F p (f:Nat) r).toNat j else if 0≤E9 w.T p (-1) r then w.D (E9 w.T p (-1) r).toNat j else 0)=_
   by_cases e:r=p
   ·subst e
    rw [C8,if_pos (by omega),BE9,if_pos (by omega),if_pos hj,got_hs hn]
   ·rw [upd_ne e,upd_ne e]
    unfold Sw.hs
    by_cases h0:0≤w.F r
    ·have hne:(w.F r).toNat ≠ f:=fun e2=>f3 ⟨r,AC8 h h0,by omega⟩
     rw [if_pos h0,if_pos h0,BE9,if_neg hne,hB _ hne]
    ·rw [if_neg h0,if_neg h0]
  ·show (0≤E9 w.F p (f:Nat) r∨0≤E9 w.T p (-1) r) ↔ _
   rw [upd_ne hr,upd_ne hr];exact Iff.rfl
 | full hn hf hs=>exact .inr ⟨(show (5:Int) ≠ 0 by decide),w.s,rfl,rfl,rfl,rfl,rfl⟩
 | swp k v hn hf hk hv =>
  obtain ⟨v1,v2,v3⟩:=(AK8 (w:=w) w.pg).1 v hv
  obtain ⟨k1,k2⟩:=AD9 hk
  have hne:v ≠ p:=fun e=>hn (e▸v2)
  refine .inl ⟨rfl,?_,C8,fun r j hj=>?_,fun r hr=>?_,fun r hr=>upd_ne hr,rfl⟩
  ·show 0≤E9 (E9 w.F v (-1)) p ((w.F v).toNat:Nat) p
   rw [C8];omega
  ·show (if 0≤E9 (E9 w.F v (-1)) p ((w.F v).toNat:Nat) r then (w.s.page (w.F v).toNat (w.got p)).B (E9 (E9 w.F v (-1)) p ((w.F v).toNat:Nat) r).toNat j else if 0≤E9 (E9 w.T v (k:Nat)) p (-1) r then AD7 w.D k (w.s.B (w.F v).toNat) (E9 (E9 w.T v (k:Nat)) p (-1) r).toNat j else 0)=_
   by_cases e:r=p
   ·subst e
    rw [C8,if_pos (by omega),BE9,if_pos (by omega),if_pos hj,got_hs hn]
   ·rw [upd_ne e,upd_ne e]
    by_cases e2:r=v
    ·subst e2
     rw [C8,C8,if_neg (by decide),if_pos (by omega),show ((k:Nat):Int).toNat=k from rfl]
     unfold AD7 Sw.hs
     rw [if_pos rfl,if_pos v2]
    ·rw [upd_ne e2,upd_ne e2]
     unfold Sw.hs
     by_cases h0:0≤w.F r
     ·have hne2:(w.F r).toNat ≠ (w.F v).toNat:=fun e3=>e2 (h.oneF r v h0 (by omega))
      rw [if_pos h0,if_pos h0,BE9,if_neg hne2]
     ·rw [if_neg h0,if_neg h0]
      by_cases h1:0≤w.T r
      ·have hne3:(w.T r).toNat ≠ k:=fun e3=>by
        rcases k2 with k2|k2
        ·exact e (h.oneT r p h1 (by omega))
        ·exact k2 ⟨r,AM0 h h1,by omega⟩
       rw [if_pos h1,if_pos h1]
       unfold AD7
       rw [if_neg hne3]
      ·rw [if_neg h1,if_neg h1]
  ·show (0≤E9 (E9 w.F v (-1)) p ((w.F v).toNat:Nat) r∨0≤E9 (E9 w.T v (k:Nat)) p (-1) r) ↔ (0≤w.F r∨0≤w.T r)
   rw [upd_ne hr,upd_ne hr]
   by_cases e2:r=v
   ·subst e2;rw [C8,C8];omega
   ·rw [upd_ne e2,upd_ne e2]
end
end Go.Pol
namespace Go.Pol
open Go.Am Go.Proofs.Ytbhgfoikbkaohaa.Sh
section
variable {w:Sw}
theorem O8 (h:D7 w) {p:Nat} (h0:0≤w.F p):∃ f:Nat,w.F p=(f:Nat)∧w.a≤f∧f < w.a+w.n∧w.s.K f=2:=by
 rcases h.fr p with h1 | ⟨_,h2⟩
 ·omega
 ·exact h2
theorem good_B (h:D7 w) {s':Sy} (hg:GoodS s') (hK:s'.K=w.s.K) (hM:s'.M=w.s.M):D7 { w with s:=s' }:=by
 refine ⟨hg,h.rng,fun f h1 h2=>?_,h.far,fun p=>?_,h.sl,h.oneF,h.oneT,h.st,h.cnt⟩
 ·show (s'.K f=1∨s'.K f=2)∧s'.M f=false
  rw [hK,hM];exact h.kind f h1 h2
 ·show w.F p = -1∨(w.T p = -1∧∃ f:Nat,w.F p=(f:Nat)∧w.a≤f∧f < w.a+w.n∧s'.K f=2)
  rw [hK];exact h.fr p
theorem BI5 (h:D7 w) {t v:Int} (ht:0≤t) (h0:0≤w.F (t.toNat / 64)):(w.byte t v).1=0∧D7 (w.byte t v).2∧(∀ p j,j < 64→(w.byte t v).2.hs p j=if p=t.toNat / 64∧j=t.toNat % 64 then v else w.hs p j)∧∃ s',(w.byte t v).2={ w with s:=s' }∧s'.K=w.s.K:=by
 obtain ⟨f,f1,f2,f3,f4⟩:=O8 h h0
 have hr:=h.rng
 have e1:w.F (t.toNat / 64) * 64+t % 64=((f * 64+t.toNat % 64:Nat):Int):=by rw [f1];omega
 have e:w.s.write (w.F (t.toNat / 64) * 64+t % 64) v=(0,{ w.s with B:=AD7 w.s.B f (E9 (w.s.B f) (t.toNat % 64) v) }):=by
  rw [e1]
  unfold Sy.write
  rw [if_neg (by omega),show ((f * 64+t.toNat % 64:Nat):Int).toNat / 64=f by omega,if_pos f4,show ((f * 64+t.toNat % 64:Nat):Int).toNat % 64=t.toNat % 64 by omega]
 have hg:=BM5 (a:=w.F (t.toNat / 64) * 64+t % 64) (b:=v) h.good
 rw [e] at hg
 unfold Sw.byte
 rw [e]
 refine ⟨rfl,good_B h hg rfl rfl,fun p j hj=>?_,_,rfl,rfl⟩
 show (if 0≤w.F p then AD7 w.s.B f (E9 (w.s.B f) (t.toNat % 64) v) (w.F p).toNat j else if 0≤w.T p then w.D (w.T p).toNat j else 0)=_
 unfold Sw.hs
 by_cases hp:p=t.toNat / 64
 ·subst hp
  rw [if_pos h0,if_pos h0,show (w.F (t.toNat / 64)).toNat=f by omega]
  unfold AD7 E9
  rw [if_pos rfl]
  by_cases hj2:j=t.toNat % 64
  ·rw [if_pos hj2,if_pos ⟨rfl,hj2⟩]
  ·rw [if_neg hj2,if_neg fun hc=>hj2 hc.2]
 ·rw [if_neg (show ¬ (p=t.toNat / 64∧j=t.toNat % 64) from fun hc=>hp hc.1)]
  by_cases hF:0≤w.F p
  ·rw [if_pos hF,if_pos hF]
   unfold AD7
   rw [if_neg fun e2=>hp (h.oneF p _ hF (by omega))]
  ·rw [if_neg hF,if_neg hF]
theorem BO0 (h:D7 w) {t now v:Int} (he:(w.write t now v).1=0):w.nums t now∧D7 (w.write t now v).2∧(∀ p j,j < 64→(w.write t now v).2.hs p j=if p=t.toNat / 64∧j=t.toNat % 64 then v else w.hs p j):=by
 unfold Sw.write at he ⊢
 split at he
 ·exact absurd he (by decide:¬ (7:Int)=0)
 rename_i hn
 have hn2:w.nums t now:=Classical.not_not.1 hn
 rw [if_neg hn]
 obtain ⟨n1,n2,n3,n4⟩:=hn2
 have hg:=AA4 h (p:=t.toNat / 64) (now:=now) (by omega) ⟨n3,n4⟩
 rcases AX5 h (p:=t.toNat / 64) now with hy|hno
 ·rw [if_pos hy.e]
  obtain ⟨b1,b2,b3,_⟩:=BI5 (v:=v) hg n1 hy.fr
  refine ⟨⟨n1,n2,n3,n4⟩,b2,fun p j hj=>?_⟩
  rw [b3 p j hj,hy.hs p j hj]
 ·rw [if_neg hno.e] at he
  exact absurd he hno.e
theorem BG6 (h:D7 w) {f:Nat} (hf:w.a≤f∧f < w.a+w.n) (hh:¬ w.heldF f) (hk:w.s.K f=2):D7 (w.gone (f:Nat))∧(∀ p j,(w.gone (f:Nat)).hs p j=w.hs p j):=by
 have hr:=h.rng
 have hm:=(h.kind f hf.1 hf.2).2
 have hu:∀ g,w.heldF g→w.s.K g=2:=fun g hg=>by
  obtain ⟨p,_,hp⟩:=hg
  rcases h.fr p with h1 | ⟨_,g',h2,_,_,h3⟩
  ·omega
  ·rw [show g=g' by omega];exact h3
 unfold Sw.gone
 rw [Am8 (by omega) hk hm]
 split
 ·exact ⟨AR0 h (Al0 h.good) h.kind hu,fun _ _=>rfl⟩
 ·refine ⟨AR0 h (As8 h.good (by omega) (by decide) hk hm) (fun g h1 h2=>⟨?_,(h.kind g h1 h2).2⟩) fun g hg=>?_,fun p j=>?_⟩
  ·rw [AM9];split
   ·exact .inl rfl
   ·exact (h.kind g h1 h2).1
  ·rw [AM9,if_neg (show ¬ g=f from fun e=>hh (e▸hg))];exact hu g hg
  ·show (if 0≤w.F p then (w.s.turn f 1 3).B (w.F p).toNat j else if 0≤w.T p then w.D (w.T p).toNat j else 0)=w.hs p j
   unfold Sw.hs
   by_cases hF:0≤w.F p
   ·rw [if_pos hF,if_pos hF,BP9,if_neg fun e=>hh ⟨p,AC8 h hF,by omega⟩]
   ·rw [if_neg hF,if_neg hF]
end
end Go.Pol
namespace Go.Pol
open Go.Am Go.Proofs.Ytbhgfoikbkaohaa.Sh
section
variable {w:Sw}
theorem put_hs (h:D7 w) {v k:Nat} (h0:0≤w.F v) (hh:¬ w.heldT k) (q j:Nat):(w.put v k).hs q j=w.hs q j:=by
 show (if 0≤E9 w.F v (-1) q then w.s.B (E9 w.F v (-1) q).toNat j else if 0≤E9 w.T v (k:Nat) q then AD7 w.D k (w.s.B (w.F v).toNat) (E9 w.T v (k:Nat) q).toNat j else 0)=_
 unfold Sw.hs
 by_cases e:q=v
 ·subst e
  rw [C8,C8,if_neg (by decide),if_pos (by omega),if_pos h0,show ((k:Nat):Int).toNat=k from rfl]
  unfold AD7
  rw [if_pos rfl]
 ·rw [upd_ne e,upd_ne e]
  by_cases hF:0≤w.F q
  ·rw [if_pos hF,if_pos hF]
  ·rw [if_neg hF,if_neg hF]
   by_cases hT:0≤w.T q
   ·have : (w.T q).toNat ≠ k:=fun e3=>hh ⟨q,AM0 h hT,by omega⟩
    rw [if_pos hT,if_pos hT]
    unfold AD7
    rw [if_neg this]
   ·rw [if_neg hT,if_neg hT]
theorem out_yes (h:D7 w) {p:Int} (he:(w.out p).1=0):D7 (w.out p).2∧∀ q j,(w.out p).2.hs q j=w.hs q j:=by
 unfold Sw.out at he ⊢
 split at he
 ·exact absurd he (by decide:¬ (7:Int)=0)
 rename_i c1;rw [if_neg c1]
 split at he
 ·exact absurd he (by decide:¬ (4:Int)=0)
 rename_i c2;rw [if_neg c2]
 cases hk:w.slot (-1) with
 | none=>rw [hk] at he;exact absurd he (by decide:¬ (5:Int)=0)
 | some k =>
  have c1:0≤p∧p < (w.pg:Nat):=Classical.not_not.1 c1
  have h0:0≤w.F p.toNat:=by omega
  obtain ⟨k1,k2⟩:=AD9 hk
  have k2:¬ w.heldT k:=k2.resolve_left (by omega)
  obtain ⟨f,f1,f2,f3,f4⟩:=O8 h h0
  have hg:=As9 h (v:=p.toNat) (by omega) h0 k1 k2
  dsimp only
  rw [f1]
  obtain ⟨g1,g2⟩:=BG6 hg (f:=f) ⟨f2,f3⟩ (by
   rintro ⟨q,hq,e⟩
   have e:E9 w.F p.toNat (-1) q=(f:Nat):=e
   by_cases e2:q=p.toNat
   ·rw [e2,C8] at e;omega
   ·rw [upd_ne e2] at e;exact e2 (h.oneF q _ (by omega) (by omega))) f4
  exact ⟨g1,fun q j=>(g2 q j).trans (put_hs h h0 k2 q j)⟩
theorem out_no (p:Int) (he:(w.out p).1 ≠ 0):(w.out p).2=w:=by
 unfold Sw.out at he ⊢
 split
 ·rfl
 rename_i c1;rw [if_neg c1] at he
 split
 ·rfl
 rename_i c2;rw [if_neg c2] at he
 cases hk:w.slot (-1) with
 | none=>rfl
 | some k=>rw [hk] at he;exact absurd rfl he
def Sw.nowh (w:Sw) (p:Nat):Sw:={ w with F:=E9 w.F p (-1),T:=E9 w.T p (-1),Z:=E9 w.Z p 0 }
theorem good_nowh (h:D7 w) (p:Nat):D7 (w.nowh p)∧∀ q j,(w.nowh p).hs q j=if q=p then 0 else w.hs q j:=by
 refine ⟨⟨h.good,h.rng,h.kind,fun q hq=>?_,fun q=>?_,fun q=>?_,fun q r h1 h2=>?_,fun q r h1 h2=>?_,fun q=>?_,h.cnt⟩,fun q j=>?_⟩
 ·show E9 w.F p (-1) q = -1∧E9 w.T p (-1) q = -1
  by_cases e:q=p
  ·rw [e,C8,C8];exact ⟨rfl,rfl⟩
  ·rw [upd_ne e,upd_ne e];exact h.far q hq
 ·show E9 w.F p (-1) q = -1∨(E9 w.T p (-1) q = -1∧∃ f:Nat,E9 w.F p (-1) q=(f:Nat)∧w.a≤f∧f < w.a+w.n∧w.s.K f=2)
  by_cases e:q=p
  ·exact .inl (by rw [e,C8])
  ·rw [upd_ne e,upd_ne e];exact h.fr q
 ·show E9 w.T p (-1) q = -1∨(E9 w.F p (-1) q = -1∧∃ k:Nat,E9 w.T p (-1) q=(k:Nat)∧k < w.sl)
  by_cases e:q=p
  ·exact .inl (by rw [e,C8])
  ·rw [upd_ne e,upd_ne e];exact h.sl q
 ·have h1:0≤E9 w.F p (-1) q:=h1
  have h2:E9 w.F p (-1) q=E9 w.F p (-1) r:=h2
  by_cases e:q=p
  ·rw [e,C8] at h1;exact absurd h1 (by decide)
  ·rw [upd_ne e] at h1 h2
   by_cases e2:r=p
   ·rw [e2,C8] at h2;omega
   ·rw [upd_ne e2] at h2;exact h.oneF q r h1 h2
 ·have h1:0≤E9 w.T p (-1) q:=h1
  have h2:E9 w.T p (-1) q=E9 w.T p (-1) r:=h2
  by_cases e:q=p
  ·rw [e,C8] at h1;exact absurd h1 (by decide)
  ·rw [upd_ne e] at h1 h2
   by_cases e2:r=p
   ·rw [e2,C8] at h2;omega
   ·rw [upd_ne e2] at h2;exact h.oneT q r h1 h2
 ·show 0≤E9 w.Z p 0 q∧E9 w.Z p 0 q≤1000000000000
  by_cases e:q=p
  ·rw [e,C8];decide
  ·rw [upd_ne e];exact h.st q
 ·show (if 0≤E9 w.F p (-1) q then w.s.B (E9 w.F p (-1) q).toNat j else if 0≤E9 w.T p (-1) q then w.D (E9 w.T p (-1) q).toNat j else 0)=_
  by_cases e:q=p
  ·rw [e,C8,C8,if_pos rfl];rfl
  ·rw [upd_ne e,upd_ne e,if_neg e];rfl
theorem fre_yes (h:D7 w) {p:Int} (he:(w.fre p).1=0):(0≤p∧p < (w.pg:Nat))∧D7 (w.fre p).2∧∀ q j,(w.fre p).2.hs q j=if q=p.toNat then 0 else w.hs q j:=by
 unfold Sw.fre at he ⊢
 split at he
 ·exact absurd he (by decide:¬ (7:Int)=0)
 rename_i c1;rw [if_neg c1]
 split at he
 ·exact absurd he (by decide:¬ (4:Int)=0)
 rename_i c2;rw [if_neg c2]
 have c1:0≤p∧p < (w.pg:Nat):=Classical.not_not.1 c1
 obtain ⟨n1,n2⟩:=good_nowh h p.toNat
 refine ⟨c1,?_⟩
 dsimp only
 split
 ·rename_i h0
  obtain ⟨f,f1,f2,f3,f4⟩:=O8 h h0
  rw [f1]
  obtain ⟨g1,g2⟩:=BG6 n1 (f:=f) ⟨f2,f3⟩ (by
   rintro ⟨q,hq,e⟩
   have e:E9 w.F p.toNat (-1) q=(f:Nat):=e
   by_cases e2:q=p.toNat
   ·rw [e2,C8] at e;omega
   ·rw [upd_ne e2] at e;exact e2 (h.oneF q _ (by omega) (by omega))) f4
  exact ⟨g1,fun q j=>(g2 q j).trans (n2 q j)⟩
 ·exact ⟨n1,n2⟩
theorem fre_no (p:Int) (he:(w.fre p).1 ≠ 0):(w.fre p).2=w:=by
 unfold Sw.fre at he ⊢
 split
 ·rfl
 rename_i c1;rw [if_neg c1] at he
 split
 ·rfl
 rename_i c2;rw [if_neg c2] at he
 exact absurd rfl he
def Sw.call (w:Sw) (k:Nat) (t now v p:Int) (l:List Rl):Int × Sw :=
 if k < 6 then w.write t now v else if k < 10 then (w.read t now).2 else if k=10 then w.out p else if k=11 then w.fre p else
 if k=13 then ((w.s.plan l).1,{ w with s:=(w.s.plan l).2 }) else (0,w)
theorem planW (h:D7 w) (l:List Rl):D7 { w with s:=(w.s.plan l).2 }:=good_B h (At0 h.good) plan_K plan_M
end
end Go.Pol
namespace Go.Pol
open Go.Am Go.Proofs.Ytbhgfoikbkaohaa.Sh
theorem BG9 {α:Type} {p:α→Bool} {l:List α} (hn:l.Nodup) (h:∀ x ∈ l,∀ y ∈ l,p x=true→p y=true→x=y):(l.filter p).length≤1:=by
 have h2:(l.filter p).Nodup:=hn.sublist List.filter_sublist
 have h3:∀ x ∈ l.filter p,∀ y ∈ l.filter p,x=y:=fun x hx y hy=>h x (List.mem_filter.1 hx).1 y (List.mem_filter.1 hy).1 (List.mem_filter.1 hx).2 (List.mem_filter.1 hy).2
 generalize l.filter p=M at *
 match M,h2,h3 with
 | [],_,_=>exact Nat.zero_le _
 | [_],_,_=>exact Nat.le_refl _
 | x::y::M,h2,h3 =>
  have:=h3 x (List.mem_cons_self ..) y (List.mem_cons_of_mem _ (List.mem_cons_self ..))
  rw [List.nodup_cons] at h2
  exact absurd (this▸List.mem_cons_self ..) h2.1
section
variable {w:Sw}
def Sw.inN (w:Sw):Nat:=((List.range w.pg).filter fun p=>decide (0≤w.F p)).length
def Sw.outN (w:Sw):Nat:=((List.range w.pg).filter fun p=>decide (0≤w.T p)).length
theorem in_sum (h:D7 w):w.inN=BC9 (fun i=>(((List.range w.pg).filter fun p=>decide (0≤w.F p)).filter fun p=>decide ((w.F p).toNat - w.a=i)).length) w.n:=by
 rw [BQ6]
 ·rfl
 ·intro p hp
  have h0:0≤w.F p:=by simpa using (List.mem_filter.1 hp).2
  obtain ⟨f,f1,f2,f3,_⟩:=O8 h h0
  omega
structure Lru (w:Sw) (now:Int):Prop where
 good:D7 w
 l:w.s.l=[]
 sl:w.sl=256
 up:∀ p q,0≤w.F p→w.is q→w.Z p < w.Z q→0≤w.F q
 dist:∀ p q,w.is p→w.is q→w.Z p=w.Z q→p=q
 fresh:∀ p,w.is p→w.Z p < now
 full:∀ p,w.is p→¬ 0≤w.F p→w.free=none
end
end Go.Pol
namespace Go.Pol
open Go.Am Go.Proofs.Ytbhgfoikbkaohaa.Sh
section
variable {t u:Sw} {now:Int}
end
end Go.Pol
namespace Go.Pol
open Go.Am Go.Proofs.Ytbhgfoikbkaohaa.Sh
section
variable {w:Sw}
def Sw.idle (w:Sw):Nat:=((List.range' w.a w.n).filter fun f=>decide (w.s.K f=2∧¬ w.heldF f)).length
def OutW (w:Sw):Prop:=∀ p,¬ (w.a≤p∧p < w.a+w.n)→w.s.K p=0
theorem heldK (h:D7 w) {f:Nat} (hf:w.heldF f):w.s.K f=2:=by
 obtain ⟨p,_,hp⟩:=hf
 rcases h.fr p with h1 | ⟨_,g',h2,_,_,h3⟩
 ·omega
 ·rw [show f=g' by omega];exact h3
theorem in_held (h:D7 w):w.inN=((List.range' w.a w.n).filter fun f=>decide (w.heldF f)).length:=by
 rw [in_sum h,Aa9]
 refine Ap3 fun i hi=>?_
 by_cases hh:w.heldF (w.a+i)
 ·rw [if_pos (by simpa using hh)]
  refine Nat.le_antisymm (BG9 (List.nodup_range.sublist List.filter_sublist) fun x hx y hy e1 e2=>?_) ?_
  ·have hx0:0≤w.F x:=by simpa using (List.mem_filter.1 hx).2
   have hy0:0≤w.F y:=by simpa using (List.mem_filter.1 hy).2
   have e1:(w.F x).toNat - w.a=i:=by simpa using e1
   have e2:(w.F y).toNat - w.a=i:=by simpa using e2
   obtain ⟨f,f1,f2,f3,_⟩:=O8 h hx0
   obtain ⟨g,g1,g2,g3,_⟩:=O8 h hy0
   exact h.oneF x y hx0 (by omega)
  ·obtain ⟨p,hp,e⟩:=hh
   refine List.length_pos_of_mem (a:=p) (List.mem_filter.2 ⟨List.mem_filter.2 ⟨List.mem_range.2 hp,?_⟩,?_⟩)
   ·simp;omega
   ·simp;omega
 ·rw [if_neg (by simpa using hh)]
  refine AG6 fun p hp=>?_
  rw [List.mem_filter] at hp
  have h0:0≤w.F p:=by simpa using hp.2
  obtain ⟨f,f1,f2,f3,_⟩:=O8 h h0
  rw [decide_eq_false_iff_not]
  intro e
  exact hh ⟨p,List.mem_range.1 hp.1,by omega⟩
theorem fitsW (h:D7 w) (ho:OutW w):AA2 w.s.K 2 1024=w.inN+w.idle∧AA2 w.s.K 1 1024+(w.inN+w.idle)=w.n:=by
 have hr:=h.rng
 have key:∀ v:Int,v ≠ 0→AA2 w.s.K v 1024=((List.range' w.a w.n).filter fun p=>decide (w.s.K p=v)).length:=fun v hv=>by
  rw [BI2,range_split hr.2.1,List.filter_append,List.filter_append,List.length_append,List.length_append,AG6 (l:=List.range' 0 w.a),AG6 (l:=List.range' (w.a+w.n) _)]
  ·omega
  ·intro f hf
   rw [List.mem_range'_1] at hf
   rw [ho f (by omega)];simpa using Ne.symm hv
  ·intro f hf
   rw [List.mem_range'_1] at hf
   rw [ho f (by omega)];simpa using Ne.symm hv
 have e2:AA2 w.s.K 2 1024=w.inN+w.idle:=by
  rw [key 2 (by decide),in_held h]
  refine Ac8 fun f _=>?_
  simp only [decide_eq_true_eq]
  refine ⟨⟨fun hk=>?_,fun hk=>?_⟩,fun hc=>hc.2.2 hc.1⟩
  ·by_cases hh:w.heldF f
   ·exact .inl hh
   ·exact .inr ⟨hk,hh⟩
  ·rcases hk with hk|hk
   ·exact heldK h hk
   ·exact hk.1
 refine ⟨e2,?_⟩
 rw [← e2,key 1 (by decide),key 2 (by decide)]
 have:=Ac8 (l:=List.range' w.a w.n) (p:=fun p=>decide (w.s.K p=1)) (q:=fun p=>decide (w.s.K p=2)) (r:=fun _=>true) fun f hf=>by
  rw [List.mem_range'_1] at hf
  have:=(h.kind f hf.1 hf.2).1
  simp only [decide_eq_true_eq]
  exact ⟨⟨fun _=>this,fun _=>trivial⟩,fun h2=>by omega⟩
 rw [← this,List.filter_eq_self.2 fun _ _=>rfl,List.length_range']
end
end Go.Pol
namespace Go.Pol
open Go.Am Go.Proofs.Ytbhgfoikbkaohaa.Sh
section
variable {w:Sw}
theorem fre_K (h:D7 w) (hl:w.s.l=[]) {p:Nat} (hp:p < w.pg):(w.fre (p:Nat)).2.F p < 0∧(w.fre (p:Nat)).2.T p < 0∧(∀ q,q ≠ p→(w.fre (p:Nat)).2.F q=w.F q∧(w.fre (p:Nat)).2.T q=w.T q)∧(w.fre (p:Nat)).2.s.l=[]∧(∀ f,(w.fre (p:Nat)).2.s.K f=if w.F p=(f:Nat) then 1 else w.s.K f)∧(w.fre (p:Nat)).2.a=w.a∧(w.fre (p:Nat)).2.n=w.n∧(w.fre (p:Nat)).2.pg=w.pg:=by
 have hFT:∀ q,0≤w.F q∨w.F q = -1:=fun q=>by
  rcases h.fr q with h1 | ⟨_,f,h2,_⟩<;>omega
 unfold Sw.fre
 rw [if_neg (show ¬ ¬ (0≤((p:Nat):Int)∧((p:Nat):Int) < (w.pg:Nat)) from fun hc=>hc ⟨by omega,by omega⟩),show ((p:Nat):Int).toNat=p from rfl]
 by_cases hi:w.is p
 ·rw [if_neg (show ¬ ¬ w.is p from fun hc=>hc hi)]
  dsimp only
  by_cases h0:0≤w.F p
  ·rw [if_pos h0]
   obtain ⟨f,f1,f2,f3,f4⟩:=O8 h h0
   have hr:=h.rng
   have hc:w.s.chg (w.F p) 1 2 1 3=(0,w.s.turn f 1 3):=by rw [f1,Am8 (by omega) f4 (h.kind f f2 f3).2,hl,isR_nilE];rfl
   unfold Sw.gone
   dsimp only
   rw [hc]
   refine ⟨by rw [C8];decide,by rw [C8];decide,fun q hq=>⟨upd_ne hq,upd_ne hq⟩,hl,fun g=>?_,rfl,rfl,rfl⟩
   show (w.s.turn f 1 3).K g=_
   rw [AM9,f1]
   by_cases e:g=f
   ·rw [if_pos e,if_pos (by omega)]
   ·rw [if_neg e,if_neg (by omega)]
  ·rw [if_neg h0]
   refine ⟨by show E9 w.F p (-1) p < 0;rw [C8];decide,by show E9 w.T p (-1) p < 0;rw [C8];decide,fun q hq=>⟨upd_ne hq,upd_ne hq⟩,hl,fun g=>?_,rfl,rfl,rfl⟩
   rw [if_neg (by omega)]
 ·rw [if_pos hi]
  unfold Sw.is at hi
  refine ⟨by show w.F p < 0;omega,by show w.T p < 0;omega,fun q _=>⟨rfl,rfl⟩,hl,fun g=>?_,rfl,rfl,rfl⟩
  show w.s.K g=_
  rw [if_neg (by omega)]
def Sw.fres (w:Sw):Nat→Sw
 | 0=>w
 | m+1=>((w.fres m).fre (m:Nat)).2
theorem Al2 (h:D7 w) (p:Int):D7 (w.fre p).2:=by
 by_cases he:(w.fre p).1=0
 ·exact (fre_yes h he).2.1
 ·rw [fre_no p he];exact h
theorem AY6 (h:D7 w) (hl:w.s.l=[]):∀ m,m≤w.pg→D7 (w.fres m)∧(w.fres m).s.l=[]∧(w.fres m).a=w.a∧(w.fres m).n=w.n∧(w.fres m).pg=w.pg∧(∀ q,q < m→(w.fres m).F q < 0∧(w.fres m).T q < 0)∧(∀ q,m≤q→(w.fres m).F q=w.F q∧(w.fres m).T q=w.T q)∧∀ f,(w.fres m).s.K f=if ∃ q,q < m∧w.F q=(f:Nat) then 1 else w.s.K f
 | 0,_=>⟨h,hl,rfl,rfl,rfl,fun q hq=>by omega,fun q _=>⟨rfl,rfl⟩,fun f=>by
  rw [if_neg]
  ·rfl
  ·rintro ⟨q,hq,_⟩;omega⟩
 | m+1,hm=>by
  obtain ⟨i1,i2,i3,i4,i5,i6,i7,i8⟩:=AY6 h hl m (by omega)
  obtain ⟨f1,f2,f3,f4,f5,f6,f7,f8⟩:=fre_K i1 i2 (p:=m) (by omega)
  refine ⟨Al2 i1 (m:Nat),f4,f6.trans i3,f7.trans i4,f8.trans i5,fun q hq=>?_,fun q hq=>?_,fun f=>?_⟩
  ·by_cases e:q=m
   ·rw [e];exact ⟨f1,f2⟩
   ·show ((w.fres m).fre (m:Nat)).2.F q < 0∧((w.fres m).fre (m:Nat)).2.T q < 0
    rw [(f3 q e).1,(f3 q e).2];exact i6 q (by omega)
  ·show ((w.fres m).fre (m:Nat)).2.F q=w.F q∧((w.fres m).fre (m:Nat)).2.T q=w.T q
   rw [(f3 q (by omega)).1,(f3 q (by omega)).2];exact i7 q (by omega)
  ·show ((w.fres m).fre (m:Nat)).2.s.K f=_
   rw [f5,i8,(i7 m (Nat.le_refl _)).1]
   by_cases e:w.F m=(f:Nat)
   ·rw [if_pos e,if_pos ⟨m,by omega,e⟩]
   ·rw [if_neg e]
    by_cases e2:∃ q,q < m∧w.F q=(f:Nat)
    ·obtain ⟨q,q1,q2⟩:=e2
     rw [if_pos ⟨q,q1,q2⟩,if_pos ⟨q,by omega,q2⟩]
    ·rw [if_neg e2,if_neg]
     rintro ⟨q,q1,q2⟩
     by_cases e3:q=m
     ·exact e (e3▸q2)
     ·exact e2 ⟨q,by omega,q2⟩
end
end Go.Pol
namespace Go.Pol
open Go.Am Go.Proofs.Ytbhgfoikbkaohaa.Sh
section
variable {w:Sw}
def KinW (w w':Sw):Prop:=w'.a=w.a∧w'.n=w.n∧∀ p,¬ (w.a≤p∧p < w.a+w.n)→w'.s.K p=w.s.K p
theorem BW7 {w':Sw} (h:KinW w w') (ho:OutW w):OutW w':=fun p hp=>by
 rw [h.1,h.2.1] at hp
 rw [h.2.2 p hp];exact ho p hp
theorem X4:KinW w w:=⟨rfl,rfl,fun _ _=>rfl⟩
theorem Am9 {s:Sy} {f p:Nat} {v x:Int} {k:Nat} (h:p ≠ f):(s.chg (f:Nat) 1 v x k).2.K p=s.K p:=by
 unfold Sy.chg
 split
 ·rfl
 ·split
  ·split
   ·rfl
   ·show AV6 s.K _ _ x p=_
    unfold AV6
    rw [if_neg]
    rintro ⟨h1,h2⟩
    have h1:f≤p:=h1
    have h2:p < f+1:=h2
    omega
  ·rfl
theorem BG2 (h:D7 w) {p:Nat} (h0:0≤w.F p) {w1:Sw} (h1:w1.a=w.a∧w1.n=w.n∧w1.s=w.s):KinW w (w1.gone (w.F p)):=by
 obtain ⟨f,f1,f2,f3,_⟩:=O8 h h0
 refine ⟨h1.1,h1.2.1,fun q hq=>?_⟩
 show (w1.s.chg (w.F p) 1 2 1 3).2.K q=_
 rw [f1,h1.2.2]
 exact Am9 (by omega)
theorem Ab8 (h:D7 w) (p:Nat) (now:Int):KinW w (w.touch p now).2:=by
 have hsp:=AK9 (w:=w) p now
 generalize w.touch p now=r at hsp
 cases hsp with
 | here h0=>exact X4
 | no f s' e hn hf hk hc he =>
  obtain ⟨f1,f2,_⟩:=Y7 hf
  refine ⟨rfl,rfl,fun q hq=>?_⟩
  have : s'=(w.s.chg (f:Nat) 1 1 2 2).2:=by rw [hc]
  show s'.K q=_
  rw [this];exact Am9 (by omega)
 | new f s' hn hf hs =>
  obtain ⟨f1,f2,_⟩:=Y7 hf
  refine ⟨rfl,rfl,fun q hq=>?_⟩
  show s'.K q=_
  rcases hs with ⟨_,rfl⟩ | ⟨_,h2⟩
  ·rfl
  ·have : s'=(w.s.chg (f:Nat) 1 1 2 2).2:=by rw [h2]
   rw [this];exact Am9 (by omega)
 | full hn hf hs=>exact X4
 | swp k v hn hf hk hv=>exact ⟨rfl,rfl,fun _ _=>rfl⟩
theorem BW6 (h:D7 w) (t now v:Int):KinW w (w.write t now v).2:=by
 unfold Sw.write
 split
 ·exact X4
 ·have hk:=Ab8 h (t.toNat / 64) now
  split
  ·refine ⟨hk.1,hk.2.1,fun q hq=>?_⟩
   show (((w.touch (t.toNat / 64) now).2.s.write _ v).2).K q=_
   rw [write_Kp];exact hk.2.2 q hq
  ·exact hk
theorem kin_read (h:D7 w) (t now:Int):KinW w (w.read t now).2.2:=by
 unfold Sw.read
 split
 ·exact X4
 split
 ·exact X4
 split
 ·exact Ab8 h _ now
 ·exact Ab8 h _ now
theorem kin_outW (h:D7 w) (p:Int):KinW w (w.out p).2:=by
 unfold Sw.out
 split
 ·exact X4
 split
 ·exact X4
 cases w.slot (-1) with
 | none=>exact X4
 | some k=>exact BG2 h (by omega) ⟨rfl,rfl,rfl⟩
theorem BW8 (h:D7 w) (p:Int):KinW w (w.fre p).2:=by
 unfold Sw.fre
 split
 ·exact X4
 split
 ·exact X4
 ·dsimp only
  split
  ·rename_i h0;exact BG2 h h0 ⟨rfl,rfl,rfl⟩
  ·exact ⟨rfl,rfl,fun _ _=>rfl⟩
theorem callW_kin (h:D7 w) (k:Nat) (t now v p:Int) (l:List Rl):KinW w (w.call k t now v p l).2:=by
 unfold Sw.call
 split
 ·exact BW6 h t now v
 split
 ·exact kin_read h t now
 split
 ·exact kin_outW h p
 split
 ·exact BW8 h p
 split
 ·refine ⟨rfl,rfl,fun q _=>?_⟩
  show (w.s.plan l).2.K q=_
  rw [plan_K]
 ·exact X4
theorem Ar8 {l:List Rl} {a n:Int} {pg sl:Nat} (hc:(AF3 l).2=0) (hi:0≤a∧1≤n∧a+n≤1024) (hp:1≤pg∧pg≤256∧sl≤256) (he:((Sy.new l).chg a n 0 1 0).1=0) (b:Sw) (hb:b=⟨a.toNat,n.toNat,pg,sl,fun _=>-1,fun _=>-1,fun _=>0,fun _ _=>0,0,0,((Sy.new l).chg a n 0 1 0).2⟩):D7 b∧OutW b∧(∀ p j,b.hs p j=0)∧(l=[]→sl=256→Lru b 1):=by
 obtain ⟨k1,k2,k3,k4⟩:=new_chg he
 subst hb
 have hg:D7 ⟨a.toNat,n.toNat,pg,sl,fun _=>-1,fun _=>-1,fun _=>0,fun _ _=>0,0,0,((Sy.new l).chg a n 0 1 0).2⟩:=by
  refine ⟨good_chg (Al1 hc) (by decide),⟨by show 1≤n.toNat;omega,by show a.toNat+n.toNat≤1024;omega,hp.1,hp.2.1,hp.2.2⟩,fun f h1 h2=>⟨.inl ?_,k2 f⟩,fun _ _=>⟨rfl,rfl⟩,fun _=>.inl rfl,fun _=>.inl rfl,fun p q h1=>absurd h1 (show ¬ (0:Int) ≤ -1 by decide),fun p q h1=>absurd h1 (show ¬ (0:Int) ≤ -1 by decide),fun _=>(show (0:Int)≤0∧(0:Int)≤1000000000000 by decide),(show (0:Int)≤0∧(0:Int)≤1000000000∧(0:Int)≤0∧(0:Int)≤1000000000 by decide)⟩
  show ((Sy.new l).chg a n 0 1 0).2.K f=1
  rw [k1,if_pos ⟨h1,h2⟩]
 have hno:∀ p,¬ Sw.is ⟨a.toNat,n.toNat,pg,sl,fun _=>-1,fun _=>-1,fun _=>0,fun _ _=>0,0,0,((Sy.new l).chg a n 0 1 0).2⟩ p:=fun p h=>by
  rcases h with h|h
  ·exact absurd h (show ¬ (0:Int) ≤ -1 by decide)
  ·exact absurd h (show ¬ (0:Int) ≤ -1 by decide)
 refine ⟨hg,fun p hp=>?_,fun p j=>rfl,fun hl hs=>⟨hg,k4.trans hl,hs,fun p q h=>absurd h (show ¬ (0:Int) ≤ -1 by decide),fun p q h=>absurd h (hno p),fun p h=>absurd h (hno p),fun p h=>absurd h (hno p)⟩⟩
 show ((Sy.new l).chg a n 0 1 0).2.K p=0
 rw [k1,if_neg hp]
theorem BF3 (h:D7 w):w.outN=((List.range w.sl).filter fun k=>decide (w.heldT k)).length:=by
 have e:w.outN=BC9 (fun i=>(((List.range w.pg).filter fun p=>decide (0≤w.T p)).filter fun p=>decide ((w.T p).toNat=i)).length) w.sl:=by
  rw [BQ6]
  ·rfl
  ·intro q hq
   have h0:0≤w.T q:=by simpa using (List.mem_filter.1 hq).2
   rcases h.sl q with h1 | ⟨_,k,h2,h3⟩<;>omega
 rw [e,show List.range w.sl=List.range' 0 w.sl from List.range_eq_range',Aa9]
 refine Ap3 fun i hi=>?_
 rw [Nat.zero_add]
 by_cases hh:w.heldT i
 ·rw [if_pos (by simpa using hh)]
  refine Nat.le_antisymm (BG9 (List.nodup_range.sublist List.filter_sublist) fun x hx y hy e1 e2=>?_) ?_
  ·have hx0:0≤w.T x:=by simpa using (List.mem_filter.1 hx).2
   have hy0:0≤w.T y:=by simpa using (List.mem_filter.1 hy).2
   have e1:(w.T x).toNat=i:=by simpa using e1
   have e2:(w.T y).toNat=i:=by simpa using e2
   exact h.oneT x y hx0 (by omega)
  ·obtain ⟨p,hp,e⟩:=hh
   refine List.length_pos_of_mem (a:=p) (List.mem_filter.2 ⟨List.mem_filter.2 ⟨?_,?_⟩,?_⟩)
   ·exact List.mem_range.2 hp
   ·simp;omega
   ·simp;omega
 ·rw [if_neg (by simpa using hh)]
  refine AG6 fun p hp=>?_
  rw [List.mem_filter,List.mem_range] at hp
  have h0:0≤w.T p:=by simpa using hp.2
  rw [decide_eq_false_iff_not]
  intro e
  exact hh ⟨p,by omega,by omega⟩
end
end Go.Pol
namespace Go.Pol
open Go.Am Go.Proofs.Ytbhgfoikbkaohaa.Sh
def pgE (x:Int × Int × Int):AV:=.agg [.int .i64 x.1,.int .i64 x.2.1,.int .i64 x.2.2]
def byE (b:Nat→Int):AV:=.agg (bcA b)
def nuE (p:Int):AV:=.int .i64 p
theorem G6 (x:Int × Int × Int):Plain (pgE x):=H9 fun y hy=>by
 simp only [List.mem_cons,List.not_mem_nil,or_false] at hy
 rcases hy with rfl|rfl|rfl<;>exact A8
theorem G7 (b:Nat→Int):Plain (byE b):=H9 AD2
theorem G5 (p:Int):Plain (nuE p):=A8
structure WS where
 W:List (Int × Int × Int × Int)
 D:List (Int × (Nat→Int))
 H:List (Int × Int)
structure WOk (w:Sw) (t:WS):Prop where
 ndW:ndI t.W
 ndD:ndI t.D
 ndH:ndI t.H
 gW:∀ p:Int,mgI t.W p=if 0≤p∧w.is p.toNat then some (w.F p.toNat,w.T p.toNat,w.Z p.toNat) else none
 gD:∀ k:Int,mgI t.D k=if 0≤k∧w.heldT k.toNat then some (w.D k.toNat) else none
 gH:∀ f p:Int,mgI t.H f=some p ↔ 0≤p∧0≤f∧w.F p.toNat=f
def stC (s w d h:Nat) (q:Sw):List AV:=[.ptr s 0,.int .i64 (q.a:Nat),.int .i64 (q.n:Nat),.int .i64 (q.pg:Nat),.int .i64 (q.sl:Nat),.mapr w,.mapr d,.mapr h,.int .i64 q.ins,.int .i64 q.outs]
def stN (q:Sw) (t:WS) (o w d h s:Nat):List (Nat × AObj):=[(o,.cells (stC s w d h q)),(w,.maps (encW pgE t.W)),(d,.maps (encW byE t.D)),(h,.maps (encW nuE t.H)),(s,.cells q.s.a)]
end Go.Pol
namespace Go.Proofs.Ytbhgfoikbkaohaa.Sh
open Go Go.Am Go.Pol
structure L8 (f:Nat) (avs:List AV) (q:Sw) (t:WS) (r:AV) (q':Sw) (t':WS):Prop where
 out:AV1 Try.prog G0 f (.ptr 0 0::avs) (stN q t 0 1 2 3 4) 5 fun x h1=>x=r∧h1=⟨stN q' t' 0 1 2 3 4,5⟩
 pa:∀ x ∈ avs,Plain x
 pr:Plain r
theorem AN0 {p:Nat→Nat→Prop} {q:Sw} {s w d h s' w' d' h':Nat} (e1:p s s') (e2:p w w') (e3:p d d') (e4:p h h'):RnL p (stC s w d h q) (stC s' w' d' h' q) :=
 ⟨U5 e1,F5 A8,F5 A8,F5 A8,F5 A8,BS7 e2,BS7 e3,BS7 e4,F5 A8,F5 A8,trivial⟩
theorem BO4 {σ:Nat→Nat} {h h':Hp} {q:Sw} {t:WS} {o w d m s o' w' d' m' s':Nat} (hs:AP3 σ h h') (e0:σ o'=o) (e1:σ w'=w) (e2:σ d'=d) (e3:σ m'=m) (e4:σ s'=s) (hlt:o' < h'.next∧w' < h'.next∧d' < h'.next∧m' < h'.next∧s' < h'.next)
  (g0:lk h.l o=some (.cells (stC s w d m q))) (g1:lk h.l w=some (.maps (encW pgE t.W))) (g2:lk h.l d=some (.maps (encW byE t.D))) (g3:lk h.l m=some (.maps (encW nuE t.H))) (g4:lk h.l s=some (.cells q.s.a)) {r:List (Nat × AObj)} (hr:WkO Try.prog σ h h' r):WkO Try.prog σ h h' (stN q t o' w' d' m' s'++r):=by
 obtain ⟨l0,l1,l2,l3,l4⟩:=hlt
 refine U4 l0 (by rw [e0];exact g0) (D6 (Z8 e4 l4) (D6 (K5 rfl) (D6 (K5 rfl) (D6 (K5 rfl) (D6 (K5 rfl) (D6 (AV3 e1 l1) (D6 (AV3 e2 l2) (D6 (AV3 e3 l3) (D6 (K5 rfl) (D6 (K5 rfl) K4)))))))))) ?_
 exact J6 hs l1 (by rw [e1];exact g1) rfl (A9 G6) (J6 hs l2 (by rw [e2];exact g2) rfl (A9 G7) (J6 hs l3 (by rw [e3];exact g3) rfl (A9 G5) (I5 hs l4 (by rw [e4];exact g4) rfl F3 hr)))
theorem AZ4 {σ:Nat→Nat} {h h':Hp} {i s w d m s' w' d' m':Nat} {q:Sw} {r:List (Nat × AObj)} (h1:i < h'.next) (h2:lk h.l (σ i)=some (.cells (stC s w d m q))) (e1:σ s'=s) (l1:s' < h'.next) (e2:σ w'=w) (l2:w' < h'.next) (e3:σ d'=d) (l3:d' < h'.next) (e4:σ m'=m) (l4:m' < h'.next) (h4:WkO Try.prog σ h h' r):WkO Try.prog σ h h' ((i,.cells (stC s' w' d' m' q))::r) :=
 U4 h1 h2 (D6 (Z8 e1 l1) (D6 (K5 rfl) (D6 (K5 rfl) (D6 (K5 rfl) (D6 (K5 rfl) (D6 (AV3 e2 l2) (D6 (AV3 e3 l3) (D6 (AV3 e4 l4) (D6 (K5 rfl) (D6 (K5 rfl) K4)))))))))) h4
theorem sub_st {h:Hp} {q:Sw} {t:WS} {nx:Nat} (g0:lk h.l 0=some (.cells (stC 4 1 2 3 q))) (g1:lk h.l 1=some (.maps (encW pgE t.W))) (g2:lk h.l 2=some (.maps (encW byE t.D))) (g3:lk h.l 3=some (.maps (encW nuE t.H))) (g4:lk h.l 4=some (.cells q.s.a)):AP3 (rn []) h ⟨stN q t 0 1 2 3 4,nx⟩:=fun i o hi=>by
 simp only [stN,lk] at hi
 show ∃ o',lk h.l i=some o'
 split at hi
 ·rename_i e;subst e;exact ⟨_,g0⟩
 ·split at hi
  ·rename_i e;subst e;exact ⟨_,g1⟩
  ·split at hi
   ·rename_i e;subst e;exact ⟨_,g2⟩
   ·split at hi
    ·rename_i e;subst e;exact ⟨_,g3⟩
    ·split at hi
     ·rename_i e;subst e;exact ⟨_,g4⟩
     ·cases hi
theorem end_WW {top:Bool} {h:Hp} {N0:Nat} {x r:AV} {q:Sw} {t:WS} (hr:AP3 (rn []) h ⟨stN q t 0 1 2 3 4,5⟩→WkV Try.prog (rn []) h ⟨stN q t 0 1 2 3 4,5⟩ x r) (g0:lk h.l 0=some (.cells (stC 4 1 2 3 q))) (g1:lk h.l 1=some (.maps (encW pgE t.W))) (g2:lk h.l 2=some (.maps (encW byE t.D))) (g3:lk h.l 3=some (.maps (encW nuE t.H))) (g4:lk h.l 4=some (.cells q.s.a)) (hN0:N0≤5:=by decide) :
  AX2 top Try.prog N0 h x (fun r' h'=>r'=r∧h'=⟨stN q t 0 1 2 3 4,5⟩):=by
 have hs:AP3 (rn []) h ⟨stN q t 0 1 2 3 4,5⟩:=sub_st g0 g1 g2 g3 g4
 refine AG8 [] rfl hN0 (P6 rfl) (hr hs) ?_ ⟨rfl,rfl⟩
 have:=BO4 (o':=0) (w':=1) (d':=2) (m':=3) (s':=4) (r:=[]) hs rfl rfl rfl rfl rfl ⟨show 0 < 5 by decide,show 1 < 5 by decide,show 2 < 5 by decide,show 3 < 5 by decide,show 4 < 5 by decide⟩ g0 g1 g2 g3 g4 K3
 exact this
theorem J9 {top:Bool} {h:Hp} {N0:Nat} {x r:AV} {q:Sw} {t:WS} (hr:x=r) (hp:Plain r) (g0:lk h.l 0=some (.cells (stC 4 1 2 3 q))) (g1:lk h.l 1=some (.maps (encW pgE t.W))) (g2:lk h.l 2=some (.maps (encW byE t.D))) (g3:lk h.l 3=some (.maps (encW nuE t.H))) (g4:lk h.l 4=some (.cells q.s.a)) (hN0:N0≤5:=by decide) :
  AX2 top Try.prog N0 h x (fun r' h'=>r'=r∧h'=⟨stN q t 0 1 2 3 4,5⟩):=by
 subst hr
 exact end_WW (fun hs=>R9 hs hp) g0 g1 g2 g3 g4 hN0
theorem AM8 {f:Nat} {avs:List AV} {q q':Sw} {t t':WS} {o w d m s nx:Nat} {l:List (Nat × AObj)} {r:AV} {K:AV→Hp→Prop} (hc:L8 f avs q t r q' t')
  (g0:lk l o=some (.cells (stC s w d m q))) (g1:lk l w=some (.maps (encW pgE t.W))) (g2:lk l d=some (.maps (encW byE t.D))) (g3:lk l m=some (.maps (encW nuE t.H))) (g4:lk l s=some (.cells q.s.a))
  (hlt:o < nx∧w < nx∧d < nx∧m < nx∧s < nx) (hd:Ae5 [o,w,d,m,s]=true)
  (hk:AU1 [o,w,d,m,s] l fun l2=>K r ⟨([(o,.cells (stC s w d m q')),(w,.maps (encW pgE t'.W)),(d,.maps (encW byE t'.D)),(m,.maps (encW nuE t'.H)),(s,.cells q'.s.a)]:List (Nat × AObj))++l2,nx⟩):AH3 Try.prog G0 (.fn f [] []) (.ptr o 0::avs) ⟨l,nx⟩ K:=by
 have e0:enter [o,w,d,m,s] o 0:=rfl
 have e1:enter [o,w,d,m,s] w 1:=rfl
 have e2:enter [o,w,d,m,s] d 2:=rfl
 have e3:enter [o,w,d,m,s] m 3:=rfl
 have e4:enter [o,w,d,m,s] s 4:=rfl
 have k0:back [o,w,d,m,s] nx 0 o:=rfl
 have k1:back [o,w,d,m,s] nx 1 w:=rfl
 have k2:back [o,w,d,m,s] nx 2 d:=rfl
 have k3:back [o,w,d,m,s] nx 3 m:=rfl
 have k4:back [o,w,d,m,s] nx 4 s:=rfl
 refine AN6 (l1:=stN q' t' o w d m s) [o,w,d,m,s] hc.out I7 hd
  (.cons e0 g0 (AN0 e4 e1 e2 e3) (.maps e1 g1 (A9 G6) (.maps e2 g2 (A9 G7) (.maps e3 g3 (A9 G5) (.cons e4 g4 (D8 F3) .nil)))))
  ?_ (by intro x hx;simp only [List.mem_cons,List.not_mem_nil,or_false] at hx;omega) (F5 hc.pr)
  (.cons k0 (AN0 k4 k1 k2 k3) (.maps k1 (A9 G6) (.maps k2 (A9 G7) (.maps k3 (A9 G5) (.cons k4 (D8 F3) .nil))))) hk
 simp only [List.nil_append,List.append_nil]
 exact ⟨U5 e0,D8 hc.pa⟩
theorem dcx_w {f:Nat} {avs:List AV} {q q':Sw} {t t':WS} {o w d m s:Nat} {h:Hp} {r:AV} {K:AV→Up→List Nat→Prop} (hc:L8 f avs q t r q' t')
  (g0:lk h.l o=some (.cells (stC s w d m q))) (g1:lk h.l w=some (.maps (encW pgE t.W))) (g2:lk h.l d=some (.maps (encW byE t.D))) (g3:lk h.l m=some (.maps (encW nuE t.H))) (g4:lk h.l s=some (.cells q.s.a))
  (hd:Ae5 [o,w,d,m,s]=true) (hnx':[o,w,d,m,s].contains h.next=false)
  (hk:K r [(o,some (.cells (stC s w d m q'))),(w,some (.maps (encW pgE t'.W))),(d,some (.maps (encW byE t'.D))),(m,some (.maps (encW nuE t'.H))),(s,some (.cells q'.s.a))] [o,w,d,m,s]):AN9 Try.prog G0 f (.ptr o 0::avs) h K:=by
 have hnx:h.next ∉ [o,w,d,m,s]:=fun hm=>by rw [List.contains_eq_mem,decide_eq_false_iff_not] at hnx';exact hnx' hm
 have e0:enter [o,w,d,m,s] o 0:=rfl
 have e1:enter [o,w,d,m,s] w 1:=rfl
 have e2:enter [o,w,d,m,s] d 2:=rfl
 have e3:enter [o,w,d,m,s] m 3:=rfl
 have e4:enter [o,w,d,m,s] s 4:=rfl
 have k0:R6 [o,w,d,m,s] 0 o:=rfl
 have k1:R6 [o,w,d,m,s] 1 w:=rfl
 have k2:R6 [o,w,d,m,s] 2 d:=rfl
 have k3:R6 [o,w,d,m,s] 3 m:=rfl
 have k4:R6 [o,w,d,m,s] 4 s:=rfl
 refine BB3 (l1:=stN q' t' o w d m s) [o,w,d,m,s] hc.out I7 hd
  (.cons e0 g0 (AN0 e4 e1 e2 e3) (.maps e1 g1 (A9 G6) (.maps e2 g2 (A9 G7) (.maps e3 g3 (A9 G5) (.cons e4 g4 (D8 F3) .nil)))))
  hnx ?_ ?_ ⟨U5 e0,D8 hc.pa⟩ (F5 hc.pr)
  (.cons k0 (AN0 k4 k1 k2 k3) (.maps k1 (A9 G6) (.maps k2 (A9 G7) (.maps k3 (A9 G5) (.cons k4 (D8 F3) .nil))))) hk
 ·intro x hx
  simp only [stN,lk]
  repeat' split
  all_goals first|exact ⟨_,rfl⟩|(exfalso;simp only [List.mem_cons,List.not_mem_nil,or_false] at hx;omega)
 ·intro j x hx
  have : j < 5:=(List.getElem?_eq_some_iff.1 hx).1
  simp only [stN,lk]
  repeat' split
  all_goals first|exact ⟨_,rfl⟩|(exfalso;omega)
end Go.Proofs.Ytbhgfoikbkaohaa.Sh
namespace Go.Am
section
variable {α:Type} {f:α→List AV} {L:List α} {d i:Nat} {r:List (Nat × AObj)}
theorem lk_tN (hz:L.length=0):lk (AY1 d f L++r) i=lk r i:=by rw [AV8 hz];rfl
theorem lk_tA {r':List (Nat × AObj)} (h:i ≠ d):lk (r'++AY1 d f L) i=lk r' i:=by
 by_cases hz:L.length=0
 ·rw [AV8 hz,List.append_nil]
 ·rw [AV9 hz]
  induction r' with
  | nil=>simp [lk,h]
  | cons p r' ih=>obtain ⟨j,o⟩:=p;simp only [List.cons_append,lk];rw [ih]
theorem BW2 (h:i ≠ d):lk (AY1 d f L) i=none:=by
 have:=lk_tA (f:=f) (L:=L) (r':=[]) h
 exact this
end
section
variable {P:Program} {σ:Nat→Nat} {h h':Hp} {ks:List Nat} {r:List (Nat × AObj)} {α:Type} {f:α→List AV} {L:List α} {i n:Nat}
end
end Go.Am
namespace Go.Am
section
variable {P:Program} {G:Gl}
end
theorem appx_q {qa qb:Prop} {α:Type} {L:List α} {l:List (Nat × AObj)} {nx sz bytes d:Nat} {x:AV} {k:AV→Up→List Nat→Prop} (hq:Z7 ((L.length=0→qa)∧(L.length ≠ 0→qb))) (h:Z7 (L.length=0→qa)→Z7 (L.length ≠ 0→qb)→AppX l nx sz bytes (Ao4 d sz L.length) x k):AppX l nx sz bytes (Ao4 d sz L.length) x k:=h ⟨hq.out.1⟩ ⟨hq.out.2⟩
end Go.Am
namespace Go.Proofs.Ytbhgfoikbkaohaa
open Go Go.Am Go.Pol
theorem ppx_Ti {p:Prop} (h:p:=by ((first|with_reducible assumption|(with_reducible first|apply J2 _|apply P8 J2|apply P8 AB4|apply AB4|apply D5|apply AF0|apply E8 D5|apply AE3 D5|apply AK6|apply F3|apply E8 hP|fail)|exact ppw|fail);first|done|fail)):p:=h
open Go.Proofs.Ytbhgfoikbkaohaa renaming plx_Sd → plx
open Go.Proofs.Ytbhgfoikbkaohaa renaming ppx_Ti → ppx
section
variable {K:Nat→Int} {M:Nat→Bool} {B:Nat→Nat→Int} {P:List AV}
end
end Go.Proofs.Ytbhgfoikbkaohaa
namespace Go.Pol
open Go.Am
theorem AY2:∀ {vs cs pre:List AV},cs.length=vs.length→over (pre++cs) pre.length vs=pre++vs
 | [],cs,pre,h=>by
  have : cs=[]:=List.eq_nil_of_length_eq_zero (by simpa using h)
  subst this;rfl
 | v::vs,[],pre,h=>by simp at h
 | v::vs,c::cs,pre,h=>by
  show over ((pre++c::cs).set pre.length v) (pre.length+1) vs=_
  rw [List.set_append_right _ _ (Nat.le_refl _),Nat.sub_self,List.set_cons_zero]
  have:=AY2 (vs:=vs) (cs:=cs) (pre:=pre++[v]) (by simpa using h)
  rw [List.length_append,List.append_assoc,List.append_assoc] at this
  exact this
theorem y_take {y:List AV} (h:y.length=64):y.take 64=y:=List.take_of_length_le (by omega)
theorem over_y {y:List AV} (h:y.length=64):over (List.replicate 64 (AV.int .u8 0)) 0 y=y:=AY2 (pre:=[]) (by rw [h];rfl)
theorem BV3 {y:List AV} {x:AV} (h:y.length=64):over (x::List.replicate 64 (AV.int .u8 0)) 1 y=x::y:=AY2 (pre:=[x]) (by rw [h];rfl)
section
variable {K:Nat→Int} {M G:Nat→Bool} {B:Nat→Nat→Int} {P:List AV} {p o:Nat}
end
end Go.Pol
namespace Go.Pol
open Go.Am Go.Proofs.Ytbhgfoikbkaohaa.Sh
def U3 (a n pg sl:Int):Prop:=0≤a∧a < 1024∧1≤n∧n≤1024 - a∧1≤pg∧pg≤256∧0≤sl∧sl≤256
instance (a n pg sl:Int):Decidable (U3 a n pg sl):=by unfold U3;infer_instance
theorem Aw4:AV.agg (List.replicate 64 (.int .u8 0))=byE fun _=>0:=by
 unfold byE bcA
 congr 1
 refine List.ext_getElem? fun i=>?_
 by_cases h:i < 64
 ·rw [List.getElem?_replicate,if_pos h,X3 h]
 ·rw [List.getElem?_eq_none (by rw [List.length_replicate];omega),List.getElem?_eq_none (by rw [AA0];omega)]
theorem AF9 {x:Nat→Int}:over (List.replicate 64 (AV.int .u8 0)) 0 (bcA x)=bcA x:=AY2 (pre:=[]) (by rw [X7];rfl)
theorem mlook_d {l:List (Nat × AObj)} {i:Nat} {z:AV} {L:List (Int × (Nat→Int))} {k:Int} {x:Nat→Int} {K:AV→Up→List Nat→Prop} (hD:(match mgI L k with|some b=>b|none=>fun _=>0)=x) (hz:z=byE fun _=>0) (h1:lk l i=some (.maps (encW byE L))) (hk:K (byE x) [] [i]):AX0 l false false [0] z (.mapr i) (.int .i64 k) K:=by
 cases hm:mgI L k with
 | none=>rw [hm] at hD;subst hD;subst hz;exact As0 hm h1 hk
 | some b=>rw [hm] at hD;subst hD;exact Z9 hm h1 hk
theorem Ar9 {l:List (Nat × AObj)} {i:Nat} {z:AV} {L:List (Int × (Nat→Int))} {k:Int} {K:AV→Up→List Nat→Prop} (hg:mgI L k=none) (hz:z=byE fun _=>0) (h1:lk l i=some (.maps (encW byE L))) (hk:K (.tup [byE fun _=>0,.bool false]) [] [i]):AX0 l true false [0] z (.mapr i) (.int .i64 k) K:=by
 subst hz;exact AC6 hg h1 hk
end Go.Pol
namespace Go.Proofs.Ytbhgfoikbkaohaa.Sh
open Go Go.Am Go.Pol
theorem plx_Sxc {p:Prop} (h:p:=by ((first|exact plw|(with_reducible first|apply P7|apply G6 _|apply G7 _|apply G5 _|apply u6|fail)|fail);first|done|fail)):p:=h
theorem ppx_Sxc {p:Prop} (h:p:=by ((first|with_reducible assumption|(with_reducible first|apply F3|apply AK6|apply AI3|apply AD2|apply AJ0|fail)|exact ppw|fail);first|done|fail)):p:=h
open Go.Proofs.Ytbhgfoikbkaohaa.Sh renaming plx_Sxc → plx
open Go.Proofs.Ytbhgfoikbkaohaa.Sh renaming ppx_Sxc → ppx
theorem wx_Sxc {p q:Prop} (hq:q) (h:Z7 q→p:=by (intro hQz;((repeat' ((try (conv=>whnf));first|refine sxA ?_|refine AC4 (by rw [AA0];omega) hset ?_|refine AA1 (by rw [X7];omega) List.drop_zero (Z4 (by rw [X7];omega) An4 ?_)|refine ⟨X7,?_⟩|refine u7 (by simp only [X7];omega) (over_self _) ?_|refine L9 hxk ?_|refine sxF ?_|refine M0 (by assumption) rfl (by decide) ?_|refine M0 hws rfl (by decide) ?_|refine sxH ?_|((with_reducible first|apply U8 hQz|apply U9 hQz)<;>(try intro hsp hQz))|exact hQz.out))<;>(try (conv=>whnf))))):p:=h ⟨hq⟩
theorem P7:Plain (.tup []):=F4 fun x hx=>by cases hx
theorem u6 {f:Nat→Int}:Plain (.agg (bcA f)):=H9 AD2
theorem AY5 (a n pg sl:Int):K9 44 [.int .i64 a,.int .i64 n,.int .i64 pg,.int .i64 sl] (.bool (decide (U3 a n pg sl))):=by
 refine K9.mk (U2 F6 b44 I7 ⟨A8,A8,A8,A8,trivial⟩ D9 rfl ?_)
 unfold c44
 (refine wx_Sxc ?_;repeat' (first|with_reducible refine And.intro ?_ ?_|intro hsp))
 all_goals first|(exfalso;omega)|exact X5 (by first|exact decide_eq_decide.2 (by unfold U3;omega)|exact (decide_eq_true (show U3 a n pg sl by unfold U3;omega)).symm|exact (decide_eq_false (show ¬ U3 a n pg sl by unfold U3;omega)).symm)
section
variable {q:Sw} {t:WS}
theorem w_is:L8 30 [] q t (.bool true) q t:=by
 refine L8.mk (H6 F6 b30 rfl ?_) (fun x hx=>by cases hx) D9
 unfold c30
 unfold stN stC
 (refine wx_Sxc ?_;repeat' (first|with_reducible refine And.intro ?_ ?_|intro hsp))
 all_goals exact J9 rfl D9 rfl rfl rfl rfl rfl
theorem Ao8 (hp:q.pg≤256) (a now:Int):L8 31 [.int .i64 a,.int .i64 now] q t (.bool (decide (q.nums a now))) q t:=by
 refine L8.mk (H6 F6 b31 rfl ?_) (fun x hx=>by
  simp only [List.mem_cons,List.not_mem_nil,or_false] at hx
  rcases hx with rfl|rfl<;>exact A8) D9
 unfold c31
 unfold stN stC
 (refine wx_Sxc ?_;repeat' (first|with_reducible refine And.intro ?_ ?_|intro hsp))
 all_goals first|(exfalso;omega)|exact J9 (by first|exact congrArg AV.bool (decide_eq_decide.2 (by unfold Sw.nums;omega))|exact congrArg AV.bool (decide_eq_true (show q.nums a now by unfold Sw.nums;omega)).symm|exact congrArg AV.bool (decide_eq_false (show ¬ q.nums a now by unfold Sw.nums;omega)).symm) D9 rfl rfl rfl rfl rfl
theorem w_get {f:Nat} (hf:f < 1024) (hk:q.s.K f=2):L8 66 [.int .i64 (f:Nat)] q t (.agg (bcA (q.s.B f))) q t:=by
 refine L8.mk (H6 F6 b66 rfl ?_) (fun x hx=>by obtain rfl:=List.mem_singleton.1 hx;exact A8) u6
 unfold c66
 unfold stN stC
 rw [← rdK_0 (f:=q.s.B f)]
 (refine wx_Sxc ?_;repeat' (first|with_reducible refine And.intro ?_ ?_|intro hsp))
 (refine Q5 [0,1,4] (fun (k:Nat)=>[(6,.int .i64 (k:Nat))]) (fun (k:Nat)=>⟨stN q t 0 1 2 3 4++[(5,.cells (memA 64 (rdK (q.s.B f) k)))],6⟩) (fun (k:Nat)=>k≤64) (fun (k:Nat)=>64 - k) (0) [] rfl (fun _=>by first|exact Nat.zero_le _|(dsimp only;omega)) ?_ (by ((try (conv=>whnf));exact Y4)) ?_)
 ·exact Nat.zero_le _
 intro k hkk
 by_cases hkl:k < 64
 ·have c1:=p_read (s:=q.s) (a:=(f:Int) * 64+(k:Nat))
  rw [read_at hk hf hkl] at c1
  dsimp only at c1
  have hset:=rdK_s (f:=q.s.B f) hkl
  unfold stN stC
  generalize q.s.B f k=y at *
  (refine wx_Sxc ?_;repeat' (first|with_reducible refine And.intro ?_ ?_|intro hsp))
  all_goals exact I4 (k+1) [] (by (try dsimp only);omega) (by first|omega|(dsimp only;omega)) rfl (by exact Y4)
 ·obtain rfl:k=64:=by omega
  rw [rdK_all]
  unfold stN stC
  (refine wx_Sxc ?_;repeat' (first|with_reducible refine And.intro ?_ ?_|intro hsp))
  all_goals exact J9 rfl u6 rfl rfl rfl rfl rfl
theorem w_set (hg:GoodS q.s) {f:Nat} (hf:f < 1024) (hk:q.s.K f=2) (x:Nat→Int):L8 54 [.int .i64 (f:Nat),.agg (bcA x)] q t (.tup []) { q with s:=q.s.page f x } t:=by
 refine L8.mk (H6 F6 b54 rfl ?_) (fun y hy=>by
  simp only [List.mem_cons,List.not_mem_nil,or_false] at hy
  rcases hy with rfl|rfl
  ·exact A8
  ·exact u6) P7
 unfold c54
 unfold stN stC
 (refine wx_Sxc ?_;repeat' (first|with_reducible refine And.intro ?_ ?_|intro hsp))
 have hw0:=wrK_0 (s:=q.s) (f:=f) (x:=x)
 (refine Q5 [0,1,8] (fun (k:Nat)=>[(9,.int .i64 (k:Nat))]) (fun (k:Nat)=>⟨stN { q with s:=wrK q.s f x k } t 0 1 2 3 4,5⟩) (fun (k:Nat)=>k≤64) (fun (k:Nat)=>64 - k) (0) [] rfl (fun _=>by first|exact Nat.zero_le _|(dsimp only;omega)) ?_ (by ((try (conv=>whnf));(rw [hw0]);exact Y4)) ?_)
 ·exact Nat.zero_le _
 intro k hkk
 by_cases hkl:k < 64
 ·have hws:=BV1 (s:=wrK q.s f x k) (a:=(f:Int) * 64+(k:Nat)) (b:=x k)
  rw [wrK_s hk hf hkl] at hws
  dsimp only at hws
  have hxk:(bcA x)[k]? = some (.int .u8 (x k)):=X3 hkl
  unfold stN stC
  dsimp only
  (refine wx_Sxc ?_;repeat' (first|with_reducible refine And.intro ?_ ?_|intro hsp))
  all_goals exact I4 (k+1) [] (by (try dsimp only);omega) (by first|omega|(dsimp only;omega)) rfl (by exact Y4)
 ·obtain rfl:k=64:=by omega
  rw [wrK_all hg]
  unfold stN stC
  dsimp only
  (refine wx_Sxc ?_;repeat' (first|with_reducible refine And.intro ?_ ?_|intro hsp))
  all_goals exact J9 (q:={ q with s:=q.s.page f x }) rfl P7 rfl rfl rfl rfl rfl
end
end Go.Proofs.Ytbhgfoikbkaohaa.Sh
namespace Go.Pol
open Go.Am Go.Proofs.Ytbhgfoikbkaohaa.Sh
def opA (o:Option Nat):Int:=match o with|some f=>(f:Nat)|none=>-1
theorem BA0 {a n i:Nat} {p:Nat→Bool} (hi:i < n) (h1:∀ j,j < i→p (a+j)=false) (h2:p (a+i)=true):(List.range' a n).find? p=some (a+i):=by
 rw [BT8 (Nat.le_of_lt hi),List.find?_append,List.find?_eq_none.2 fun f hf=>by
  obtain ⟨k,hk,rfl⟩:=List.mem_range'.1 hf
  rw [Nat.one_mul,h1 k hk];exact Bool.false_ne_true]
 obtain ⟨m,hm⟩:∃ m,n - i=m+1:=⟨n - i - 1,by omega⟩
 rw [hm,List.range'_succ,List.find?_cons,h2]
 rfl
theorem BG8 {a n:Nat} {p:Nat→Bool} (h:∀ j,j < n→p (a+j)=false):(List.range' a n).find? p=none:=List.find?_eq_none.2 fun f hf=>by
 obtain ⟨k,hk,rfl⟩:=List.mem_range'.1 hf
 rw [Nat.one_mul,h k hk];exact Bool.false_ne_true
theorem held_H {w:Sw} {t:WS} (h:WOk w t) (hg:D7 w) {f:Nat}:(mgI t.H (f:Nat)).isSome=decide (w.heldF f):=by
 by_cases hh:w.heldF f
 ·obtain ⟨p,hp,hF⟩:=hh
  rw [(h.gH (f:Nat) (p:Nat)).2 ⟨by omega,by omega,by rw [Int.toNat_natCast];exact hF⟩,decide_eq_true (show w.heldF f from ⟨p,hp,hF⟩)];rfl
 ·rw [decide_eq_false hh]
  cases hm:mgI t.H (f:Nat) with
  | none=>rfl
  | some p =>
   obtain ⟨h1,h2,h3⟩:=(h.gH (f:Nat) p).1 hm
   exact absurd ⟨p.toNat,AC8 hg (by omega),h3⟩ hh
theorem held_D {w:Sw} {t:WS} (h:WOk w t) {k:Nat}:(mgI t.D (k:Nat)).isSome=decide (w.heldT k):=by
 rw [h.gD]
 by_cases hh:w.heldT k
 ·rw [decide_eq_true hh,if_pos ⟨by omega,by rw [Int.toNat_natCast];exact hh⟩];rfl
 ·rw [decide_eq_false hh,if_neg fun h2=>hh (by rw [Int.toNat_natCast] at h2;exact h2.2)];rfl
end Go.Pol
namespace Go.Proofs.Ytbhgfoikbkaohaa.Sh
open Go Go.Am Go.Pol
open Go.Proofs.Ytbhgfoikbkaohaa.Sh renaming plx_Sxc → plx
open Go.Proofs.Ytbhgfoikbkaohaa.Sh renaming ppx_Sxc → ppx
theorem wx_Sxd {p q:Prop} (hq:q) (h:Z7 q→p:=by (intro hQz;((repeat' ((try (conv=>whnf));first|refine sxA ?_|refine x9 hp rfl ?_|refine AC6 hp rfl ?_|refine ⟨X7,?_⟩|refine u7 (by simp only [List.length_replicate,X7];omega) hov ?_|refine Ar9 hp Aw4 rfl ?_|refine sxF ?_|(refine AC3 F6 b52 rfl ?_;unfold c52)|(refine AC3 F6 b51 rfl ?_;unfold c51)|(refine AC3 F6 b65 rfl ?_;unfold c65)|refine sxH ?_|((with_reducible first|apply U8 hQz|apply U9 hQz)<;>(try intro hsp hQz))|exact hQz.out))<;>(try (conv=>whnf))))):p:=h ⟨hq⟩
section
variable {q:Sw} {t:WS}
structure LocL (q:Sw) (t:WS):Prop where
 out:AV1 Try.prog G0 51 [.int .i64 (q.a:Nat),.int .i64 ((q.a:Int)+(q.n:Nat)),.fn 52 [] [.ptr 5 0]] (stN q t 0 1 2 3 4++[(5,.cells [.ptr 0 0])]) 6 fun x h1=>x = .int .i64 (opA q.free)∧h1=⟨stN q t 0 1 2 3 4++[(5,.cells [.ptr 0 0])],6⟩
theorem end_L {top:Bool} {h:Hp} {N0:Nat} {x r:AV} (hx:x=r) (hp:Plain r) (g0:lk h.l 0=some (.cells (stC 4 1 2 3 q))) (g1:lk h.l 1=some (.maps (encW pgE t.W))) (g2:lk h.l 2=some (.maps (encW byE t.D))) (g3:lk h.l 3=some (.maps (encW nuE t.H))) (g4:lk h.l 4=some (.cells q.s.a)) (g5:lk h.l 5=some (.cells [.ptr 0 0])) (hN0:N0≤6:=by decide) :
  AX2 top Try.prog N0 h x (fun r' h'=>r'=r∧h'=⟨stN q t 0 1 2 3 4++[(5,.cells [.ptr 0 0])],6⟩):=by
 subst hx
 have hs:AP3 (rn []) h ⟨stN q t 0 1 2 3 4++[(5,.cells [.ptr 0 0])],6⟩:=fun i o hi=>by
  simp only [stN,List.cons_append,List.nil_append,lk] at hi
  show ∃ o',lk h.l i=some o'
  split at hi
  ·rename_i e;subst e;exact ⟨_,g0⟩
  ·split at hi
   ·rename_i e;subst e;exact ⟨_,g1⟩
   ·split at hi
    ·rename_i e;subst e;exact ⟨_,g2⟩
    ·split at hi
     ·rename_i e;subst e;exact ⟨_,g3⟩
     ·split at hi
      ·rename_i e;subst e;exact ⟨_,g4⟩
      ·split at hi
       ·rename_i e;subst e;exact ⟨_,g5⟩
       ·cases hi
 refine AG8 [] rfl hN0 (P6 rfl) (R9 hs hp) ?_ ⟨rfl,rfl⟩
 exact BO4 (o':=0) (w':=1) (d':=2) (m':=3) (s':=4) hs rfl rfl rfl rfl rfl ⟨show 0 < 6 by decide,show 1 < 6 by decide,show 2 < 6 by decide,show 3 < 6 by decide,show 4 < 6 by decide⟩ g0 g1 g2 g3 g4 (U4 (show 5 < 6 by decide) g5 (D6 (Z8 (i:=0) rfl (show 0 < 6 by decide)) K4) K3)
theorem w_free (hg:D7 q) (h:WOk q t):LocL q t:=by
 have hrng:=hg.rng
 refine LocL.mk (H6 F6 b51 rfl ?_)
 unfold c51
 unfold stN stC
 (refine wx_Sxd ?_;repeat' (first|with_reducible refine And.intro ?_ ?_|intro hsp))
 (refine Q5 [0,1,2] (fun (i:Nat)=>[(7,.int .i64 ((q.a+i:Nat):Int))]) (fun (i:Nat)=>⟨stN q t 0 1 2 3 4++[(5,.cells [.ptr 0 0])],6⟩) (fun (i:Nat)=>i≤q.n∧∀ j,j < i→q.heldF (q.a+j)) (fun (i:Nat)=>q.n - i) (0) [] rfl (fun _=>by first|exact Nat.zero_le _|(dsimp only;omega)) ?_ (by ((try (conv=>whnf));exact Y4)) ?_)
 ·exact ⟨Nat.zero_le _,fun j hj=>absurd hj (Nat.not_lt_zero _)⟩
 intro i hi
 obtain ⟨hi,hall⟩:=hi
 by_cases hil:i < q.n
 ·have hhd:=held_H h hg (f:=q.a+i)
  by_cases hh:q.heldF (q.a+i)
  ·have hnext:i+1≤q.n∧∀ j,j < i+1→q.heldF (q.a+j):=⟨hil,fun j hj=>by
    by_cases e:j=i
    ·rw [e];exact hh
    ·exact hall j (by omega)⟩
   rw [decide_eq_true hh] at hhd
   obtain ⟨p,hp⟩:=Option.isSome_iff_exists.1 hhd
   have ea:((q.a+i:Nat):Int)=(q.a:Int)+(i:Nat):=by omega
   unfold stN stC
   (refine wx_Sxd ?_;repeat' (first|with_reducible refine And.intro ?_ ?_|intro hsp))
   all_goals first|(exfalso;omega)|exact I4 (i+1) [] hnext (by first|omega|(dsimp only;omega)) rfl (by exact Y4)
  ·have hfr:q.free=some (q.a+i):=BA0 hil (fun j hj=>by rw [decide_eq_false_iff_not];exact fun h2=>h2 (hall j hj)) (decide_eq_true hh)
   rw [decide_eq_false hh] at hhd
   have hp:mgI t.H ((q.a+i:Nat):Int)=none:=Option.not_isSome_iff_eq_none.1 (by rw [hhd];exact Bool.false_ne_true)
   rw [hfr]
   unfold stN stC
   (refine wx_Sxd ?_;repeat' (first|with_reducible refine And.intro ?_ ?_|intro hsp))
   all_goals first|(exfalso;omega)|exact end_L rfl A8 rfl rfl rfl rfl rfl rfl
 ·obtain rfl:i=q.n:=by omega
  have hfr:q.free=none:=BG8 fun j hj=>by rw [decide_eq_false_iff_not];exact fun h2=>h2 (hall j hj)
  rw [hfr]
  unfold stN stC
  (refine wx_Sxd ?_;repeat' (first|with_reducible refine And.intro ?_ ?_|intro hsp))
  all_goals first|(exfalso;omega)|exact end_L rfl A8 rfl rfl rfl rfl rfl rfl
set_option maxRecDepth 20000 in
theorem w_slot (h:WOk q t) (hsl6:q.sl≤256) (g:Int):L8 48 [.int .i64 g] q t (.int .i64 (opA (q.slot g))) q t:=by
 refine L8.mk (H6 F6 b48 rfl ?_) (fun x hx=>by obtain rfl:=List.mem_singleton.1 hx;exact A8) A8
 unfold c48
 unfold stN stC
 (refine wx_Sxd ?_;repeat' (first|with_reducible refine And.intro ?_ ?_|intro hsp))
 (refine Q5 [0,1,2] (fun (i:Nat)=>[(7,.int .i64 (i:Nat))]) (fun (i:Nat)=>⟨stN q t 0 1 2 3 4++[(5,.cells [.ptr 0 0]),(6,.cells [.int .i64 g])],7⟩) (fun (i:Nat)=>i≤q.sl∧∀ j,j < i→¬ (((j:Nat):Int)=g∨¬ q.heldT j)) (fun (i:Nat)=>q.sl - i) (0) [] rfl (fun _=>by first|exact Nat.zero_le _|(dsimp only;omega)) ?_ (by ((try (conv=>whnf));exact Y4)) ?_)
 ·exact ⟨Nat.zero_le _,fun j hj=>absurd hj (Nat.not_lt_zero _)⟩
 intro i hi
 obtain ⟨hi,hall⟩:=hi
 by_cases hil:i < q.sl
 ·have hhd:=held_D h (k:=i)
  by_cases hh:q.heldT i
  ·rw [decide_eq_true hh] at hhd
   obtain ⟨b,hp⟩:=Option.isSome_iff_exists.1 hhd
   have hov:=AF9 (x:=b)
   by_cases hg:((i:Nat):Int)=g
   ·have hsl:q.slot g=some i:=by
     have:=BA0 (a:=0) (n:=q.sl) (p:=fun k=>decide (((k:Nat):Int)=g∨¬ q.heldT k)) hil (fun j hj=>by rw [Nat.zero_add,decide_eq_false_iff_not];exact hall j hj) (by rw [Nat.zero_add];exact decide_eq_true (.inl hg))
     rw [Nat.zero_add] at this
     unfold Sw.slot
     rw [List.range_eq_range'];exact this
    rw [hsl]
    unfold stN stC
    (refine wx_Sxd ?_;repeat' (first|with_reducible refine And.intro ?_ ?_|intro hsp))
    all_goals first|(exfalso;omega)|exact J9 rfl A8 rfl rfl rfl rfl rfl
   ·have hnext:i+1≤q.sl∧∀ j,j < i+1→¬ (((j:Nat):Int)=g∨¬ q.heldT j):=⟨hil,fun j hj=>by
     by_cases e:j=i
     ·rw [e];exact fun h2=>h2.elim hg fun h3=>h3 hh
     ·exact hall j (by omega)⟩
    unfold stN stC
    (refine wx_Sxd ?_;repeat' (first|with_reducible refine And.intro ?_ ?_|intro hsp))
    all_goals first|(exfalso;omega)|exact I4 (i+1) [] hnext (by first|omega|(dsimp only;omega)) rfl (by exact Y4)
  ·have hsl:q.slot g=some i:=by
    have:=BA0 (a:=0) (n:=q.sl) (p:=fun k=>decide (((k:Nat):Int)=g∨¬ q.heldT k)) hil (fun j hj=>by rw [Nat.zero_add,decide_eq_false_iff_not];exact hall j hj) (by rw [Nat.zero_add];exact decide_eq_true (.inr hh))
    rw [Nat.zero_add] at this
    unfold Sw.slot
    rw [List.range_eq_range'];exact this
   rw [decide_eq_false hh] at hhd
   have hp:mgI t.D (i:Nat)=none:=Option.not_isSome_iff_eq_none.1 (by rw [hhd];exact Bool.false_ne_true)
   have hov:=AF9 (x:=fun _=>0)
   rw [hsl]
   unfold stN stC
   (refine wx_Sxd ?_;repeat' (first|with_reducible refine And.intro ?_ ?_|intro hsp))
   all_goals first|(exfalso;omega)|exact J9 rfl A8 rfl rfl rfl rfl rfl
 ·obtain rfl:i=q.sl:=by omega
  have hsl:q.slot g=none:=by
   have:=BG8 (a:=0) (n:=q.sl) (p:=fun k=>decide (((k:Nat):Int)=g∨¬ q.heldT k)) fun j hj=>by rw [Nat.zero_add,decide_eq_false_iff_not];exact hall j hj
   unfold Sw.slot
   rw [List.range_eq_range'];exact this
  rw [hsl]
  unfold stN stC
  (refine wx_Sxd ?_;repeat' (first|with_reducible refine And.intro ?_ ?_|intro hsp))
  all_goals first|(exfalso;omega)|exact J9 rfl A8 rfl rfl rfl rfl rfl
end
end Go.Proofs.Ytbhgfoikbkaohaa.Sh
