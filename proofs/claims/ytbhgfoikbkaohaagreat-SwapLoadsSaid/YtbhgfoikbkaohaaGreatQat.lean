/-
 The document's Load: what it lays out,and when that is what was saved. Plain.
 The document's store: its inner calls.
 The document's store: put,Counts.
 The document's store: a page is touched.
 The document's store: Read,Write,Out,Free.
-/
import Derived.Test.YtbhgfoikbkaohaaGreatQas
set_option linter.unusedSimpArgs false
set_option linter.unusedVariables false
set_option maxHeartbeats 12800000
namespace Go.Pol
open Go.Am Go.Proofs.YtbhgfoikbkaohaaGreat.Sh
def apW (q:Sw) (e:Int × Int × Int × Int):Sw:={ q with F:=F4 q.F e.1.toNat e.2.1,T:=F4 q.T e.1.toNat e.2.2.1,Z:=F4 q.Z e.1.toNat e.2.2.2 }
def apD (q:Sw) (d:Int × (Nat→Int)):Sw:={ q with D:=AA7 q.D d.1.toNat d.2 }
def E8 (q:Sw) (W:List (Int × Int × Int × Int)):Nat→Sw
 | 0=>q
 | j+1=>apW (E8 q W j) (nth d4 W j)
def O8 (q:Sw) (D:List (Int × (Nat→Int))):Nat→Sw
 | 0=>q
 | j+1=>apD (O8 q D j) (nth d5 D j)
def lq0 (s:Sy) (a n pg sl:Nat) (i o:Int):Sw:=⟨a,n,pg,sl,fun _=>-1,fun _=>-1,fun _=>0,fun _ _=>0,i,o,s⟩
structure GQ (q:Sw):Prop where
 far:∀ p,q.pg≤p→q.F p = -1∧q.T p = -1
 fr:∀ p,q.F p = -1∨(q.T p = -1∧(q.a:Nat)≤q.F p∧q.F p < (q.a:Nat)+(q.n:Nat))
 sl:∀ p,q.T p = -1∨(q.F p = -1∧0≤q.T p∧q.T p < (q.sl:Nat))
 oneF:∀ p r,0≤q.F p→q.F p=q.F r→p=r
 oneT:∀ p r,0≤q.T p→q.T p=q.T r→p=r
 st:∀ p,0≤q.Z p∧q.Z p≤1000000000000
def BL3 (q:Sw) (e:Int × Int × Int × Int):Prop:=(0≤e.1∧e.1 < (q.pg:Nat)∧0≤e.2.2.2∧e.2.2.2≤1000000000000) ∧
 ((e.2.2.1 = -1∧(q.a:Nat)≤e.2.1∧e.2.1 < (q.a:Nat)+(q.n:Nat)∧q.inF e.2.1 < 0)∨(e.2.1 = -1∧0≤e.2.2.1∧e.2.2.1 < (q.sl:Nat)∧q.inT e.2.2.1 < 0))
section
variable {q:Sw} {e:Int × Int × Int × Int}
theorem gq_0 {s:Sy} {a n pg sl:Nat} {i o:Int}:GQ (lq0 s a n pg sl i o):=⟨fun _ _=>⟨rfl,rfl⟩,fun _=>.inl rfl,fun _=>.inl rfl,fun p r h=>absurd h (show ¬ (0:Int) ≤ -1 by decide),fun p r h=>absurd h (show ¬ (0:Int) ≤ -1 by decide),fun _=>(show (0:Int)≤0∧(0:Int)≤1000000000000 by decide)⟩
theorem noF (hf:∀ p,q.pg≤p→q.F p = -1) {f:Int} (h0:0≤f) (h:q.inF f < 0) (p:Nat):q.F p ≠ f:=fun e=>by
 obtain ⟨f,rfl⟩:=Int.eq_ofNat_of_zero_le h0
 have hp:p < q.pg:=by
  by_cases hp:p < q.pg
  ·exact hp
  ·have:=hf p (by omega);omega
 have : 0≤q.inF (f:Nat):=Aa2.2 ⟨p,hp,e⟩
 omega
theorem noT (hf:∀ p,q.pg≤p→q.T p = -1) {f:Int} (h0:0≤f) (h:q.inT f < 0) (p:Nat):q.T p ≠ f:=fun e=>by
 obtain ⟨f,rfl⟩:=Int.eq_ofNat_of_zero_le h0
 have hp:p < q.pg:=by
  by_cases hp:p < q.pg
  ·exact hp
  ·have:=hf p (by omega);omega
 have : 0≤q.inT (f:Nat):=Ai7.2 ⟨p,hp,e⟩
 omega
theorem apF (p:Nat):(apW q e).F p=if p=e.1.toNat then e.2.1 else q.F p:=rfl
theorem apT (p:Nat):(apW q e).T p=if p=e.1.toNat then e.2.2.1 else q.T p:=rfl
theorem apZ (p:Nat):(apW q e).Z p=if p=e.1.toNat then e.2.2.2 else q.Z p:=rfl
theorem gq_ap (h:GQ q) (hk:BL3 q e):GQ (apW q e):=by
 obtain ⟨⟨k1,k2,k3,k4⟩,k5⟩:=hk
 have hnF:0≤e.2.1→∀ p,q.F p ≠ e.2.1:=fun h0=>by
  rcases k5 with ⟨_,_,_,h5⟩ | ⟨h5,_⟩
  ·exact noF (fun p hp=>(h.far p hp).1) h0 h5
  ·omega
 have hnT:0≤e.2.2.1→∀ p,q.T p ≠ e.2.2.1:=fun h0=>by
  rcases k5 with ⟨h5,_⟩ | ⟨_,_,_,h5⟩
  ·omega
  ·exact noT (fun p hp=>(h.far p hp).2) h0 h5
 refine ⟨fun p hp=>?_,fun p=>?_,fun p=>?_,fun p r h1 h2=>?_,fun p r h1 h2=>?_,fun p=>?_⟩
 ·have hp:q.pg≤p:=hp
  rw [apF,apT,if_neg (by omega),if_neg (by omega)]
  exact h.far p hp
 ·show (apW q e).F p = -1∨((apW q e).T p = -1∧(q.a:Nat)≤(apW q e).F p∧(apW q e).F p < (q.a:Nat)+(q.n:Nat))
  rw [apF,apT]
  by_cases c:p=e.1.toNat
  ·rw [if_pos c,if_pos c]
   rcases k5 with ⟨h5,h6,h7,_⟩ | ⟨h5,_⟩
   ·exact .inr ⟨h5,h6,h7⟩
   ·exact .inl h5
  ·rw [if_neg c,if_neg c];exact h.fr p
 ·show (apW q e).T p = -1∨((apW q e).F p = -1∧0≤(apW q e).T p∧(apW q e).T p < (q.sl:Nat))
  rw [apF,apT]
  by_cases c:p=e.1.toNat
  ·rw [if_pos c,if_pos c]
   rcases k5 with ⟨h5,_⟩ | ⟨h5,h6,h7,_⟩
   ·exact .inl h5
   ·exact .inr ⟨h5,h6,h7⟩
  ·rw [if_neg c,if_neg c];exact h.sl p
 ·rw [apF] at h1 h2
  rw [apF] at h2
  by_cases c:p=e.1.toNat
  ·rw [if_pos c] at h1 h2
   by_cases c2:r=e.1.toNat
   ·rw [c,c2]
   ·rw [if_neg c2] at h2;exact absurd h2.symm (hnF h1 r)
  ·rw [if_neg c] at h1 h2
   by_cases c2:r=e.1.toNat
   ·rw [if_pos c2] at h2;exact absurd h2 (hnF (by omega) p)
   ·rw [if_neg c2] at h2;exact h.oneF p r h1 h2
 ·rw [apT] at h1 h2
  rw [apT] at h2
  by_cases c:p=e.1.toNat
  ·rw [if_pos c] at h1 h2
   by_cases c2:r=e.1.toNat
   ·rw [c,c2]
   ·rw [if_neg c2] at h2;exact absurd h2.symm (hnT h1 r)
  ·rw [if_neg c] at h1 h2
   by_cases c2:r=e.1.toNat
   ·rw [if_pos c2] at h2;exact absurd h2 (hnT (by omega) p)
   ·rw [if_neg c2] at h2;exact h.oneT p r h1 h2
 ·rw [apZ]
  by_cases c:p=e.1.toNat
  ·rw [if_pos c];exact ⟨k3,k4⟩
  ·rw [if_neg c];exact h.st p
end
section
variable {q0:Sw} {W:List (Int × Int × Int × Int)} {D:List (Int × (Nat→Int))}
theorem AW8:∀ j,(E8 q0 W j).a=q0.a∧(E8 q0 W j).n=q0.n∧(E8 q0 W j).pg=q0.pg∧(E8 q0 W j).sl=q0.sl∧(E8 q0 W j).ins=q0.ins∧(E8 q0 W j).outs=q0.outs∧(E8 q0 W j).s=q0.s∧(E8 q0 W j).D=q0.D
 | 0=>⟨rfl,rfl,rfl,rfl,rfl,rfl,rfl,rfl⟩
 | j+1=>AW8 j
theorem AR2:∀ j,(O8 q0 D j).a=q0.a∧(O8 q0 D j).n=q0.n∧(O8 q0 D j).pg=q0.pg∧(O8 q0 D j).sl=q0.sl∧(O8 q0 D j).ins=q0.ins∧(O8 q0 D j).outs=q0.outs∧(O8 q0 D j).s=q0.s∧(O8 q0 D j).F=q0.F∧(O8 q0 D j).T=q0.T∧(O8 q0 D j).Z=q0.Z
 | 0=>⟨rfl,rfl,rfl,rfl,rfl,rfl,rfl,rfl,rfl,rfl⟩
 | j+1=>AR2 j
theorem gq_lyD (h:GQ q0) (j:Nat):GQ (O8 q0 D j):=by
 obtain ⟨e1,e2,e3,e4,_,_,_,e5,e6,e7⟩:=AR2 (q0:=q0) (D:=D) j
 refine ⟨fun p hp=>?_,fun p=>?_,fun p=>?_,fun p r h1 h2=>?_,fun p r h1 h2=>?_,fun p=>?_⟩
 ·rw [e3] at hp;rw [e5,e6];exact h.far p hp
 ·rw [e5,e6,e1,e2];exact h.fr p
 ·rw [e5,e6,e4];exact h.sl p
 ·rw [e5] at h1 h2;exact h.oneF p r h1 h2
 ·rw [e6] at h1 h2;exact h.oneT p r h1 h2
 ·rw [e7];exact h.st p
theorem gq_good {q:Sw} (h:GQ q) (hg:GoodS q.s) (hr:1≤q.n∧q.a+q.n≤1024∧1≤q.pg∧q.pg≤256∧q.sl≤256) (hc:0≤q.ins∧q.ins≤1000000000∧0≤q.outs∧q.outs≤1000000000)
  (hk:∀ f,q.a≤f→f < q.a+q.n→q.s.M f=false∧(q.s.K f=1∨q.s.K f=2)∧(0≤q.inF (f:Nat)→q.s.K f=2)):F5 q:=by
 refine ⟨hg,hr,fun f h1 h2=>⟨(hk f h1 h2).2.1,(hk f h1 h2).1⟩,h.far,fun p=>?_,fun p=>?_,h.oneF,h.oneT,h.st,hc⟩
 ·rcases h.fr p with h1 | ⟨h1,h2,h3⟩
  ·exact .inl h1
  ·obtain ⟨f,hf⟩:=Int.eq_ofNat_of_zero_le (by omega:0≤q.F p)
   refine .inr ⟨h1,f,hf,by omega,by omega,(hk f (by omega) (by omega)).2.2 ?_⟩
   refine Aa2.2 ⟨p,?_,hf⟩
   by_cases hp:p < q.pg
   ·exact hp
   ·have:=(h.far p (by omega)).1;omega
 ·rcases h.sl p with h1 | ⟨h1,h2,h3⟩
  ·exact .inl h1
  ·obtain ⟨k,hk⟩:=Int.eq_ofNat_of_zero_le h2
   exact .inr ⟨h1,k,hk,by omega⟩
end
section
variable {q:Sw}
def inP (q:Sw) (j p:Nat):Prop:=∃ i,i < j∧i < q.pages.length∧nth 0 q.pages i=p
def q00 (q:Sw):Sw:=lq0 q.s q.a q.n q.pg q.sl q.ins q.outs
theorem BU4 (hg:F5 q):∀ j,j≤q.pages.length→∀ p,(inP q j p→(E8 (q00 q) q.whr j).F p=q.F p∧(E8 (q00 q) q.whr j).T p=q.T p∧(E8 (q00 q) q.whr j).Z p=q.Z p)∧(¬ inP q j p→(E8 (q00 q) q.whr j).F p = -1∧(E8 (q00 q) q.whr j).T p = -1)
 | 0,_,p=>⟨fun ⟨i,h,_⟩=>absurd h (Nat.not_lt_zero _),fun _=>⟨rfl,rfl⟩⟩
 | j+1,hj,p=>by
  have ih:=BU4 hg j (by omega) p
  have hw:=AV7 (q:=q) (j:=j) (by omega)
  show (inP q (j+1) p→(apW (E8 (q00 q) q.whr j) (nth d4 q.whr j)).F p=q.F p∧(apW (E8 (q00 q) q.whr j) (nth d4 q.whr j)).T p=q.T p∧(apW (E8 (q00 q) q.whr j) (nth d4 q.whr j)).Z p=q.Z p)∧(¬ inP q (j+1) p→(apW (E8 (q00 q) q.whr j) (nth d4 q.whr j)).F p = -1∧(apW (E8 (q00 q) q.whr j) (nth d4 q.whr j)).T p = -1)
  rw [apF,apT,apZ,hw]
  unfold whE
  dsimp only
  rw [Int.toNat_natCast]
  by_cases c:p=nth 0 q.pages j
  ·rw [if_pos c,if_pos c,if_pos c,← c]
   exact ⟨fun _=>⟨rfl,rfl,rfl⟩,fun h=>absurd ⟨j,by omega,by omega,c.symm⟩ h⟩
  ·rw [if_neg c,if_neg c,if_neg c]
   refine ⟨fun ⟨i,h1,h2,h3⟩=>ih.1 ⟨i,?_,h2,h3⟩,fun h=>ih.2 fun ⟨i,h1,h2,h3⟩=>h ⟨i,by omega,h2,h3⟩⟩
   by_cases e:i=j
   ·subst e;exact absurd h3.symm c
   ·omega
theorem lay_ok (hg:F5 q) {j:Nat} (hj:j < q.pages.length):BL3 (E8 (q00 q) q.whr j) (nth d4 q.whr j):=by
 obtain ⟨e1,e2,e3,e4,-⟩:=AW8 (q0:=q00 q) (W:=q.whr) j
 have hp:=page_lt hj
 have hz:=hg.st (nth 0 q.pages j)
 have hnp:¬ inP q j (nth 0 q.pages j):=fun ⟨i,h1,h2,h3⟩=>by have:=Al6 h2 hj h3;omega
 rw [AV7 hj]
 unfold whE BL3
 rw [e1,e2,e3,e4]
 dsimp only
 refine ⟨⟨Int.natCast_nonneg _,Int.ofNat_lt.2 hp,hz.1,hz.2⟩,?_⟩
 by_cases c:0≤q.F (nth 0 q.pages j)
 ·obtain ⟨f,f1,f2,f3,_⟩:=AA3 hg c
  have hT:q.T (nth 0 q.pages j) = -1:=by rcases AO9 hg (nth 0 q.pages j) with e|e<;>omega
  refine .inl ⟨hT,?_,?_,?_⟩
  ·rw [f1];show ((q.a:Nat):Int)≤_;omega
  ·rw [f1];show _ < ((q.a:Nat):Int)+((q.n:Nat):Int);omega
  ·refine Int.not_le.1 fun h0=>?_
   rw [f1] at h0
   obtain ⟨r,_,hr⟩:=Aa2.1 h0
   obtain ⟨l1,l2⟩:=BU4 hg j (by omega) r
   by_cases hi:inP q j r
   ·rw [(l1 hi).1] at hr
    have:=hg.oneF (nth 0 q.pages j) r c (by omega)
    exact hnp (this▸hi)
   ·rw [(l2 hi).1] at hr;omega
 ·have hF:q.F (nth 0 q.pages j) = -1:=by rcases Af5 hg (nth 0 q.pages j) with e|e<;>omega
  have ht:0≤q.T (nth 0 q.pages j):=(As5 hg hj).resolve_left c
  obtain ⟨k,hk⟩:=Int.eq_ofNat_of_zero_le ht
  have hks:k < q.sl:=by
   rcases hg.sl (nth 0 q.pages j) with h | ⟨_,k',h1,h2⟩<;>omega
  refine .inr ⟨hF,ht,?_,?_⟩
  ·rw [hk];show _ < ((q.sl:Nat):Int);omega
  ·refine Int.not_le.1 fun h0=>?_
   rw [hk] at h0
   obtain ⟨r,_,hr⟩:=Ai7.1 h0
   obtain ⟨l1,l2⟩:=BU4 hg j (by omega) r
   by_cases hi:inP q j r
   ·rw [(l1 hi).2.1] at hr
    have:=hg.oneT (nth 0 q.pages j) r ht (by omega)
    exact hnp (this▸hi)
   ·rw [(l2 hi).2] at hr;omega
theorem BU5 (hg:F5 q) (p:Nat):(E8 (q00 q) q.whr q.pages.length).F p=q.F p∧(E8 (q00 q) q.whr q.pages.length).T p=q.T p∧(q.is p→(E8 (q00 q) q.whr q.pages.length).Z p=q.Z p):=by
 obtain ⟨l1,l2⟩:=BU4 hg q.pages.length (Nat.le_refl _) p
 by_cases hi:q.is p
 ·obtain ⟨j,hj,e⟩:=BL0 hg hi
  obtain ⟨h1,h2,h3⟩:=l1 ⟨j,hj,hj,e⟩
  exact ⟨h1,h2,fun _=>h3⟩
 ·have hn:¬ inP q q.pages.length p:=fun ⟨i,_,h2,h3⟩=>hi (h3▸As5 hg h2)
  obtain ⟨h1,h2⟩:=l2 hn
  unfold Sw.is at hi
  refine ⟨?_,?_,fun h=>absurd h hi⟩
  ·rw [h1];rcases Af5 hg p with e|e<;>omega
  ·rw [h2];rcases AO9 hg p with e|e<;>omega
theorem lay_D {q1:Sw} {D:List (Int × (Nat→Int))} (hs:∀ k,k < D.length→0≤(nth d5 D k).1) (hu:∀ k l,k < D.length→l < D.length→(nth d5 D k).1=(nth d5 D l).1→k=l):∀ j,j≤D.length→∀ i,i < j→(O8 q1 D j).D (nth d5 D i).1.toNat=(nth d5 D i).2
 | 0,_,i,hi=>absurd hi (Nat.not_lt_zero _)
 | j+1,hj,i,hi=>by
  show AA7 (O8 q1 D j).D (nth d5 D j).1.toNat (nth d5 D j).2 (nth d5 D i).1.toNat=_
  by_cases e:i=j
  ·rw [e];exact if_pos rfl
  ·have hne:(nth d5 D i).1.toNat ≠ (nth d5 D j).1.toNat:=fun h=>e (hu i j (by omega) (by omega) (by have:=hs i (by omega);have:=hs j (by omega);omega))
   rw [show AA7 (O8 q1 D j).D (nth d5 D j).1.toNat (nth d5 D j).2 (nth d5 D i).1.toNat=(O8 q1 D j).D (nth d5 D i).1.toNat from if_neg hne]
   exact lay_D hs hu j (by omega) i (by omega)
theorem lay_save (hg:F5 q) {D:List (Int × (Nat→Int))} (hD:D.map swD=q.dsk.map swD):(O8 (E8 (q00 q) q.whr q.whr.length) D D.length).save=q.save:=by
 rw [AB1]
 obtain ⟨e1,e2,e3,e4,e5,e6,e7,e8⟩:=AW8 (q0:=q00 q) (W:=q.whr) q.pages.length
 obtain ⟨d1,d2,d3,d4',d5',d6,d7,d8,d9,d10⟩:=AR2 (q0:=E8 (q00 q) q.whr q.pages.length) (D:=D) D.length
 have hF:(O8 (E8 (q00 q) q.whr q.pages.length) D D.length).F=q.F:=by rw [d8];funext p;exact (BU5 hg p).1
 have hT:(O8 (E8 (q00 q) q.whr q.pages.length) D D.length).T=q.T:=by rw [d9];funext p;exact (BU5 hg p).2.1
 have hZ:∀ p,q.is p→(O8 (E8 (q00 q) q.whr q.pages.length) D D.length).Z p=q.Z p:=fun p hp=>by rw [d10];exact (BU5 hg p).2.2 hp
 have hpg:(O8 (E8 (q00 q) q.whr q.pages.length) D D.length).pg=q.pg:=by rw [d3,e3];rfl
 have hsl:(O8 (E8 (q00 q) q.whr q.pages.length) D D.length).sl=q.sl:=by rw [d4',e4];rfl
 obtain ⟨hlen,hel⟩:=(Am6 (d:=d5)).1 hD
 have hDk:∀ k,q.heldT k→bcA ((O8 (E8 (q00 q) q.whr q.pages.length) D D.length).D k)=bcA (q.D k):=fun k hk=>by
  obtain ⟨i,hi,ei⟩:=List.getElem_of_mem ((AB8 hg).2 hk)
  have hi2:i < q.dsk.length:=by rw [AF0];exact hi
  have hs1:∀ k,k < D.length→(nth d5 D k).1=((nth 0 q.slots k:Nat):Int):=fun k hk=>by
   have h1:=hel k hk
   rw [Ao7 (by rw [← AF0];omega)] at h1
   unfold swD dkE at h1
   have:=(List.cons.inj h1).1
   exact (AV.int.inj this).2
  have hl:=lay_D (q1:=E8 (q00 q) q.whr q.pages.length) (D:=D) (fun k hk=>by rw [hs1 k hk];exact Int.natCast_nonneg _) (fun k l hk hl h=>by
   rw [hs1 k hk,hs1 l hl] at h
   have hk':k < q.slots.length:=by rw [← AF0];omega
   have hl':l < q.slots.length:=by rw [← AF0];omega
   rw [I9 hk',I9 hl'] at h
   have hup:=Ah8 (w:=q)
   rcases Nat.lt_trichotomy k l with hlt|hlt|hlt
   ·have:=List.pairwise_iff_getElem.1 hup k l hk' hl' hlt;omega
   ·exact hlt
   ·have:=List.pairwise_iff_getElem.1 hup l k hl' hk' hlt;omega) D.length (Nat.le_refl _) i (by omega)
  rw [hs1 i (by omega),I9 hi,ei,Int.toNat_natCast] at hl
  rw [hl]
  have h1:=hel i (by omega)
  rw [Ao7 hi] at h1
  unfold swD dkE at h1
  have:=(List.cons.inj h1).2
  rw [I9 hi,ei] at this
  exact this
 generalize O8 (E8 (q00 q) q.whr q.pages.length) D D.length=r at *
 have his:r.pages=q.pages:=by unfold Sw.pages;rw [hpg];refine List.filter_congr fun p _=>decide_eq_decide.2 ?_;unfold Sw.is;rw [hF,hT]
 have hsls:r.slots=q.slots:=by unfold Sw.slots;rw [hsl];refine List.filter_congr fun k _=>decide_eq_decide.2 ?_;unfold Sw.heldT;rw [hT,hpg]
 unfold Sw.save
 refine st_iff.2 ⟨⟨?_,?_,?_,?_,?_,?_⟩,?_,?_⟩
 ·rw [d1,e1];rfl
 ·rw [d2,e2];rfl
 ·rw [hpg]
 ·rw [hsl]
 ·rw [d5',e5];rfl
 ·rw [d6,e6];rfl
 ·unfold Sw.whr
  rw [his,List.map_map,List.map_map]
  refine List.map_congr_left fun p hp=>?_
  show swA (whE r p)=swA (whE q p)
  unfold whE
  rw [hF,hT,hZ p ((AC2 hg).1 hp)]
 ·unfold Sw.dsk
  rw [hsls,List.map_map,List.map_map]
  refine List.map_congr_left fun k hk=>?_
  show swD (dkE r k)=swD (dkE q k)
  unfold dkE swD
  dsimp only
  rw [hDk k ((AB8 hg).1 hk)]
theorem swA_inj {x y:Int × Int × Int × Int} (h:swA x=swA y):x=y:=by
 obtain ⟨a,b,c,d⟩:=x
 obtain ⟨a',b',c',d'⟩:=y
 unfold swA at h
 simp only [List.cons.injEq,AV.int.injEq,true_and,and_true] at h
 obtain ⟨rfl,rfl,rfl,rfl⟩:=h
 rfl
end
end Go.Pol
namespace Go.Proofs.YtbhgfoikbkaohaaGreat.Sh
open Go Go.Am Go.Pol
open Go.Proofs.YtbhgfoikbkaohaaGreat.Sh renaming plx_Sxt → plx
open Go.Proofs.YtbhgfoikbkaohaaGreat.Sh renaming ppx_Sxt → ppx
theorem wx_Sxu {p q:Prop} (hq:q) (h:Y3 q→p:=by (intro hQz;((repeat' ((try (conv=>whnf));first|refine sxA ?_|refine C8 rf_0 ?_|refine C8 rf_1 ?_|refine C8 rf_2 ?_|refine C8 rf_3 ?_|refine C8 rf_4 ?_|refine C8 hF ?_|refine C8 hZ ?_|refine C8 hZb ?_|refine H8 (by rw [U0];omega) hset ?_|refine R4 (by rw [L8];omega) List.drop_zero (J7 (by rw [L8];omega) AG9 ?_)|refine ⟨L8,?_⟩|refine U4 (by simp only [L8,U0];omega) hov ?_|refine sxF ?_|refine Ay6 hT rfl rfl (by decide) rfl ?_|refine K3 (by assumption) rfl (by decide) ?_|refine sxH ?_|((with_reducible first|apply U1 hQz|apply U2 hQz)<;>(try intro hsp hQz))|exact hQz.out))<;>(try (conv=>whnf))))):p:=h ⟨hq⟩
theorem AT2 (a n pg sl:Int):J8 27 [.int .i64 a,.int .i64 n,.int .i64 pg,.int .i64 sl] (.bool (decide (O5 a n pg sl))):=by
 refine J8.mk (R9 G9 b27 J3 ⟨A8,A8,A8,A8,trivial⟩ D5 rfl ?_)
 unfold c27
 (refine wx_Sxu ?_;repeat' (first|with_reducible refine And.intro ?_ ?_|intro hsp))
 all_goals first|(exfalso;omega)|exact K6 (by first|exact decide_eq_decide.2 (by unfold O5;omega)|exact (decide_eq_true (show O5 a n pg sl by unfold O5;omega)).symm|exact (decide_eq_false (show ¬ O5 a n pg sl by unfold O5;omega)).symm)
section
variable {q:Sw}
theorem v_numbers (hp:q.pg≤256) (a now:Int):Ah2 30 [.int .i64 a,.int .i64 now] q (.bool (decide (q.nums a now))) q:=by
 refine Ah2.mk (I8 G9 b30 rfl ?_) (Q9 A8 A8) D5
 unfold c30
 unfold rfN
 (refine wx_Sxu ?_;repeat' (first|with_reducible refine And.intro ?_ ?_|intro hsp))
 all_goals first|(exfalso;omega)|exact AG8 (by first|exact congrArg AV.bool (decide_eq_decide.2 (by unfold Sw.nums;omega))|exact congrArg AV.bool (decide_eq_true (show q.nums a now by unfold Sw.nums;omega)).symm|exact congrArg AV.bool (decide_eq_false (show ¬ q.nums a now by unfold Sw.nums;omega)).symm) D5 rfl rfl
theorem v_slot (hpg:q.pg≤256) (hsl6:q.sl≤256) (g:Int):Ah2 74 [.int .i64 g] q (.int .i64 (opA (q.slot g))) q:=by
 refine Ah2.mk (I8 G9 b74 rfl ?_) (R3 A8) A8
 unfold c74
 unfold rfN
 (refine wx_Sxu ?_;repeat' (first|with_reducible refine And.intro ?_ ?_|intro hsp))
 (refine F9 [0,1] (fun (i:Nat)=>[(5,.int .i64 (i:Nat))]) (fun (i:Nat)=>⟨[(0,.cells (rfC 1 q)),(1,.cells q.s.b)],2⟩) (fun (i:Nat)=>i≤q.sl∧∀ j,j < i→¬ (((j:Nat):Int)=g∨¬ q.heldT j)) (fun (i:Nat)=>q.sl - i) (0) [] rfl (fun _=>by first|exact Nat.zero_le _|(dsimp only;omega)) ?_ (by ((try (conv=>whnf));exact Y4)) ?_)
 ·exact ⟨Nat.zero_le _,fun j hj=>absurd hj (Nat.not_lt_zero _)⟩
 intro i hi
 obtain ⟨hi,hall⟩:=hi
 by_cases hil:i < q.sl
 ·have hT:=v_inT hpg (i:Nat)
  have hh:=Ai7 (q:=q) (f:=i)
  generalize q.inT (i:Nat)=y at *
  by_cases hc:((i:Nat):Int)=g∨¬ q.heldT i
  ·have hsl:q.slot g=some i:=by
    unfold Sw.slot
    exact Aw8 hil (fun j hj=>decide_eq_false (hall j hj)) (decide_eq_true hc)
   rw [hsl]
   have hy:((i:Nat):Int)=g∨y < 0:=hc.imp_right fun h=>by
    rcases Int.lt_or_le y 0 with h2|h2
    ·exact h2
    ·exact absurd (hh.1 h2) h
   clear hh hall hc hsl
   (refine wx_Sxu ?_;repeat' (first|with_reducible refine And.intro ?_ ?_|intro hsp))
   all_goals first|(exfalso;omega)|exact AG8 rfl A8 rfl rfl
  ·have hnext:i+1≤q.sl∧∀ j,j < i+1→¬ (((j:Nat):Int)=g∨¬ q.heldT j):=⟨hil,fun j hj=>by
    by_cases e:j=i
    ·rw [e];exact hc
    ·exact hall j (by omega)⟩
   have hy:¬ ((i:Nat):Int)=g∧0≤y:=⟨fun h=>hc (.inl h),hh.2 (Classical.not_not.1 fun h=>hc (.inr h))⟩
   clear hh hall hc
   (refine wx_Sxu ?_;repeat' (first|with_reducible refine And.intro ?_ ?_|intro hsp))
   all_goals first|(exfalso;omega)|exact D6 (i+1) [] hnext (by first|omega|(dsimp only;omega)) rfl (by exact Y4)
 ·obtain rfl:i=q.sl:=by omega
  have hsl:q.slot g=none:=by
   unfold Sw.slot
   exact BN3 fun j hj=>decide_eq_false (hall j hj)
  rw [hsl]
  (refine wx_Sxu ?_;repeat' (first|with_reducible refine And.intro ?_ ?_|intro hsp))
  all_goals first|(exfalso;omega)|exact AG8 rfl A8 rfl rfl
def vicA (o:Option Nat):AV:=.tup [.int .i64 (match o with|some v=>((v:Nat):Int)|none=>0),.int .i64 (match o with|some _=>0|none=>4)]
theorem Ad3 {o:Option Nat}:Plain (vicA o):=F6 (Q9 A8 A8)
theorem BP8 (hpg:q.pg≤256):Ah2 55 [] q (vicA q.vic) q:=by
 refine Ah2.mk (I8 G9 b55 rfl ?_) (fun x hx=>by cases hx) Ad3
 unfold c55
 unfold rfN
 have hv0:opA (q.vicN 0) = -1:=rfl
 (refine wx_Sxu ?_;repeat' (first|with_reducible refine And.intro ?_ ?_|intro hsp))
 (refine F9 [0,1] (fun (m:Nat)=>[(4,.int .i64 (opA (q.vicN m))),(5,.int .i64 (m:Nat))]) (fun (m:Nat)=>⟨[(0,.cells (rfC 1 q)),(1,.cells q.s.b)],2⟩) (fun (m:Nat)=>m≤q.pg) (fun (m:Nat)=>q.pg - m) (0) [] rfl (fun _=>by first|exact Nat.zero_le _|(dsimp only;omega)) ?_ (by ((try (conv=>whnf));(rw [hv0]);exact Y4)) ?_)
 ·exact Nat.zero_le _
 intro m hm
 by_cases hml:m < q.pg
 ·have hF:=rf_F (s:=1) (q:=q) (p:=m) (by omega)
  have hZ:=rf_Z (s:=1) (q:=q) (p:=m) (by omega)
  have hsp:=(AN7 (w:=q) m).1
  by_cases h0:0≤q.F m
  ·cases hv:q.vicN m with
   | none =>
    have hnx:opA (q.vicN (m+1))=(m:Nat):=by
     show opA (if 0≤q.F m then (match q.vicN m with|none=>some m|some b=>if q.Z m < q.Z b then some m else some b) else q.vicN m)=_
     rw [if_pos h0,hv];rfl
    have hy:opA (none:Option Nat) = -1:=rfl
    rw [hy]
    clear hsp
    (refine wx_Sxu ?_;repeat' (first|with_reducible refine And.intro ?_ ?_|intro hsp))
    all_goals first|(exfalso;omega)|exact D6 (m+1) [] (by (try dsimp only);omega) (by first|omega|(dsimp only;omega)) rfl (by ((try dsimp only);rw [hnx]);exact Y4)
   | some b =>
    obtain ⟨hb,_,_⟩:=hsp b hv
    have hZb:=rf_Z (s:=1) (q:=q) (p:=b) (by omega)
    have hy:opA (some b)=((b:Nat):Int):=rfl
    rw [hy]
    clear hsp
    by_cases hz:q.Z m < q.Z b
    ·have hnx:opA (q.vicN (m+1))=(m:Nat):=by
      show opA (if 0≤q.F m then (match q.vicN m with|none=>some m|some b=>if q.Z m < q.Z b then some m else some b) else q.vicN m)=_
      rw [if_pos h0,hv]
      dsimp only
      rw [if_pos hz];rfl
     (refine wx_Sxu ?_;repeat' (first|with_reducible refine And.intro ?_ ?_|intro hsp))
     all_goals first|(exfalso;omega)|exact D6 (m+1) [] (by (try dsimp only);omega) (by first|omega|(dsimp only;omega)) rfl (by ((try dsimp only);rw [hnx]);exact Y4)
    ·have hnx:opA (q.vicN (m+1))=(b:Nat):=by
      show opA (if 0≤q.F m then (match q.vicN m with|none=>some m|some b=>if q.Z m < q.Z b then some m else some b) else q.vicN m)=_
      rw [if_pos h0,hv]
      dsimp only
      rw [if_neg hz];rfl
     (refine wx_Sxu ?_;repeat' (first|with_reducible refine And.intro ?_ ?_|intro hsp))
     all_goals first|(exfalso;omega)|exact D6 (m+1) [] (by (try dsimp only);omega) (by first|omega|(dsimp only;omega)) rfl (by ((try dsimp only);rw [hnx]);exact Y4)
  ·have hnx:opA (q.vicN (m+1))=opA (q.vicN m):=by
    show opA (if 0≤q.F m then (match q.vicN m with|none=>some m|some b=>if q.Z m < q.Z b then some m else some b) else q.vicN m)=_
    rw [if_neg h0]
   clear hsp
   generalize opA (q.vicN m)=y at *
   (refine wx_Sxu ?_;repeat' (first|with_reducible refine And.intro ?_ ?_|intro hsp))
   all_goals first|(exfalso;omega)|exact D6 (m+1) [] (by (try dsimp only);omega) (by first|omega|(dsimp only;omega)) rfl (by ((try dsimp only);rw [hnx]);exact Y4)
 ·obtain rfl:m=q.pg:=by omega
  show _
  cases hv:q.vic with
  | none =>
   have hy:opA (q.vicN q.pg) = -1:=by rw [show q.vicN q.pg=none from hv];rfl
   rw [hy]
   (refine wx_Sxu ?_;repeat' (first|with_reducible refine And.intro ?_ ?_|intro hsp))
   all_goals first|(exfalso;omega)|exact AG8 rfl Ad3 rfl rfl
  | some b =>
   have hy:opA (q.vicN q.pg)=(b:Nat):=by rw [show q.vicN q.pg=some b from hv];rfl
   rw [hy]
   (refine wx_Sxu ?_;repeat' (first|with_reducible refine And.intro ?_ ?_|intro hsp))
   all_goals first|(exfalso;omega)|exact AG8 rfl Ad3 rfl rfl
theorem v_bytes {f:Nat} (hf:f < 1024) (hk:q.s.K f=2):Ah2 102 [.int .i64 (f:Nat)] q (.agg (bcA (q.s.B f))) q:=by
 refine Ah2.mk (I8 G9 b102 rfl ?_) (R3 A8) Y7
 unfold c102
 unfold rfN
 (refine wx_Sxu ?_;repeat' (first|with_reducible refine And.intro ?_ ?_|intro hsp))
 rw [← rdK_0 (f:=q.s.B f)]
 (refine F9 [0,1,4,5] (fun (k:Nat)=>[(6,.int .i64 (k:Nat))]) (fun (k:Nat)=>⟨[(0,.cells (rfC 1 q)),(1,.cells q.s.b)]++[(2,.cells (memA 64 (rdK (q.s.B f) 0))),(3,.cells (memA 64 (rdK (q.s.B f) k)))],4⟩) (fun (k:Nat)=>k≤64) (fun (k:Nat)=>64 - k) (0) [] rfl (fun _=>by first|exact Nat.zero_le _|(dsimp only;omega)) ?_ (by ((try (conv=>whnf));exact Y4)) ?_)
 ·exact Nat.zero_le _
 intro k hkk
 by_cases hkl:k < 64
 ·have c1:=q_read (s:=q.s) (a:=(f:Int) * 64+(k:Nat))
  rw [read_at hk hf hkl] at c1
  dsimp only at c1
  have hset:=rdK_s (f:=q.s.B f) hkl
  generalize q.s.B f k=y at *
  (refine wx_Sxu ?_;repeat' (first|with_reducible refine And.intro ?_ ?_|intro hsp))
  all_goals first|(exfalso;omega)|exact D6 (k+1) [] (by (try dsimp only);omega) (by first|omega|(dsimp only;omega)) rfl (by exact Y4)
 ·obtain rfl:k=64:=by omega
  rw [rdK_all]
  have hov:over (memA 64 (rdK (q.s.B f) 0)) 0 (bcA (q.s.B f))=bcA (q.s.B f):=AZ8 (pre:=[]) (by rw [L8,U0])
  (refine wx_Sxu ?_;repeat' (first|with_reducible refine And.intro ?_ ?_|intro hsp))
  all_goals first|(exfalso;omega)|exact AG8 rfl Y7 rfl rfl
end
end Go.Proofs.YtbhgfoikbkaohaaGreat.Sh
namespace Go.Pol
open Go.Am Go.Proofs.YtbhgfoikbkaohaaGreat.Sh
theorem put_eq {q:Sw} {p f k:Nat} (hF:q.F p=(f:Nat)):q.put p k={ q with D:=AA7 q.D k (q.s.B f),T:=F4 q.T p (k:Nat),F:=F4 q.F p (-1),outs:=AV1 q.outs }:=by
 unfold Sw.put;rw [hF];rfl
end Go.Pol
namespace Go.Proofs.YtbhgfoikbkaohaaGreat.Sh
open Go Go.Am Go.Pol
open Go.Proofs.YtbhgfoikbkaohaaGreat.Sh renaming plx_Sxt → plx
open Go.Proofs.YtbhgfoikbkaohaaGreat.Sh renaming ppx_Sxt → ppx
theorem wx_Sxv {p q:Prop} (hq:q) (h:Y3 q→p:=by (intro hQz;((repeat' ((try (conv=>whnf));first|refine sxA ?_|refine C8 rf_0 ?_|refine C8 rf_1 ?_|refine C8 rf_2 ?_|refine C8 rf_3 ?_|refine C8 rf_4 ?_|refine C8 hrF ?_|refine ⟨L8,?_⟩|refine U4 (by rw [Y9,L8];omega) (rf_setD hk) ?_|refine H8 (by rw [Y9];omega) (Ac9 hp) ?_|refine H8 (by rw [Y9];omega) (Ad0 hp) ?_|refine C8 (rf_outsE ho (show _=q.outs from rfl)) ?_|refine H8 (by rw [Y9];omega) (Ar7 ho) ?_|refine C8 hF ?_|refine C8 hT ?_|refine sxF ?_|refine dcx_Vk hB rfl rfl rfl rfl ?_|refine Ay6 hB rfl rfl (by decide) rfl ?_|refine K3 hkd rfl (by decide) ?_|refine Ay6 hT rfl rfl (by decide) rfl ?_|refine sxH ?_|((with_reducible first|apply U1 hQz|apply U2 hQz)<;>(try intro hsp hQz))|exact hQz.out))<;>(try (conv=>whnf))))):p:=h ⟨hq⟩
section
variable {q:Sw}
set_option maxRecDepth 20000 in
theorem v_put {p f k:Nat} (hp:p < 256) (hF:q.F p=(f:Nat)) (hf:f < 1024) (hK:q.s.K f=2) (hk:k < 256) (hc:0≤q.outs∧q.outs≤1000000000):Ah2 75 [.int .i64 (p:Nat),.int .i64 (k:Nat)] q (.tup []) (q.put p k):=by
 refine Ah2.mk (I8 G9 b75 rfl ?_) (Q9 A8 A8) O7
 rw [put_eq hF]
 have hB:=v_bytes (q:=q) hf hK
 have hrF:=rf_F (s:=1) (q:=q) hp
 rw [hF] at hrF
 have hadd:=AL6 (x:=q.outs)
 obtain ⟨o,ho⟩:∃ o,o=17158:=⟨_,rfl⟩
 unfold c75
 rw [← ho]
 unfold rfN
 (refine wx_Sxv ?_;repeat' (first|with_reducible refine And.intro ?_ ?_|intro hsp))
 all_goals first|(exfalso;omega)|(simp only [hadd];exact AG8 (q:={ q with D:=AA7 q.D k (q.s.B f),T:=F4 q.T p (k:Nat),F:=F4 q.F p (-1),outs:=AV1 q.outs }) rfl O7 rfl rfl)
end
end Go.Proofs.YtbhgfoikbkaohaaGreat.Sh
namespace Go.Pol
open Go.Am Go.Proofs.YtbhgfoikbkaohaaGreat.Sh
def frL (q:Sw) (i:Nat):Int:=opA ((List.range' (q.a+q.n - i) i).find? fun f=>decide (¬ q.heldF f))
theorem frL_0 {q:Sw}:frL q 0 = -1:=rfl
theorem frL_all {q:Sw}:frL q q.n=opA q.free:=by
 unfold frL Sw.free
 rw [Nat.add_sub_cancel]
theorem frL_s {q:Sw} {i g:Nat} (h:i < q.n) (hg:g=q.a+q.n - 1 - i):frL q (i+1)=if q.heldF g then frL q i else (g:Nat):=by
 unfold frL
 rw [show q.a+q.n - (i+1)=g by omega,List.range'_succ,List.find?_cons,show g+1=q.a+q.n - i by omega]
 by_cases c:q.heldF g
 ·rw [if_pos c];simp [c]
 ·rw [if_neg c];simp [c];rfl
theorem zero_rep:List.replicate 64 (AV.int .u8 0)=bcA fun _=>0:=by
 have:=Aj6
 unfold byE at this
 exact AV.agg.inj this
end Go.Pol
namespace Go.Proofs.YtbhgfoikbkaohaaGreat.Sh
open Go Go.Am Go.Pol
open Go.Proofs.YtbhgfoikbkaohaaGreat.Sh renaming plx_Sxt → plx
open Go.Proofs.YtbhgfoikbkaohaaGreat.Sh renaming ppx_Sxt → ppx
theorem wx_Sxw {p q:Prop} (hq:q) (h:Y3 q→p:=by (intro hQz;((repeat' ((try (conv=>whnf));first|refine sxA ?_|refine C8 rf_0 ?_|refine C8 rf_1 ?_|refine C8 rf_2 ?_|refine C8 rf_3 ?_|refine C8 rf_4 ?_|refine C8 (rf_F hp6) ?_|refine H8 (by rw [Y9];omega) (Av1 hp6) ?_|refine C8 (rf_TE hp6 hT) ?_|refine H8 (by rw [Y9];omega) (BC5 ho) ?_|refine H8 (by rw [Y9];omega) (Ac9 hp6) ?_|refine H8 (by rw [Y9];omega) (Ad0 hp6) ?_|refine C8 (rf_insE ho (show _=q.ins from rfl)) ?_|refine C8 (rf_FE hv6 f0) ?_|refine C8 (rf_TE hp6 hT2) ?_|refine R4 (by rw [Y9];omega) rfl (J7 (by rw [List.length_drop,Y9];omega) (rf_D hk) ?_)|refine ⟨L8,?_⟩|refine U4 (by simp only [List.length_replicate,L8];omega) hov ?_|refine sxF ?_|refine Ay6 hI rfl rfl (by decide) rfl ?_|refine K3 hkd rfl (by decide) ?_|refine AA4 hkd rfl rfl ?_|refine K3 hcom rfl (by decide) ?_|refine AA4 hcom rfl rfl ?_|refine Ay6 hV rfl rfl (by decide) rfl ?_|refine AX4 hV rfl rfl rfl rfl ?_|refine Ay6 hS rfl rfl (by decide) rfl ?_|refine AX4 hS rfl rfl rfl rfl ?_|refine Ay6 hP rfl rfl (by decide) rfl ?_|refine AX4 hP rfl rfl rfl rfl ?_|refine sxH ?_|((with_reducible first|apply U1 hQz|apply U2 hQz)<;>(try intro hsp hQz))|exact hQz.out))<;>(try (conv=>whnf))))):p:=h ⟨hq⟩
theorem wx_Sxwn {p q:Prop} (hq:q) (h:Y3 q→p:=by (intro hQz;((repeat' ((try (conv=>whnf));first|refine sxA ?_|refine C8 rf_0 ?_|refine C8 rf_1 ?_|refine C8 rf_2 ?_|refine C8 rf_3 ?_|refine C8 rf_4 ?_|refine C8 hxk ?_|refine sxN ?_|refine K3 hws rfl (by decide) ?_|refine AA4 hws rfl rfl ?_|refine sxH ?_|((with_reducible first|apply U1 hQz|apply U2 hQz)<;>(try intro hsp hQz))|exact hQz.out))<;>(try (conv=>whnf))))):p:=h ⟨hq⟩
section
variable {q:Sw}
theorem v_touchA {p:Nat} {now:Int} (hp6:p < 256) (hF:0≤q.F p):Ah2 31 [.int .i64 (p:Nat),.int .i64 now] q (.int .i64 0) { q with Z:=F4 q.Z p now }:=by
 refine Ah2.mk (I8 G9 b31 rfl ?_) (Q9 A8 A8) A8
 unfold c31
 unfold rfN
 (refine wx_Sxw ?_;repeat' (first|with_reducible refine And.intro ?_ ?_|intro hsp))
 all_goals first|(exfalso;omega)|exact AG8 (q:={ q with Z:=F4 q.Z p now }) rfl A8 rfl rfl
set_option maxRecDepth 20000 in
theorem v_touchB (hg:F5 q) {p:Nat} {now:Int} (hp:p < q.pg) (hF:¬ 0≤q.F p):Ah2 31 [.int .i64 (p:Nat),.int .i64 now] q (.int .i64 (q.touch p now).1) (q.touch p now).2:=by
 have hrng:=hg.rng
 have hcnt:=hg.cnt
 have hpg:=hrng.2.2.2.1
 have hp6:p < 256:=by omega
 have hadd:=AL6 (x:=q.ins)
 have hz0:=zero_rep
 refine Ah2.mk (I8 G9 b31 rfl ?_) (Q9 A8 A8) A8
 obtain ⟨o,ho⟩:∃ o,o=17157:=⟨_,rfl⟩
 unfold c31
 rw [← ho]
 unfold rfN
 have hl0:=frL_0 (q:=q)
 (refine wx_Sxw ?_;repeat' (first|with_reducible refine And.intro ?_ ?_|intro hsp))
 all_goals first|(exfalso;omega)|skip
 (refine F9 [0,1,2] (fun (i:Nat)=>[(7,.int .i64 (frL q i)),(8,.int .i64 ((q.a:Int)+(q.n:Int) - 1 - (i:Int)))]) (fun (i:Nat)=>⟨[(0,.cells (rfC 1 q)),(1,.cells q.s.b)],2⟩) (fun (i:Nat)=>i≤q.n) (fun (i:Nat)=>q.n - i) (0) [] rfl (fun _=>by first|exact Nat.zero_le _|(dsimp only;omega)) ?_ (by ((try (conv=>whnf));(rw [hl0]);exact Y4)) ?_)
 ·exact Nat.zero_le _
 intro i hi
 clear hl0
 by_cases hil:i < q.n
 ·obtain ⟨g,hge⟩:∃ g:Nat,g=q.a+q.n - 1 - i:=⟨_,rfl⟩
  have hgi:(q.a:Int)+(q.n:Int) - 1 - (i:Int)=((g:Nat):Int):=by omega
  have hfs:=frL_s hil hge
  rw [hgi]
  have hI:=v_inF hpg ((g:Nat):Int)
  have hh:=Aa2 (q:=q) (f:=g)
  generalize q.inF ((g:Nat):Int)=y at *
  by_cases hc:q.heldF g
  ·rw [if_pos hc] at hfs
   have hy:=hh.2 hc
   clear hh hc
   generalize frL q i=z at *
   (refine wx_Sxw ?_;repeat' (first|with_reducible refine And.intro ?_ ?_|intro hsp))
   all_goals first|(exfalso;omega)|exact D6 (i+1) [] (by (try dsimp only);omega) (by first|omega|(dsimp only;omega)) rfl (by ((try dsimp only);rw [hfs]);exact Y4)
  ·rw [if_neg hc] at hfs
   have hy:¬ 0≤y:=fun h=>hc (hh.1 h)
   clear hh hc
   generalize frL q i=z at *
   (refine wx_Sxw ?_;repeat' (first|with_reducible refine And.intro ?_ ?_|intro hsp))
   all_goals first|(exfalso;omega)|exact D6 (i+1) [] (by (try dsimp only);omega) (by first|omega|(dsimp only;omega)) rfl (by ((try dsimp only);rw [hfs]);exact Y4)
 ·obtain rfl:i=q.n:=by omega
  rw [frL_all]
  rcases AO9 hg p with hT | ⟨-,hT0⟩
  ·have hgot:q.got p=fun _=>0:=by unfold Sw.got;rw [if_neg (by omega)]
   cases hfr:q.free with
   | some f =>
    obtain ⟨f1,f2,f3⟩:=AE6 hfr
    have hf4:f < 1024:=by omega
    have hy:opA (some f)=((f:Nat):Int):=rfl
    rw [hy]
    rcases (hg.kind f f1 f2).1 with hk1|hk1
    ·have hkd:=Ar9 (s:=q.s) (a:=(f:Nat))
     rw [AA9 (by omega) hk1] at hkd
     have hcom:=BR6 (s:=q.s) (a:=(f:Nat)) (n:=1) hg.good
     obtain ⟨e,s1,hc⟩:∃ e s1,q.s.chg (f:Nat) 1 1 2 2=(e,s1):=⟨_,_,rfl⟩
     have hcw:=comW hg ⟨f1,f2⟩ hk1 hc
     rw [hc] at hcom
     dsimp only at hcom
     by_cases he:e=0
     ·subst he
      have et:q.touch p now=(0,Sw.brg { q with s:=s1 } p f now (q.got p)):=by unfold Sw.touch;rw [if_neg hF,hfr];dsimp only;rw [if_pos hk1,hc,if_pos rfl]
      rw [et]
      dsimp only
      rw [brg_R,hgot]
      rw [if_neg (by omega)]
      (refine wx_Sxw ?_;repeat' (first|with_reducible refine And.intro ?_ ?_|intro hsp))
      all_goals first|(exfalso;omega)|skip
      rw [hz0]
      have hw0:=BI5 (s:=s1) (f:=f) (x:=fun _=>0)
      (refine F9 [0,7,9] (fun (j:Nat)=>[(17,.int .i64 (j:Nat))]) (fun (j:Nat)=>⟨[(0,.cells (rfC 1 { { q with s:=s1 } with ins:=q.ins,T:=F4 ({ q with s:=s1 }).T p (-1),F:=F4 ({ q with s:=s1 }).F p (f:Nat),Z:=F4 ({ q with s:=s1 }).Z p now })),(1,.cells (wrK s1 f (fun _=>0) j).b),(2,.cells (bcA (fun _=>0)))],3⟩) (fun (j:Nat)=>j≤64) (fun (j:Nat)=>64 - j) (0) [] rfl (fun _=>by first|exact Nat.zero_le _|(dsimp only;omega)) ?_ (by ((try (conv=>whnf));(rw [hw0]);exact Y4)) ?_)
      ·exact Nat.zero_le _
      intro j hj
      clear hw0
      by_cases hjl:j < 64
      ·have hws:=AW5 (s:=wrK s1 f (fun _=>0) j) (a:=(f:Int) * 64+(j:Nat)) (b:=(fun _=>0) j)
       rw [BI4 (hcw.2.1 rfl) hf4 hjl] at hws
       dsimp only at hws
       have hxk:(bcA (fun _=>0))[j]? = some (.int .u8 ((fun _=>0) j)):=M8 hjl
       (refine wx_Sxwn ?_;repeat' (first|with_reducible refine And.intro ?_ ?_|intro hsp))
       all_goals first|(exfalso;omega)|exact D6 (j+1) [] (by (try dsimp only);omega) (by first|omega|(dsimp only;omega)) rfl (by exact Y4)
      ·obtain rfl:j=64:=by omega
       rw [AV4 hcw.1.good]
       (refine wx_Sxw ?_;repeat' (first|with_reducible refine And.intro ?_ ?_|intro hsp))
       all_goals first|(exfalso;omega)|exact AG8 (q:=Ah5 ({ q with s:=s1 }) s1 (q.ins) p f now (fun _=>0)) rfl A8 rfl rfl

     ·have et:q.touch p now=(e,{ q with s:=s1 }):=by unfold Sw.touch;rw [if_neg hF,hfr];dsimp only;rw [if_pos hk1,hc,if_neg he]
      rw [et]
      (refine wx_Sxw ?_;repeat' (first|with_reducible refine And.intro ?_ ?_|intro hsp))
      all_goals first|(exfalso;omega)|exact AG8 (q:={ q with s:=s1 }) rfl A8 rfl rfl
    ·have hkd:=Ar9 (s:=q.s) (a:=(f:Nat))
     rw [AA9 (by omega) hk1] at hkd
     have et:q.touch p now=(0,q.brg p f now (q.got p)):=by unfold Sw.touch;rw [if_neg hF,hfr];dsimp only;rw [if_neg (by omega)]
     rw [et]
     dsimp only
     rw [brg_R0,hgot]
     rw [if_neg (by omega)]
     (refine wx_Sxw ?_;repeat' (first|with_reducible refine And.intro ?_ ?_|intro hsp))
     all_goals first|(exfalso;omega)|skip
     rw [hz0]
     have hw0:=BI5 (s:=q.s) (f:=f) (x:=fun _=>0)
     (refine F9 [0,7,9] (fun (j:Nat)=>[(17,.int .i64 (j:Nat))]) (fun (j:Nat)=>⟨[(0,.cells (rfC 1 { q with ins:=q.ins,T:=F4 (q).T p (-1),F:=F4 (q).F p (f:Nat),Z:=F4 (q).Z p now })),(1,.cells (wrK q.s f (fun _=>0) j).b),(2,.cells (bcA (fun _=>0)))],3⟩) (fun (j:Nat)=>j≤64) (fun (j:Nat)=>64 - j) (0) [] rfl (fun _=>by first|exact Nat.zero_le _|(dsimp only;omega)) ?_ (by ((try (conv=>whnf));(rw [hw0]);exact Y4)) ?_)
     ·exact Nat.zero_le _
     intro j hj
     clear hw0
     by_cases hjl:j < 64
     ·have hws:=AW5 (s:=wrK q.s f (fun _=>0) j) (a:=(f:Int) * 64+(j:Nat)) (b:=(fun _=>0) j)
      rw [BI4 hk1 hf4 hjl] at hws
      dsimp only at hws
      have hxk:(bcA (fun _=>0))[j]? = some (.int .u8 ((fun _=>0) j)):=M8 hjl
      (refine wx_Sxwn ?_;repeat' (first|with_reducible refine And.intro ?_ ?_|intro hsp))
      all_goals first|(exfalso;omega)|exact D6 (j+1) [] (by (try dsimp only);omega) (by first|omega|(dsimp only;omega)) rfl (by exact Y4)
     ·obtain rfl:j=64:=by omega
      rw [AV4 hg.good]
      (refine wx_Sxw ?_;repeat' (first|with_reducible refine And.intro ?_ ?_|intro hsp))
      all_goals first|(exfalso;omega)|exact AG8 (q:=Ah5 (q) q.s (q.ins) p f now (fun _=>0)) rfl A8 rfl rfl

   | none =>
    have hy:opA (none:Option Nat) = -1:=rfl
    rw [hy]
    have hV:=BP8 (q:=q) hpg
    have hS:=v_slot hpg hrng.2.2.2.2 (-1)
    cases hsl:q.slot (-1) with
    | none =>
     rw [hsl] at hS
     have hy2:opA (none:Option Nat) = -1:=rfl
     rw [hy2] at hS
     have et:q.touch p now=(5,q):=by unfold Sw.touch;rw [if_neg hF,hfr];dsimp only;rw [hT,hsl]
     rw [et]
     obtain ⟨v,hv⟩:=AY3 hg hfr
     rw [hv] at hV
     unfold vicA at hV
     dsimp only at hV
     (refine wx_Sxw ?_;repeat' (first|with_reducible refine And.intro ?_ ?_|intro hsp))
     all_goals first|(exfalso;omega)|exact AG8 rfl A8 rfl rfl
    | some k2 =>
     rw [hsl] at hS
     have hy2:opA (some k2)=((k2:Nat):Int):=rfl
     rw [hy2] at hS
     obtain ⟨v,hv⟩:=AY3 hg hfr
     obtain ⟨v1,v2⟩:=vic_at hg hv
     obtain ⟨f,f0,f1,f2,f3⟩:=AA3 hg v2
     have hf4:f < 1024:=by omega
     have hv6:v < 256:=by omega
     have hk2:=(AE0 hsl).1
     rw [hv] at hV
     unfold vicA at hV
     dsimp only at hV
     have hvp:v ≠ p:=fun e=>hF (by rw [← e];exact v2)
     have hP:=v_put (q:=q) hv6 f0 hf4 f3 (k:=k2) (by omega) hcnt.2.2
     have hT2:(q.put v k2).T p = -1:=by
      show F4 q.T v (k2:Nat) p=_
      rw [upd_ne hvp.symm];exact hT
     have et:q.touch p now=(0,(q.put v k2).brg p f now (q.got p)):=by unfold Sw.touch;rw [if_neg hF,hfr];dsimp only;rw [hT,hsl,hv];dsimp only;rw [f0];rfl
     rw [et]
     dsimp only
     rw [put_R hvp,hgot]
     rw [if_neg (by omega)]
     (refine wx_Sxw ?_;repeat' (first|with_reducible refine And.intro ?_ ?_|intro hsp))
     all_goals first|(exfalso;omega)|skip
     rw [hz0]
     have hw0:=BI5 (s:=q.s) (f:=f) (x:=fun _=>0)
     (refine F9 [0,7,9] (fun (j:Nat)=>[(17,.int .i64 (j:Nat))]) (fun (j:Nat)=>⟨[(0,.cells (rfC 1 { q.put v k2 with ins:=q.ins,T:=F4 (q.put v k2).T p (-1),F:=F4 (q.put v k2).F p (f:Nat),Z:=F4 (q.put v k2).Z p now })),(1,.cells (wrK q.s f (fun _=>0) j).b),(2,.cells (bcA (fun _=>0)))],3⟩) (fun (j:Nat)=>j≤64) (fun (j:Nat)=>64 - j) (0) [] rfl (fun _=>by first|exact Nat.zero_le _|(dsimp only;omega)) ?_ (by ((try (conv=>whnf));(rw [hw0]);exact Y4)) ?_)
     ·exact Nat.zero_le _
     intro j hj
     clear hw0
     by_cases hjl:j < 64
     ·have hws:=AW5 (s:=wrK q.s f (fun _=>0) j) (a:=(f:Int) * 64+(j:Nat)) (b:=(fun _=>0) j)
      rw [BI4 f3 hf4 hjl] at hws
      dsimp only at hws
      have hxk:(bcA (fun _=>0))[j]? = some (.int .u8 ((fun _=>0) j)):=M8 hjl
      (refine wx_Sxwn ?_;repeat' (first|with_reducible refine And.intro ?_ ?_|intro hsp))
      all_goals first|(exfalso;omega)|exact D6 (j+1) [] (by (try dsimp only);omega) (by first|omega|(dsimp only;omega)) rfl (by exact Y4)
     ·obtain rfl:j=64:=by omega
      rw [AV4 hg.good]
      (refine wx_Sxw ?_;repeat' (first|with_reducible refine And.intro ?_ ?_|intro hsp))
      all_goals first|(exfalso;omega)|exact AG8 (q:=Ah5 (q.put v k2) q.s (q.ins) p f now (fun _=>0)) rfl A8 rfl rfl
  ·obtain ⟨k,hT⟩:=Int.eq_ofNat_of_zero_le hT0
   have hk:k < 256:=by
    rcases hg.sl p with h | ⟨_,k',h1,h2⟩
    ·omega
    ·omega
   have hgot:q.got p=q.D k:=by unfold Sw.got;rw [if_pos hT0,hT,Int.toNat_natCast]
   have hov:=Z4 (x:=q.D k)
   cases hfr:q.free with
   | some f =>
    obtain ⟨f1,f2,f3⟩:=AE6 hfr
    have hf4:f < 1024:=by omega
    have hy:opA (some f)=((f:Nat):Int):=rfl
    rw [hy]
    rcases (hg.kind f f1 f2).1 with hk1|hk1
    ·have hkd:=Ar9 (s:=q.s) (a:=(f:Nat))
     rw [AA9 (by omega) hk1] at hkd
     have hcom:=BR6 (s:=q.s) (a:=(f:Nat)) (n:=1) hg.good
     obtain ⟨e,s1,hc⟩:∃ e s1,q.s.chg (f:Nat) 1 1 2 2=(e,s1):=⟨_,_,rfl⟩
     have hcw:=comW hg ⟨f1,f2⟩ hk1 hc
     rw [hc] at hcom
     dsimp only at hcom
     by_cases he:e=0
     ·subst he
      have et:q.touch p now=(0,Sw.brg { q with s:=s1 } p f now (q.got p)):=by unfold Sw.touch;rw [if_neg hF,hfr];dsimp only;rw [if_pos hk1,hc,if_pos rfl]
      rw [et]
      dsimp only
      rw [brg_R,hgot]
      rw [if_pos (by omega)]
      (refine wx_Sxw ?_;repeat' (first|with_reducible refine And.intro ?_ ?_|intro hsp))
      all_goals first|(exfalso;omega)|skip
      simp only [hadd]
      have hw0:=BI5 (s:=s1) (f:=f) (x:=q.D k)
      (refine F9 [0,7,9] (fun (j:Nat)=>[(17,.int .i64 (j:Nat))]) (fun (j:Nat)=>⟨[(0,.cells (rfC 1 { { q with s:=s1 } with ins:=AV1 q.ins,T:=F4 ({ q with s:=s1 }).T p (-1),F:=F4 ({ q with s:=s1 }).F p (f:Nat),Z:=F4 ({ q with s:=s1 }).Z p now })),(1,.cells (wrK s1 f (q.D k) j).b),(2,.cells (bcA (q.D k)))],3⟩) (fun (j:Nat)=>j≤64) (fun (j:Nat)=>64 - j) (0) [] rfl (fun _=>by first|exact Nat.zero_le _|(dsimp only;omega)) ?_ (by ((try (conv=>whnf));(rw [hw0]);exact Y4)) ?_)
      ·exact Nat.zero_le _
      intro j hj
      clear hw0
      by_cases hjl:j < 64
      ·have hws:=AW5 (s:=wrK s1 f (q.D k) j) (a:=(f:Int) * 64+(j:Nat)) (b:=(q.D k) j)
       rw [BI4 (hcw.2.1 rfl) hf4 hjl] at hws
       dsimp only at hws
       have hxk:(bcA (q.D k))[j]? = some (.int .u8 ((q.D k) j)):=M8 hjl
       (refine wx_Sxwn ?_;repeat' (first|with_reducible refine And.intro ?_ ?_|intro hsp))
       all_goals first|(exfalso;omega)|exact D6 (j+1) [] (by (try dsimp only);omega) (by first|omega|(dsimp only;omega)) rfl (by exact Y4)
      ·obtain rfl:j=64:=by omega
       rw [AV4 hcw.1.good]
       (refine wx_Sxw ?_;repeat' (first|with_reducible refine And.intro ?_ ?_|intro hsp))
       all_goals first|(exfalso;omega)|exact AG8 (q:=Ah5 ({ q with s:=s1 }) s1 (AV1 q.ins) p f now (q.D k)) rfl A8 rfl rfl

     ·have et:q.touch p now=(e,{ q with s:=s1 }):=by unfold Sw.touch;rw [if_neg hF,hfr];dsimp only;rw [if_pos hk1,hc,if_neg he]
      rw [et]
      (refine wx_Sxw ?_;repeat' (first|with_reducible refine And.intro ?_ ?_|intro hsp))
      all_goals first|(exfalso;omega)|exact AG8 (q:={ q with s:=s1 }) rfl A8 rfl rfl
    ·have hkd:=Ar9 (s:=q.s) (a:=(f:Nat))
     rw [AA9 (by omega) hk1] at hkd
     have et:q.touch p now=(0,q.brg p f now (q.got p)):=by unfold Sw.touch;rw [if_neg hF,hfr];dsimp only;rw [if_neg (by omega)]
     rw [et]
     dsimp only
     rw [brg_R0,hgot]
     rw [if_pos (by omega)]
     (refine wx_Sxw ?_;repeat' (first|with_reducible refine And.intro ?_ ?_|intro hsp))
     all_goals first|(exfalso;omega)|skip
     simp only [hadd]
     have hw0:=BI5 (s:=q.s) (f:=f) (x:=q.D k)
     (refine F9 [0,7,9] (fun (j:Nat)=>[(17,.int .i64 (j:Nat))]) (fun (j:Nat)=>⟨[(0,.cells (rfC 1 { q with ins:=AV1 q.ins,T:=F4 (q).T p (-1),F:=F4 (q).F p (f:Nat),Z:=F4 (q).Z p now })),(1,.cells (wrK q.s f (q.D k) j).b),(2,.cells (bcA (q.D k)))],3⟩) (fun (j:Nat)=>j≤64) (fun (j:Nat)=>64 - j) (0) [] rfl (fun _=>by first|exact Nat.zero_le _|(dsimp only;omega)) ?_ (by ((try (conv=>whnf));(rw [hw0]);exact Y4)) ?_)
     ·exact Nat.zero_le _
     intro j hj
     clear hw0
     by_cases hjl:j < 64
     ·have hws:=AW5 (s:=wrK q.s f (q.D k) j) (a:=(f:Int) * 64+(j:Nat)) (b:=(q.D k) j)
      rw [BI4 hk1 hf4 hjl] at hws
      dsimp only at hws
      have hxk:(bcA (q.D k))[j]? = some (.int .u8 ((q.D k) j)):=M8 hjl
      (refine wx_Sxwn ?_;repeat' (first|with_reducible refine And.intro ?_ ?_|intro hsp))
      all_goals first|(exfalso;omega)|exact D6 (j+1) [] (by (try dsimp only);omega) (by first|omega|(dsimp only;omega)) rfl (by exact Y4)
     ·obtain rfl:j=64:=by omega
      rw [AV4 hg.good]
      (refine wx_Sxw ?_;repeat' (first|with_reducible refine And.intro ?_ ?_|intro hsp))
      all_goals first|(exfalso;omega)|exact AG8 (q:=Ah5 (q) q.s (AV1 q.ins) p f now (q.D k)) rfl A8 rfl rfl

   | none =>
    have hy:opA (none:Option Nat) = -1:=rfl
    rw [hy]
    have hV:=BP8 (q:=q) hpg
    have hS:=v_slot hpg hrng.2.2.2.2 ((k:Nat))
    cases hsl:q.slot ((k:Nat)) with
    | none =>
     rw [hsl] at hS
     have hy2:opA (none:Option Nat) = -1:=rfl
     rw [hy2] at hS
     have et:q.touch p now=(5,q):=by unfold Sw.touch;rw [if_neg hF,hfr];dsimp only;rw [hT,hsl]
     rw [et]
     obtain ⟨v,hv⟩:=AY3 hg hfr
     rw [hv] at hV
     unfold vicA at hV
     dsimp only at hV
     (refine wx_Sxw ?_;repeat' (first|with_reducible refine And.intro ?_ ?_|intro hsp))
     all_goals first|(exfalso;omega)|exact AG8 rfl A8 rfl rfl
    | some k2 =>
     rw [hsl] at hS
     have hy2:opA (some k2)=((k2:Nat):Int):=rfl
     rw [hy2] at hS
     obtain ⟨v,hv⟩:=AY3 hg hfr
     obtain ⟨v1,v2⟩:=vic_at hg hv
     obtain ⟨f,f0,f1,f2,f3⟩:=AA3 hg v2
     have hf4:f < 1024:=by omega
     have hv6:v < 256:=by omega
     have hk2:=(AE0 hsl).1
     rw [hv] at hV
     unfold vicA at hV
     dsimp only at hV
     have hvp:v ≠ p:=fun e=>hF (by rw [← e];exact v2)
     have hP:=v_put (q:=q) hv6 f0 hf4 f3 (k:=k2) (by omega) hcnt.2.2
     have hT2:(q.put v k2).T p=(k:Nat):=by
      show F4 q.T v (k2:Nat) p=_
      rw [upd_ne hvp.symm];exact hT
     have et:q.touch p now=(0,(q.put v k2).brg p f now (q.got p)):=by unfold Sw.touch;rw [if_neg hF,hfr];dsimp only;rw [hT,hsl,hv];dsimp only;rw [f0];rfl
     rw [et]
     dsimp only
     rw [put_R hvp,hgot]
     rw [if_pos (by omega)]
     (refine wx_Sxw ?_;repeat' (first|with_reducible refine And.intro ?_ ?_|intro hsp))
     all_goals first|(exfalso;omega)|skip
     simp only [hadd]
     have hw0:=BI5 (s:=q.s) (f:=f) (x:=q.D k)
     (refine F9 [0,7,9] (fun (j:Nat)=>[(17,.int .i64 (j:Nat))]) (fun (j:Nat)=>⟨[(0,.cells (rfC 1 { q.put v k2 with ins:=AV1 q.ins,T:=F4 (q.put v k2).T p (-1),F:=F4 (q.put v k2).F p (f:Nat),Z:=F4 (q.put v k2).Z p now })),(1,.cells (wrK q.s f (q.D k) j).b),(2,.cells (bcA (q.D k)))],3⟩) (fun (j:Nat)=>j≤64) (fun (j:Nat)=>64 - j) (0) [] rfl (fun _=>by first|exact Nat.zero_le _|(dsimp only;omega)) ?_ (by ((try (conv=>whnf));(rw [hw0]);exact Y4)) ?_)
     ·exact Nat.zero_le _
     intro j hj
     clear hw0
     by_cases hjl:j < 64
     ·have hws:=AW5 (s:=wrK q.s f (q.D k) j) (a:=(f:Int) * 64+(j:Nat)) (b:=(q.D k) j)
      rw [BI4 f3 hf4 hjl] at hws
      dsimp only at hws
      have hxk:(bcA (q.D k))[j]? = some (.int .u8 ((q.D k) j)):=M8 hjl
      (refine wx_Sxwn ?_;repeat' (first|with_reducible refine And.intro ?_ ?_|intro hsp))
      all_goals first|(exfalso;omega)|exact D6 (j+1) [] (by (try dsimp only);omega) (by first|omega|(dsimp only;omega)) rfl (by exact Y4)
     ·obtain rfl:j=64:=by omega
      rw [AV4 hg.good]
      (refine wx_Sxw ?_;repeat' (first|with_reducible refine And.intro ?_ ?_|intro hsp))
      all_goals first|(exfalso;omega)|exact AG8 (q:=Ah5 (q.put v k2) q.s (AV1 q.ins) p f now (q.D k)) rfl A8 rfl rfl
end
end Go.Proofs.YtbhgfoikbkaohaaGreat.Sh
namespace Go.Proofs.YtbhgfoikbkaohaaGreat.Sh
open Go Go.Am Go.Pol
theorem wx_Sxxn {p q:Prop} (hq:q) (h:Y3 q→p:=by (intro hQz;((repeat' ((try (conv=>whnf));first|refine sxA ?_|refine AE7 hq64 ?_|refine AE7 hm64 ?_|refine C8 rf_0 ?_|refine C8 rf_1 ?_|refine C8 rf_2 ?_|refine C8 rf_3 ?_|refine C8 rf_4 ?_|refine C8 (rf_FE hp6 f0) ?_|refine C8 (rf_F hp6) ?_|refine C8 (rf_T hp6) ?_|refine H8 (by rw [Y9];omega) (Ac9 hp6) ?_|refine H8 (by rw [Y9];omega) (Ad0 hp6) ?_|refine H8 (by rw [Y9];omega) (Av1 hp6) ?_|refine sxN ?_|refine Ay6 hN rfl rfl (by decide) rfl ?_|refine AX4 hN rfl rfl rfl rfl ?_|refine Ay6 hT rfl rfl (by decide) rfl ?_|refine AX4 hT rfl rfl rfl rfl ?_|refine K3 hR rfl (by decide) ?_|refine AA4 hR rfl rfl ?_|refine Ay6 hS rfl rfl (by decide) rfl ?_|refine AX4 hS rfl rfl rfl rfl ?_|refine Ay6 hP rfl rfl (by decide) rfl ?_|refine AX4 hP rfl rfl rfl rfl ?_|refine K3 hdec rfl (by decide) ?_|refine AA4 hdec rfl rfl ?_|refine sxH ?_|((with_reducible first|apply U1 hQz|apply U2 hQz)<;>(try intro hsp hQz))|exact hQz.out))<;>(try (conv=>whnf))))):p:=h ⟨hq⟩
theorem wx_Sxx {p q:Prop} (hq:q) (h:Y3 q→p:=by (intro hQz;((repeat' ((try (conv=>whnf));first|refine sxA ?_|refine AE7 hq64 ?_|refine AE7 hm64 ?_|refine C8 rf_0 ?_|refine C8 rf_1 ?_|refine C8 rf_2 ?_|refine C8 rf_3 ?_|refine C8 rf_4 ?_|refine C8 (rf_F hp6) ?_|refine C8 (rf_T hp6) ?_|refine H8 (by rw [Y9];omega) (Ac9 hp6) ?_|refine H8 (by rw [Y9];omega) (Ad0 hp6) ?_|refine H8 (by rw [Y9];omega) (Av1 hp6) ?_|refine sxF ?_|refine Ay6 hN rfl rfl (by decide) rfl ?_|refine AX4 hN rfl rfl rfl rfl ?_|refine Ay6 hT rfl rfl (by decide) rfl ?_|refine AX4 hT rfl rfl rfl rfl ?_|refine Ay6 hS rfl rfl (by decide) rfl ?_|refine AX4 hS rfl rfl rfl rfl ?_|refine sxH ?_|((with_reducible first|apply U1 hQz|apply U2 hQz)<;>(try intro hsp hQz))|exact hQz.out))<;>(try (conv=>whnf))))):p:=h ⟨hq⟩
section
variable {q:Sw}
theorem v_touch (hg:F5 q) {p:Nat} {now:Int} (hp:p < q.pg):Ah2 31 [.int .i64 (p:Nat),.int .i64 now] q (.int .i64 (q.touch p now).1) (q.touch p now).2:=by
 by_cases hF:0≤q.F p
 ·have e:q.touch p now=(0,{ q with Z:=F4 q.Z p now }):=by unfold Sw.touch;rw [if_pos hF]
  rw [e]
  have:=hg.rng
  exact v_touchA (by omega) hF
 ·exact v_touchB hg hp hF
theorem v_Write (hg:F5 q) (at_ now v:Int):Ah2 9 [.int .i64 at_,.int .i64 now,.int .u8 v] q (.int .i64 (q.write at_ now v).1) (q.write at_ now v).2:=by
 have hrng:=hg.rng
 have hN:=v_numbers (q:=q) hrng.2.2.2.1 at_ now
 refine Ah2.mk (I8 G9 b9 rfl ?_) (plain_three A8 A8 A8) A8
 unfold c9
 unfold rfN
 by_cases hn:q.nums at_ now
 ·rw [decide_eq_true hn] at hN
  obtain ⟨n1,n2,n3,n4⟩:=hn
  obtain ⟨a,rfl⟩:=Int.eq_ofNat_of_zero_le n1
  have ha:a < 100000:=by omega
  have hp6:a / 64 < 256:=by omega
  have hq64:=q64 ha
  have hm64:=m64 (t:=a)
  have hml:a % 64 < 64:=Nat.mod_lt _ (by decide)
  have hT:=v_touch hg (p:=a / 64) (now:=now) (by omega)
  by_cases he:(q.touch (a / 64) now).1=0
  ·have er:q.write (a:Nat) now v=(q.touch (a / 64) now).2.byte (a:Nat) v:=by
    unfold Sw.write
    rw [if_neg (Classical.not_not.2 ⟨n1,n2,n3,n4⟩),Int.toNat_natCast,if_pos he]
   rw [er]
   rcases AY5 hg (p:=a / 64) now with hy|hno
   ·have hg2:=AD9 hg (p:=a / 64) (now:=now) (by omega) ⟨n3,n4⟩
    rw [he] at hT
    obtain ⟨f,f0,f1,f2,_⟩:=AA3 hg2 hy.fr
    have hr2:=hg2.rng
    have hR:=AW5 (s:=(q.touch (a / 64) now).2.s) (a:=((f:Nat):Int) * 64+((a % 64:Nat):Int)) (b:=v)
    unfold Sw.byte
    dsimp only
    rw [Int.toNat_natCast,f0,emod64]
    have hf4:f < 1024:=by omega
    clear hy hg2 er he hrng f1 f2 hr2
    generalize (q.touch (a / 64) now).2=q2 at *
    generalize q2.s.write (((f:Nat):Int) * 64+((a % 64:Nat):Int)) v=w at *
    (refine wx_Sxxn ?_;repeat' (first|with_reducible refine And.intro ?_ ?_|intro hsp))
    all_goals first|(exfalso;omega)|exact AG8 (q:={ q2 with s:=w.2 }) rfl A8 rfl rfl
   ·exact absurd he hno.e
  ·have er:q.write (a:Nat) now v=q.touch (a / 64) now:=by
    unfold Sw.write
    rw [if_neg (Classical.not_not.2 ⟨n1,n2,n3,n4⟩),Int.toNat_natCast,if_neg he]
   rw [er]
   generalize q.touch (a / 64) now=r at *
   (refine wx_Sxx ?_;repeat' (first|with_reducible refine And.intro ?_ ?_|intro hsp))
   all_goals first|(exfalso;omega)|exact AG8 (q:=r.2) rfl A8 rfl rfl
 ·have er:q.write at_ now v=(7,q):=by unfold Sw.write;rw [if_pos hn]
  rw [er]
  rw [decide_eq_false hn] at hN
  (refine wx_Sxx ?_;repeat' (first|with_reducible refine And.intro ?_ ?_|intro hsp))
  all_goals first|(exfalso;omega)|exact AG8 rfl A8 rfl rfl
end
end Go.Proofs.YtbhgfoikbkaohaaGreat.Sh
