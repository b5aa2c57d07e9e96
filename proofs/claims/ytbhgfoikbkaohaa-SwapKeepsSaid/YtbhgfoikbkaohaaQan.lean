/-
 A store of pages in frames and slots,plain: what each call does.
 A store of pages in frames and slots,plain: a touch keeps a good one.
 A store of pages in frames and slots,plain: calls keep a good one.
 A store of pages in frames and slots,plain: what pages have.
 A store of pages in frames and slots,plain: reads,writes,pages put out or freed.
 A store of pages in frames and slots,plain: Out,Free;any call;bytes (SwapBytes,SwapKeeps).
 A store of pages in frames and slots,plain: with more frames no more pages are brought in (SwapFewer).
 A store of pages in frames and slots,plain: two stores (SwapFewer).
 A store of pages in frames and slots,plain: victims (SwapVictims);counts (SwapFits).
 A store of pages in frames and slots,plain: all pages are freed (SwapFits' end);a new store.
 A store of pages in frames and slots,plain: pages outside of it;a new one;slots that are held.
 A store: its memory,and contracts over it.
 Several slices of their own that grow: they stand one behind the other at the heap's end. No program in sight.
 A call that makes one block,in a region that draws its order;a call that reads alone. No program in sight.
-/
import Derived.Test.YtbhgfoikbkaohaaQam
set_option linter.unusedSimpArgs false
set_option linter.unusedVariables false
namespace Go.Pol
open Go.Am Go.Proofs.Ytbhgfoikbkaohaa.Sh
structure Sw where
 a:Nat
 n:Nat
 pg:Nat
 sl:Nat
 F:Nat→Int
 T:Nat→Int
 Z:Nat→Int
 D:Nat→Nat→Int
 ins:Int
 outs:Int
 s:Sy
def Sw.heldF (w:Sw) (f:Nat):Prop:=∃ p,p < w.pg∧w.F p=(f:Nat)
def Sw.heldT (w:Sw) (k:Nat):Prop:=∃ p,p < w.pg∧w.T p=(k:Nat)
instance (w:Sw) (f:Nat):Decidable (w.heldF f):=decidable_of_iff (∃ p,p ∈ List.range w.pg∧w.F p=(f:Nat)) (by simp [Sw.heldF])
instance (w:Sw) (f:Nat):Decidable (w.heldT f):=decidable_of_iff (∃ p,p ∈ List.range w.pg∧w.T p=(f:Nat)) (by simp [Sw.heldT])
def Sw.free (w:Sw):Option Nat:=(List.range' w.a w.n).find? fun f=>decide (¬ w.heldF f)
def Sw.slot (w:Sw) (g:Int):Option Nat:=(List.range w.sl).find? fun k=>decide (((k:Nat):Int)=g∨¬ w.heldT k)
def Sw.vicN (w:Sw):Nat→Option Nat
 | 0=>none
 | m+1=>if 0≤w.F m then (match w.vicN m with
  | none=>some m
  | some b=>if w.Z m < w.Z b then some m else some b) else w.vicN m
def Sw.vic (w:Sw):Option Nat:=w.vicN w.pg
def AZ2 (x:Int):Int:=if 1000000000≤x+1 then 1000000000 else x+1
def Sw.put (w:Sw) (v k:Nat):Sw:={ w with D:=AD9 w.D k (w.s.B (w.F v).toNat),T:=E9 w.T v (k:Nat),F:=E9 w.F v (-1),outs:=AZ2 w.outs }
def Sw.brg (w:Sw) (p f:Nat) (now:Int) (x:Nat→Int):Sw:={ w with ins:=if 0≤w.T p then AZ2 w.ins else w.ins,T:=E9 w.T p (-1),F:=E9 w.F p (f:Nat),Z:=E9 w.Z p now,s:=w.s.page f x }
def Sw.got (w:Sw) (p:Nat):Nat→Int:=if 0≤w.T p then w.D (w.T p).toNat else fun _=>0
def Sw.touch (w:Sw) (p:Nat) (now:Int):Int × Sw :=
 if 0≤w.F p then (0,{ w with Z:=E9 w.Z p now }) else
 match w.free with
 | some f=>if w.s.K f=1 then (if (w.s.chg (f:Nat) 1 1 2 2).1=0 then (0,Sw.brg { w with s:=(w.s.chg (f:Nat) 1 1 2 2).2 } p f now (w.got p)) else ((w.s.chg (f:Nat) 1 1 2 2).1,{ w with s:=(w.s.chg (f:Nat) 1 1 2 2).2 }))
  else (0,w.brg p f now (w.got p))
 | none=>match w.slot (w.T p),w.vic with
  | some k,some v=>(0,(w.put v k).brg p (w.F v).toNat now (w.got p))
  | _,_=>(5,w)
def Sw.nums (w:Sw) (t now:Int):Prop:=0≤t∧t < (w.pg:Nat) * 64∧0≤now∧now≤1000000000000
instance (w:Sw) (t now:Int):Decidable (w.nums t now):=by unfold Sw.nums;infer_instance
def Sw.is (w:Sw) (p:Nat):Prop:=0≤w.F p∨0≤w.T p
instance (w:Sw) (p:Nat):Decidable (w.is p):=by unfold Sw.is;infer_instance
def Sw.read (w:Sw) (t now:Int):Int × Int × Sw :=
 if ¬ w.nums t now then (0,7,w) else if ¬ w.is (t.toNat / 64) then (0,0,w) else
 if (w.touch (t.toNat / 64) now).1=0 then (((w.touch (t.toNat / 64) now).2.s.read ((w.touch (t.toNat / 64) now).2.F (t.toNat / 64) * 64+t % 64)).1,((w.touch (t.toNat / 64) now).2.s.read ((w.touch (t.toNat / 64) now).2.F (t.toNat / 64) * 64+t % 64)).2,(w.touch (t.toNat / 64) now).2)
 else (0,(w.touch (t.toNat / 64) now).1,(w.touch (t.toNat / 64) now).2)
def Sw.byte (w:Sw) (t v:Int):Int × Sw:=((w.s.write (w.F (t.toNat / 64) * 64+t % 64) v).1,{ w with s:=(w.s.write (w.F (t.toNat / 64) * 64+t % 64) v).2 })
def Sw.write (w:Sw) (t now v:Int):Int × Sw :=
 if ¬ w.nums t now then (7,w) else
 if (w.touch (t.toNat / 64) now).1=0 then (w.touch (t.toNat / 64) now).2.byte t v else w.touch (t.toNat / 64) now
def Sw.gone (w:Sw) (f:Int):Sw:={ w with s:=(w.s.chg f 1 2 1 3).2 }
def Sw.out (w:Sw) (p:Int):Int × Sw :=
 if ¬ (0≤p∧p < (w.pg:Nat)) then (7,w) else if w.F p.toNat < 0 then (4,w) else match w.slot (-1) with
 | none=>(5,w)
 | some k=>(0,(w.put p.toNat k).gone (w.F p.toNat))
def Sw.fre (w:Sw) (p:Int):Int × Sw :=
 if ¬ (0≤p∧p < (w.pg:Nat)) then (7,w) else if ¬ w.is p.toNat then (4,w) else
 (0,if 0≤w.F p.toNat then Sw.gone { w with F:=E9 w.F p.toNat (-1),T:=E9 w.T p.toNat (-1),Z:=E9 w.Z p.toNat 0 } (w.F p.toNat) else { w with F:=E9 w.F p.toNat (-1),T:=E9 w.T p.toNat (-1),Z:=E9 w.Z p.toNat 0 })
structure E5 (w:Sw):Prop where
 good:GoodS w.s
 rng:1≤w.n∧w.a+w.n≤1024∧1≤w.pg∧w.pg≤256∧w.sl≤256
 kind:∀ f,w.a≤f→f < w.a+w.n→(w.s.K f=1∨w.s.K f=2)∧w.s.M f=false
 far:∀ p,w.pg≤p→w.F p = -1∧w.T p = -1
 fr:∀ p,w.F p = -1∨(w.T p = -1∧∃ f:Nat,w.F p=(f:Nat)∧w.a≤f∧f < w.a+w.n∧w.s.K f=2)
 sl:∀ p,w.T p = -1∨(w.F p = -1∧∃ k:Nat,w.T p=(k:Nat)∧k < w.sl)
 oneF:∀ p q,0≤w.F p→w.F p=w.F q→p=q
 oneT:∀ p q,0≤w.T p→w.T p=w.T q→p=q
 st:∀ p,0≤w.Z p∧w.Z p≤1000000000000
 cnt:0≤w.ins∧w.ins≤1000000000∧0≤w.outs∧w.outs≤1000000000
end Go.Pol
namespace Go.Pol
open Go.Am Go.Proofs.Ytbhgfoikbkaohaa.Sh
section
variable {w:Sw}
theorem D6 {f:Nat→Int} {i:Nat} {v:Int}:E9 f i v i=v:=if_pos rfl
theorem upd_ne {f:Nat→Int} {i j:Nat} {v:Int} (h:j ≠ i):E9 f i v j=f j:=if_neg h
theorem AF1 {f:Nat} (h:w.free=some f):w.a≤f∧f < w.a+w.n∧¬ w.heldF f:=by
 have h1:=List.mem_of_find?_eq_some h
 have h2:=List.find?_some h
 rw [List.mem_range'_1] at h1
 exact ⟨h1.1,h1.2,by simpa using h2⟩
theorem BM0 (h:w.free=none):∀ f,w.a≤f→f < w.a+w.n→w.heldF f:=fun f h1 h2=>by
 have:=List.find?_eq_none.1 h f (List.mem_range'_1.2 ⟨h1,h2⟩)
 simpa using this
theorem AE2 {g:Int} {k:Nat} (h:w.slot g=some k):k < w.sl∧(((k:Nat):Int)=g∨¬ w.heldT k):=by
 have h1:=List.mem_of_find?_eq_some h
 have h2:=List.find?_some h
 exact ⟨List.mem_range.1 h1,by simpa using h2⟩
theorem AL4:∀ m,(∀ v,w.vicN m=some v→v < m∧0≤w.F v∧∀ q,q < m→0≤w.F q→w.Z v < w.Z q∨(w.Z v=w.Z q∧v≤q))∧(w.vicN m=none→∀ q,q < m→w.F q < 0)
 | 0=>⟨fun v h=>(by cases h),fun _ q hq=>(by omega)⟩
 | m+1=>by
  obtain ⟨i1,i2⟩:=AL4 m
  unfold Sw.vicN
  by_cases h0:0≤w.F m
  ·rw [if_pos h0]
   cases hv:w.vicN m with
   | none =>
    refine ⟨fun v h=>?_,fun h=>by cases h⟩
    cases h
    refine ⟨by omega,h0,fun q hq hF=>?_⟩
    by_cases e:q=m
    ·subst e;exact .inr ⟨rfl,Nat.le_refl _⟩
    ·have:=i2 hv q (by omega);omega
   | some b =>
    obtain ⟨j1,j2,j3⟩:=i1 b hv
    dsimp only
    by_cases hlt:w.Z m < w.Z b
    ·rw [if_pos hlt]
     refine ⟨fun v h=>?_,fun h=>by cases h⟩
     cases h
     refine ⟨by omega,h0,fun q hq hF=>?_⟩
     by_cases e:q=m
     ·subst e;exact .inr ⟨rfl,Nat.le_refl _⟩
     ·have:=j3 q (by omega) hF;omega
    ·rw [if_neg hlt]
     refine ⟨fun v h=>?_,fun h=>by cases h⟩
     cases h
     refine ⟨by omega,j2,fun q hq hF=>?_⟩
     by_cases e:q=m
     ·subst e;omega
     ·exact j3 q (by omega) hF
  ·rw [if_neg h0]
   refine ⟨fun v h=>?_,fun h q hq=>?_⟩
   ·obtain ⟨j1,j2,j3⟩:=i1 v h
    refine ⟨by omega,j2,fun q hq hF=>j3 q ?_ hF⟩
    by_cases e:q=m
    ·subst e;exact absurd hF h0
    ·omega
   ·by_cases e:q=m
    ·subst e;omega
    ·exact i2 h q (by omega)
inductive SwT (w:Sw) (p:Nat) (now:Int):Int × Sw→Prop
 | here (h:0≤w.F p):SwT w p now (0,{ w with Z:=E9 w.Z p now })
 | no (f:Nat) (s':Sy) (e:Int) (hn:¬ 0≤w.F p) (hf:w.free=some f) (hk:w.s.K f=1) (hc:w.s.chg (f:Nat) 1 1 2 2=(e,s')) (he:e ≠ 0):SwT w p now (e,{ w with s:=s' })
 | new (f:Nat) (s':Sy) (hn:¬ 0≤w.F p) (hf:w.free=some f) (hs:(w.s.K f ≠ 1∧s'=w.s)∨(w.s.K f=1∧w.s.chg (f:Nat) 1 1 2 2=(0,s'))):SwT w p now (0,Sw.brg { w with s:=s' } p f now (w.got p))
 | full (hn:¬ 0≤w.F p) (hf:w.free=none) (hs:w.slot (w.T p)=none∨w.vic=none):SwT w p now (5,w)
 | swp (k v:Nat) (hn:¬ 0≤w.F p) (hf:w.free=none) (hk:w.slot (w.T p)=some k) (hv:w.vic=some v):SwT w p now (0,(w.put v k).brg p (w.F v).toNat now (w.got p))
theorem Ag2 (p:Nat) (now:Int):SwT w p now (w.touch p now):=by
 unfold Sw.touch
 split
 ·rename_i h;exact .here h
 rename_i hn
 cases hf:w.free with
 | some f =>
  dsimp only
  split
  ·rename_i hk
   cases hc:w.s.chg (f:Nat) 1 1 2 2 with
   | mk e s' =>
    dsimp only
    split
    ·rename_i he;subst he;exact .new f s' hn hf (.inr ⟨hk,hc⟩)
    ·rename_i he;exact .no f s' e hn hf hk hc he
  ·rename_i hk;exact .new f w.s hn hf (.inl ⟨hk,rfl⟩)
 | none =>
  dsimp only
  cases hk:w.slot (w.T p) with
  | none=>exact .full hn hf (.inl hk)
  | some k =>
   cases hv:w.vic with
   | none=>exact .full hn hf (.inr hv)
   | some v=>exact .swp k v hn hf hk hv
theorem BC5 {x:Int} (h:0≤x∧x≤1000000000):0≤AZ2 x∧AZ2 x≤1000000000:=by unfold AZ2;split<;>omega
theorem AY6 (h:E5 w) {s':Sy} (hg:GoodS s') (hk:∀ f,w.a≤f→f < w.a+w.n→(s'.K f=1∨s'.K f=2)∧s'.M f=false) (hu:∀ f,w.heldF f→s'.K f=2):E5 { w with s:=s' }:=by
 refine ⟨hg,h.rng,hk,h.far,fun p=>?_,h.sl,h.oneF,h.oneT,h.st,h.cnt⟩
 rcases h.fr p with h1 | ⟨h1,f,h2,h3,h4,h5⟩
 ·exact .inl h1
 ·refine .inr ⟨h1,f,h2,h3,h4,hu f ⟨p,?_,h2⟩⟩
  by_cases hp:p < w.pg
  ·exact hp
  ·have:=(h.far p (by omega)).1;omega
theorem BG1 (h:E5 w) {p f:Nat} {now:Int} {x:Nat→Int} (hp:p < w.pg) (hn:¬ 0≤w.F p) (hf:w.a≤f∧f < w.a+w.n) (hh:¬ w.heldF f) (hk:w.s.K f=2) (hnow:0≤now∧now≤1000000000000):E5 (w.brg p f now x):=by
 have hno:∀ q,w.F q ≠ (f:Nat):=fun q hq=>hh ⟨q,by
  by_cases hp:q < w.pg
  ·exact hp
  ·have:=(h.far q (by omega)).1;omega,hq⟩
 refine ⟨good_page h.good hk,h.rng,h.kind,fun q hq=>?_,fun q=>?_,fun q=>?_,fun q r h1 h2=>?_,fun q r h1 h2=>?_,fun q=>?_,?_⟩
 ·have hq:w.pg≤q:=hq
  exact ⟨(upd_ne (by omega)).trans (h.far q hq).1,(upd_ne (by omega)).trans (h.far q hq).2⟩
 ·show E9 w.F p (f:Nat) q = -1∨(E9 w.T p (-1) q = -1∧∃ g:Nat,E9 w.F p (f:Nat) q=(g:Nat)∧w.a≤g∧g < w.a+w.n∧w.s.K g=2)
  by_cases e:q=p
  ·subst e;rw [D6,D6];exact .inr ⟨rfl,f,rfl,hf.1,hf.2,hk⟩
  ·rw [upd_ne e,upd_ne e];exact h.fr q
 ·show E9 w.T p (-1) q = -1∨(E9 w.F p (f:Nat) q = -1∧∃ k:Nat,E9 w.T p (-1) q=(k:Nat)∧k < w.sl)
  by_cases e:q=p
  ·subst e;rw [D6];exact .inl rfl
  ·rw [upd_ne e,upd_ne e];exact h.sl q
 ·have h1:0≤E9 w.F p (f:Nat) q:=h1
  have h2:E9 w.F p (f:Nat) q=E9 w.F p (f:Nat) r:=h2
  by_cases e:q=p
  ·by_cases e2:r=p
   ·rw [e,e2]
   ·rw [e,D6,upd_ne e2] at h2;exact absurd h2.symm (hno r)
  ·by_cases e2:r=p
   ·rw [upd_ne e,e2,D6] at h2;exact absurd h2 (hno q)
   ·rw [upd_ne e] at h1 h2;rw [upd_ne e2] at h2;exact h.oneF q r h1 h2
 ·have h1:0≤E9 w.T p (-1) q:=h1
  have h2:E9 w.T p (-1) q=E9 w.T p (-1) r:=h2
  by_cases e:q=p
  ·rw [e,D6] at h1;exact absurd h1 (by decide)
  ·by_cases e2:r=p
   ·rw [upd_ne e] at h1 h2;rw [e2,D6] at h2;omega
   ·rw [upd_ne e] at h1 h2;rw [upd_ne e2] at h2;exact h.oneT q r h1 h2
 ·show 0≤E9 w.Z p now q∧E9 w.Z p now q≤1000000000000
  by_cases e:q=p
  ·subst e;rw [D6];exact hnow
  ·rw [upd_ne e];exact h.st q
 ·obtain ⟨c1,c2,c3,c4⟩:=h.cnt
  have:=BC5 ⟨c1,c2⟩
  show 0≤(if 0≤w.T p then AZ2 w.ins else w.ins)∧(if 0≤w.T p then AZ2 w.ins else w.ins)≤1000000000∧0≤w.outs∧w.outs≤1000000000
  split<;>omega
theorem At6 (h:E5 w) {v k:Nat} (hv:v < w.pg) (h0:0≤w.F v) (hk:k < w.sl) (hh:¬ w.heldT k):E5 (w.put v k):=by
 have hno:∀ q,w.T q ≠ (k:Nat):=fun q hq=>hh ⟨q,by
  by_cases hp:q < w.pg
  ·exact hp
  ·have:=(h.far q (by omega)).2;omega,hq⟩
 refine ⟨h.good,h.rng,h.kind,fun q hq=>?_,fun q=>?_,fun q=>?_,fun q r h1 h2=>?_,fun q r h1 h2=>?_,h.st,?_⟩
 ·have hq:w.pg≤q:=hq
  exact ⟨(upd_ne (by omega)).trans (h.far q hq).1,(upd_ne (by omega)).trans (h.far q hq).2⟩
 ·show E9 w.F v (-1) q = -1∨(E9 w.T v (k:Nat) q = -1∧∃ g:Nat,E9 w.F v (-1) q=(g:Nat)∧w.a≤g∧g < w.a+w.n∧w.s.K g=2)
  by_cases e:q=v
  ·subst e;rw [D6];exact .inl rfl
  ·rw [upd_ne e,upd_ne e];exact h.fr q
 ·show E9 w.T v (k:Nat) q = -1∨(E9 w.F v (-1) q = -1∧∃ g:Nat,E9 w.T v (k:Nat) q=(g:Nat)∧g < w.sl)
  by_cases e:q=v
  ·subst e;rw [D6,D6];exact .inr ⟨rfl,k,rfl,hk⟩
  ·rw [upd_ne e,upd_ne e];exact h.sl q
 ·have h1:0≤E9 w.F v (-1) q:=h1
  have h2:E9 w.F v (-1) q=E9 w.F v (-1) r:=h2
  by_cases e:q=v
  ·rw [e,D6] at h1;exact absurd h1 (by decide)
  ·by_cases e2:r=v
   ·rw [upd_ne e] at h1 h2;rw [e2,D6] at h2;omega
   ·rw [upd_ne e] at h1 h2;rw [upd_ne e2] at h2;exact h.oneF q r h1 h2
 ·have h1:0≤E9 w.T v (k:Nat) q:=h1
  have h2:E9 w.T v (k:Nat) q=E9 w.T v (k:Nat) r:=h2
  by_cases e:q=v
  ·by_cases e2:r=v
   ·rw [e,e2]
   ·rw [e,D6,upd_ne e2] at h2;exact absurd h2.symm (hno r)
  ·by_cases e2:r=v
   ·rw [upd_ne e,e2,D6] at h2;exact absurd h2 (hno q)
   ·rw [upd_ne e] at h1 h2;rw [upd_ne e2] at h2;exact h.oneT q r h1 h2
 ·obtain ⟨c1,c2,c3,c4⟩:=h.cnt
  have:=BC5 ⟨c3,c4⟩
  exact ⟨c1,c2,this.1,this.2⟩
end
end Go.Pol
namespace Go.Pol
open Go.Am Go.Proofs.Ytbhgfoikbkaohaa.Sh
section
variable {w:Sw}
theorem AG9 (h:E5 w) {p:Nat} (h0:0≤w.F p):p < w.pg:=by
 by_cases hp:p < w.pg
 ·exact hp
 ·have:=(h.far p (by omega)).1;omega
theorem AM6 (h:E5 w) {p:Nat} (h0:0≤w.T p):p < w.pg:=by
 by_cases hp:p < w.pg
 ·exact hp
 ·have:=(h.far p (by omega)).2;omega
def Sw.off (w:Sw) (p:Nat):Sw:={ w with T:=E9 w.T p (-1) }
theorem good_off (h:E5 w) {p:Nat} (hn:¬ 0≤w.F p):E5 (w.off p):=by
 refine ⟨h.good,h.rng,h.kind,fun q hq=>⟨(h.far q hq).1,?_⟩,fun q=>?_,fun q=>?_,h.oneF,fun q r h1 h2=>?_,h.st,h.cnt⟩
 ·show E9 w.T p (-1) q = -1
  by_cases e:q=p
  ·rw [e,D6]
  ·rw [upd_ne e];exact (h.far q hq).2
 ·show w.F q = -1∨(E9 w.T p (-1) q = -1∧∃ f:Nat,w.F q=(f:Nat)∧w.a≤f∧f < w.a+w.n∧w.s.K f=2)
  by_cases e:q=p
  ·rcases h.fr q with h1 | ⟨h1,h2⟩
   ·exact .inl h1
   ·exact .inr ⟨by rw [e,D6],h2⟩
  ·rw [upd_ne e];exact h.fr q
 ·show E9 w.T p (-1) q = -1∨(w.F q = -1∧∃ k:Nat,E9 w.T p (-1) q=(k:Nat)∧k < w.sl)
  by_cases e:q=p
  ·exact .inl (by rw [e,D6])
  ·rw [upd_ne e];exact h.sl q
 ·have h1:0≤E9 w.T p (-1) q:=h1
  have h2:E9 w.T p (-1) q=E9 w.T p (-1) r:=h2
  by_cases e:q=p
  ·rw [e,D6] at h1;exact absurd h1 (by decide)
  ·by_cases e2:r=p
   ·rw [upd_ne e] at h1 h2;rw [e2,D6] at h2;omega
   ·rw [upd_ne e] at h1 h2;rw [upd_ne e2] at h2;exact h.oneT q r h1 h2
theorem put_brg {p v k f:Nat} {now:Int} {x:Nat→Int} (hne:v ≠ p):(w.put v k).brg p f now x={ ((w.off p).put v k).brg p f now x with ins:=if 0≤w.T p then AZ2 w.ins else w.ins }:=by
 unfold Sw.brg Sw.put Sw.off
 simp only [upd_ne hne.symm,Sw.mk.injEq,true_and,and_true]
 funext q
 by_cases e:q=p
 ·rw [e,D6,D6]
 ·rw [upd_ne e,upd_ne e]
  by_cases e2:q=v
  ·rw [e2,D6,D6]
  ·rw [upd_ne e2,upd_ne e2,upd_ne e]
theorem good_ins (h:E5 w) {i:Int} (hi:0≤i∧i≤1000000000):E5 { w with ins:=i }:=⟨h.good,h.rng,h.kind,h.far,h.fr,h.sl,h.oneF,h.oneT,h.st,hi.1,hi.2,h.cnt.2.2⟩
theorem BL9 (h:E5 w) {p:Nat} {now:Int} (hnow:0≤now∧now≤1000000000000):E5 { w with Z:=E9 w.Z p now }:=⟨h.good,h.rng,h.kind,h.far,h.fr,h.sl,h.oneF,h.oneT,fun q=>by
 show 0≤E9 w.Z p now q∧E9 w.Z p now q≤1000000000000
 by_cases e:q=p
 ·subst e;rw [D6];exact hnow
 ·rw [upd_ne e];exact h.st q,h.cnt⟩
theorem comW (h:E5 w) {f:Nat} (hf:w.a≤f∧f < w.a+w.n) {e:Int} {s':Sy} (hk:w.s.K f=1) (hc:w.s.chg (f:Nat) 1 1 2 2=(e,s')):E5 { w with s:=s' }∧(e=0→s'.K f=2)∧s'.B=(if e=0 then fun p=>if p=f then fun _=>0 else w.s.B p else w.s.B):=by
 have hr:=h.rng
 have hm:=(h.kind f hf.1 hf.2).2
 rw [BC3 (by omega) hk hm] at hc
 have hu:∀ g,w.heldF g→w.s.K g=2:=fun g hg=>by
  obtain ⟨p,_,hp⟩:=hg
  rcases h.fr p with h1 | ⟨_,g',h2,_,_,h3⟩
  ·omega
  ·rw [show g=g' by omega];exact h3
 split at hc
 ·cases hc
  exact ⟨AY6 h (Am2 h.good) h.kind hu,fun h0=>absurd h0 (by decide),by rw [if_neg (by decide)];rfl⟩
 ·cases hc
  refine ⟨AY6 h (At5 h.good (by omega) (by decide) hk hm) (fun g h1 h2=>⟨?_,(h.kind g h1 h2).2⟩) fun g hg=>?_,fun _=>by rw [AQ6,if_pos rfl],by rw [if_pos rfl];rfl⟩
  ·rw [AQ6];split
   ·exact .inr rfl
   ·exact (h.kind g h1 h2).1
  ·rw [AQ6];split
   ·rfl
   ·exact hu g hg
theorem W9 (h:E5 w) {p:Nat} {now:Int} (hp:p < w.pg) (hnow:0≤now∧now≤1000000000000):E5 (w.touch p now).2:=by
 have hs:=Ag2 (w:=w) p now
 generalize w.touch p now=q at hs
 cases hs with
 | here h0=>exact BL9 h hnow
 | no f s' e hn hf hk hc he =>
  obtain ⟨f1,f2,f3⟩:=AF1 hf
  exact (comW h ⟨f1,f2⟩ hk hc).1
 | new f s' hn hf hs =>
  obtain ⟨f1,f2,f3⟩:=AF1 hf
  have hg:E5 { w with s:=s' }∧s'.K f=2:=by
   rcases hs with ⟨h1,rfl⟩ | ⟨h1,h2⟩
   ·exact ⟨h,(h.kind f f1 f2).1.resolve_left h1⟩
   ·obtain ⟨c1,c2,_⟩:=comW h ⟨f1,f2⟩ h1 h2
    exact ⟨c1,c2 rfl⟩
  exact BG1 (w:={ w with s:=s' }) hg.1 hp hn ⟨f1,f2⟩ f3 hg.2 hnow
 | full hn hf hs=>exact h
 | swp k v hn hf hk hv =>
  obtain ⟨v1,v2,v3⟩:=(AL4 (w:=w) w.pg).1 v hv
  obtain ⟨k1,k2⟩:=AE2 hk
  have hne:v ≠ p:=fun e=>hn (e▸v2)
  rw [put_brg hne]
  have ho:=good_off h hn
  have hkh:¬ (w.off p).heldT k:=by
   rintro ⟨q,hq,he⟩
   have he:E9 w.T p (-1) q=(k:Nat):=he
   by_cases e:q=p
   ·rw [e,D6] at he;omega
   ·rw [upd_ne e] at he
    rcases k2 with k2|k2
    ·exact e (h.oneT q p (by omega) (by omega))
    ·exact k2 ⟨q,hq,he⟩
  obtain ⟨f,hf1,hf2,hf3,hf4⟩:∃ f:Nat,w.F v=(f:Nat)∧w.a≤f∧f < w.a+w.n∧w.s.K f=2:=by
   rcases h.fr v with h1 | ⟨_,h2⟩
   ·omega
   ·exact h2
  have hfn:(w.F v).toNat=f:=by omega
  have hp2:=At6 ho v1 v2 k1 hkh
  refine good_ins (BG1 hp2 hp (fun h3=>?_) ⟨by rw [hfn];exact hf2,by rw [hfn];exact hf3⟩ ?_ (by rw [hfn];exact hf4) hnow) ?_
  ·have h3:0≤E9 w.F v (-1) p:=h3
   rw [upd_ne hne.symm] at h3;exact hn h3
  ·rintro ⟨q,hq,he⟩
   have he:E9 w.F v (-1) q=((w.F v).toNat:Nat):=he
   by_cases e:q=v
   ·rw [e,D6] at he;omega
   ·rw [upd_ne e] at he;exact e (h.oneF q v (by omega) (by omega))
  ·obtain ⟨c1,c2,_,_⟩:=h.cnt
   have:=BC5 ⟨c1,c2⟩
   split<;>omega
end
end Go.Pol
namespace Go.Pol
open Go.Am Go.Proofs.Ytbhgfoikbkaohaa.Sh
section
variable {w:Sw}
def Sw.hs (w:Sw) (p j:Nat):Int:=if 0≤w.F p then w.s.B (w.F p).toNat j else if 0≤w.T p then w.D (w.T p).toNat j else 0
theorem BF0 {s:Sy} {f g j:Nat} {x:Nat→Int}:(s.page f x).B g j=if g=f then (if j < 64 then x j else 0) else s.B g j:=by
 show AD9 s.B f _ g j=_
 unfold AD9
 split<;>rfl
theorem got_hs {p j:Nat} (hn:¬ 0≤w.F p):w.got p j=w.hs p j:=by
 unfold Sw.got Sw.hs
 rw [if_neg hn]
 split<;>rfl
structure TouY (w:Sw) (p:Nat) (now:Int) (q:Int × Sw):Prop where
 e:q.1=0
 fr:0≤q.2.F p
 st:q.2.Z p=now
 hs:∀ r j,j < 64→q.2.hs r j=w.hs r j
 is:∀ r,r ≠ p→(q.2.is r ↔ w.is r)
 z:∀ r,r ≠ p→q.2.Z r=w.Z r
 sz:q.2.pg=w.pg
structure TouN (w:Sw) (q:Int × Sw):Prop where
 e:q.1 ≠ 0
 same:∃ s',q.2={ w with s:=s' }∧s'.K=w.s.K∧s'.M=w.s.M∧s'.B=w.s.B∧s'.G=w.s.G
theorem AL5 (h:E5 w) {p:Nat} (now:Int):TouY w p now (w.touch p now)∨TouN w (w.touch p now):=by
 have hsp:=Ag2 (w:=w) p now
 generalize w.touch p now=q at hsp
 cases hsp with
 | here h0=>exact .inl ⟨rfl,h0,D6,fun _ _ _=>rfl,fun _ _=>Iff.rfl,fun r hr=>upd_ne hr,rfl⟩
 | no f s' e hn hf hk hc he =>
  obtain ⟨f1,f2,_⟩:=AF1 hf
  have hr:=h.rng
  rw [BC3 (by omega) hk (h.kind f f1 f2).2] at hc
  split at hc
  ·cases hc;exact .inr ⟨he,_,rfl,rfl,rfl,rfl,rfl⟩
  ·cases hc;exact absurd rfl he
 | new f s' hn hf hs =>
  obtain ⟨f1,f2,f3⟩:=AF1 hf
  have hB:∀ g,g ≠ f→s'.B g=w.s.B g:=fun g hg=>by
   rcases hs with ⟨_,rfl⟩ | ⟨h1,h2⟩
   ·rfl
   ·obtain ⟨_,_,c3⟩:=comW h ⟨f1,f2⟩ h1 h2
    rw [c3,if_pos rfl];exact if_neg hg
  refine .inl ⟨rfl,?_,D6,fun r j hj=>?_,fun r hr=>?_,fun r hr=>upd_ne hr,rfl⟩
  ·show 0≤E9 w.F p (f:Nat) p
   rw [D6];omega
  ·show (if 0≤E9 w.F p (f:Nat) r then (s'.page f (w.got p)).B (E9 w.F p (f:Nat) r).toNat j else if 0≤E9 w.T p (-1) r then w.D (E9 w.T p (-1) r).toNat j else 0)=_
   by_cases e:r=p
   ·subst e
    rw [D6,if_pos (by omega),BF0,if_pos (by omega),if_pos hj,got_hs hn]
   ·rw [upd_ne e,upd_ne e]
    unfold Sw.hs
    by_cases h0:0≤w.F r
    ·have hne:(w.F r).toNat ≠ f:=fun e2=>f3 ⟨r,AG9 h h0,by omega⟩
     rw [if_pos h0,if_pos h0,BF0,if_neg hne,hB _ hne]
    ·rw [if_neg h0,if_neg h0]
  ·show (0≤E9 w.F p (f:Nat) r∨0≤E9 w.T p (-1) r) ↔ _
   rw [upd_ne hr,upd_ne hr];exact Iff.rfl
 | full hn hf hs=>exact .inr ⟨(show (5:Int) ≠ 0 by decide),w.s,rfl,rfl,rfl,rfl,rfl⟩
 | swp k v hn hf hk hv =>
  obtain ⟨v1,v2,v3⟩:=(AL4 (w:=w) w.pg).1 v hv
  obtain ⟨k1,k2⟩:=AE2 hk
  have hne:v ≠ p:=fun e=>hn (e▸v2)
  refine .inl ⟨rfl,?_,D6,fun r j hj=>?_,fun r hr=>?_,fun r hr=>upd_ne hr,rfl⟩
  ·show 0≤E9 (E9 w.F v (-1)) p ((w.F v).toNat:Nat) p
   rw [D6];omega
  ·show (if 0≤E9 (E9 w.F v (-1)) p ((w.F v).toNat:Nat) r then (w.s.page (w.F v).toNat (w.got p)).B (E9 (E9 w.F v (-1)) p ((w.F v).toNat:Nat) r).toNat j else if 0≤E9 (E9 w.T v (k:Nat)) p (-1) r then AD9 w.D k (w.s.B (w.F v).toNat) (E9 (E9 w.T v (k:Nat)) p (-1) r).toNat j else 0)=_
   by_cases e:r=p
   ·subst e
    rw [D6,if_pos (by omega),BF0,if_pos (by omega),if_pos hj,got_hs hn]
   ·rw [upd_ne e,upd_ne e]
    by_cases e2:r=v
    ·subst e2
     rw [D6,D6,if_neg (by decide),if_pos (by omega),show ((k:Nat):Int).toNat=k from rfl]
     unfold AD9 Sw.hs
     rw [if_pos rfl,if_pos v2]
    ·rw [upd_ne e2,upd_ne e2]
     unfold Sw.hs
     by_cases h0:0≤w.F r
     ·have hne2:(w.F r).toNat ≠ (w.F v).toNat:=fun e3=>e2 (h.oneF r v h0 (by omega))
      rw [if_pos h0,if_pos h0,BF0,if_neg hne2]
     ·rw [if_neg h0,if_neg h0]
      by_cases h1:0≤w.T r
      ·have hne3:(w.T r).toNat ≠ k:=fun e3=>by
        rcases k2 with k2|k2
        ·exact e (h.oneT r p h1 (by omega))
        ·exact k2 ⟨r,AM6 h h1,by omega⟩
       rw [if_pos h1,if_pos h1]
       unfold AD9
       rw [if_neg hne3]
      ·rw [if_neg h1,if_neg h1]
  ·show (0≤E9 (E9 w.F v (-1)) p ((w.F v).toNat:Nat) r∨0≤E9 (E9 w.T v (k:Nat)) p (-1) r) ↔ (0≤w.F r∨0≤w.T r)
   rw [upd_ne hr,upd_ne hr]
   by_cases e2:r=v
   ·subst e2;rw [D6,D6];omega
   ·rw [upd_ne e2,upd_ne e2]
end
end Go.Pol
namespace Go.Pol
open Go.Am Go.Proofs.Ytbhgfoikbkaohaa.Sh
section
variable {w:Sw}
theorem AA8 (h:E5 w) {p:Nat} (h0:0≤w.F p):∃ f:Nat,w.F p=(f:Nat)∧w.a≤f∧f < w.a+w.n∧w.s.K f=2:=by
 rcases h.fr p with h1 | ⟨_,h2⟩
 ·omega
 ·exact h2
theorem good_B (h:E5 w) {s':Sy} (hg:GoodS s') (hK:s'.K=w.s.K) (hM:s'.M=w.s.M):E5 { w with s:=s' }:=by
 refine ⟨hg,h.rng,fun f h1 h2=>?_,h.far,fun p=>?_,h.sl,h.oneF,h.oneT,h.st,h.cnt⟩
 ·show (s'.K f=1∨s'.K f=2)∧s'.M f=false
  rw [hK,hM];exact h.kind f h1 h2
 ·show w.F p = -1∨(w.T p = -1∧∃ f:Nat,w.F p=(f:Nat)∧w.a≤f∧f < w.a+w.n∧s'.K f=2)
  rw [hK];exact h.fr p
theorem Ao2 (h:E5 w) {t v:Int} (ht:0≤t) (h0:0≤w.F (t.toNat / 64)):(w.byte t v).1=0∧E5 (w.byte t v).2∧(∀ p j,j < 64→(w.byte t v).2.hs p j=if p=t.toNat / 64∧j=t.toNat % 64 then v else w.hs p j)∧∃ s',(w.byte t v).2={ w with s:=s' }∧s'.K=w.s.K:=by
 obtain ⟨f,f1,f2,f3,f4⟩:=AA8 h h0
 have hr:=h.rng
 have e1:w.F (t.toNat / 64) * 64+t % 64=((f * 64+t.toNat % 64:Nat):Int):=by rw [f1];omega
 have e:w.s.write (w.F (t.toNat / 64) * 64+t % 64) v=(0,{ w.s with B:=AD9 w.s.B f (E9 (w.s.B f) (t.toNat % 64) v) }):=by
  rw [e1]
  unfold Sy.write
  rw [if_neg (by omega),show ((f * 64+t.toNat % 64:Nat):Int).toNat / 64=f by omega,if_pos f4,show ((f * 64+t.toNat % 64:Nat):Int).toNat % 64=t.toNat % 64 by omega]
 have hg:=BL8 (a:=w.F (t.toNat / 64) * 64+t % 64) (b:=v) h.good
 rw [e] at hg
 unfold Sw.byte
 rw [e]
 refine ⟨rfl,good_B h hg rfl rfl,fun p j hj=>?_,_,rfl,rfl⟩
 show (if 0≤w.F p then AD9 w.s.B f (E9 (w.s.B f) (t.toNat % 64) v) (w.F p).toNat j else if 0≤w.T p then w.D (w.T p).toNat j else 0)=_
 unfold Sw.hs
 by_cases hp:p=t.toNat / 64
 ·subst hp
  rw [if_pos h0,if_pos h0,show (w.F (t.toNat / 64)).toNat=f by omega]
  unfold AD9 E9
  rw [if_pos rfl]
  by_cases hj2:j=t.toNat % 64
  ·rw [if_pos hj2,if_pos ⟨rfl,hj2⟩]
  ·rw [if_neg hj2,if_neg fun hc=>hj2 hc.2]
 ·rw [if_neg (show ¬ (p=t.toNat / 64∧j=t.toNat % 64) from fun hc=>hp hc.1)]
  by_cases hF:0≤w.F p
  ·rw [if_pos hF,if_pos hF]
   unfold AD9
   rw [if_neg fun e2=>hp (h.oneF p _ hF (by omega))]
  ·rw [if_neg hF,if_neg hF]
theorem look_yes (h:E5 w) {t:Int} (ht:0≤t) (h0:0≤w.F (t.toNat / 64)):w.s.read (w.F (t.toNat / 64) * 64+t % 64)=(w.hs (t.toNat / 64) (t.toNat % 64),0):=by
 obtain ⟨f,f1,f2,f3,f4⟩:=AA8 h h0
 have hr:=h.rng
 have e1:w.F (t.toNat / 64) * 64+t % 64=((f * 64+t.toNat % 64:Nat):Int):=by rw [f1];omega
 rw [e1]
 unfold Sy.read Sw.hs
 rw [if_neg (by omega),show ((f * 64+t.toNat % 64:Nat):Int).toNat / 64=f by omega,if_pos f4,show ((f * 64+t.toNat % 64:Nat):Int).toNat % 64=t.toNat % 64 by omega,if_pos h0,show (w.F (t.toNat / 64)).toNat=f by omega]
theorem BN3 (h:E5 w) {t now v:Int} (he:(w.write t now v).1=0):w.nums t now∧E5 (w.write t now v).2∧(∀ p j,j < 64→(w.write t now v).2.hs p j=if p=t.toNat / 64∧j=t.toNat % 64 then v else w.hs p j):=by
 unfold Sw.write at he ⊢
 split at he
 ·exact absurd he (by decide:¬ (7:Int)=0)
 rename_i hn
 have hn2:w.nums t now:=Classical.not_not.1 hn
 rw [if_neg hn]
 obtain ⟨n1,n2,n3,n4⟩:=hn2
 have hg:=W9 h (p:=t.toNat / 64) (now:=now) (by omega) ⟨n3,n4⟩
 rcases AL5 h (p:=t.toNat / 64) now with hy|hno
 ·rw [if_pos hy.e]
  obtain ⟨b1,b2,b3,_⟩:=Ao2 (v:=v) hg n1 hy.fr
  refine ⟨⟨n1,n2,n3,n4⟩,b2,fun p j hj=>?_⟩
  rw [b3 p j hj,hy.hs p j hj]
 ·rw [if_neg hno.e] at he
  exact absurd he hno.e
theorem write_no (h:E5 w) {t now v:Int} (he:(w.write t now v).1 ≠ 0):∃ s',(w.write t now v).2={ w with s:=s' }∧s'.K=w.s.K∧s'.M=w.s.M∧s'.B=w.s.B∧s'.G=w.s.G:=by
 unfold Sw.write at he ⊢
 split
 ·exact ⟨w.s,rfl,rfl,rfl,rfl,rfl⟩
 rename_i hn
 have hn2:w.nums t now:=Classical.not_not.1 hn
 rw [if_neg hn] at he
 obtain ⟨n1,n2,n3,n4⟩:=hn2
 have hg:=W9 h (p:=t.toNat / 64) (now:=now) (by omega) ⟨n3,n4⟩
 rcases AL5 h (p:=t.toNat / 64) now with hy|hno
 ·rw [if_pos hy.e] at he
  exact absurd (Ao2 (v:=v) hg n1 hy.fr).1 he
 ·rw [if_neg hno.e]
  exact hno.same
theorem read_no' (h:E5 w) {t now:Int} (he:(w.read t now).2.1 ≠ 0):∃ s',(w.read t now).2.2={ w with s:=s' }∧s'.K=w.s.K∧s'.M=w.s.M∧s'.B=w.s.B∧s'.G=w.s.G:=by
 unfold Sw.read at he ⊢
 split
 ·exact ⟨w.s,rfl,rfl,rfl,rfl,rfl⟩
 rename_i hn
 have hn2:w.nums t now:=Classical.not_not.1 hn
 rw [if_neg hn] at he
 obtain ⟨n1,n2,n3,n4⟩:=hn2
 by_cases hi:¬ w.is (t.toNat / 64)
 ·rw [if_pos hi];exact ⟨w.s,rfl,rfl,rfl,rfl,rfl⟩
 ·rw [if_neg hi] at he ⊢
  have hg:=W9 h (p:=t.toNat / 64) (now:=now) (by omega) ⟨n3,n4⟩
  rcases AL5 h (p:=t.toNat / 64) now with hy|hno
  ·rw [if_pos hy.e] at he
   dsimp only at he
   rw [look_yes hg n1 hy.fr] at he
   exact absurd rfl he
  ·rw [if_neg hno.e]
   exact hno.same
theorem BG2 (h:E5 w) {f:Nat} (hf:w.a≤f∧f < w.a+w.n) (hh:¬ w.heldF f) (hk:w.s.K f=2):E5 (w.gone (f:Nat))∧(∀ p j,(w.gone (f:Nat)).hs p j=w.hs p j):=by
 have hr:=h.rng
 have hm:=(h.kind f hf.1 hf.2).2
 have hu:∀ g,w.heldF g→w.s.K g=2:=fun g hg=>by
  obtain ⟨p,_,hp⟩:=hg
  rcases h.fr p with h1 | ⟨_,g',h2,_,_,h3⟩
  ·omega
  ·rw [show g=g' by omega];exact h3
 unfold Sw.gone
 rw [BC3 (by omega) hk hm]
 split
 ·exact ⟨AY6 h (Am2 h.good) h.kind hu,fun _ _=>rfl⟩
 ·refine ⟨AY6 h (At5 h.good (by omega) (by decide) hk hm) (fun g h1 h2=>⟨?_,(h.kind g h1 h2).2⟩) fun g hg=>?_,fun p j=>?_⟩
  ·rw [AQ6];split
   ·exact .inl rfl
   ·exact (h.kind g h1 h2).1
  ·rw [AQ6,if_neg (show ¬ g=f from fun e=>hh (e▸hg))];exact hu g hg
  ·show (if 0≤w.F p then (w.s.turn f 1 3).B (w.F p).toNat j else if 0≤w.T p then w.D (w.T p).toNat j else 0)=w.hs p j
   unfold Sw.hs
   by_cases hF:0≤w.F p
   ·rw [if_pos hF,if_pos hF,BP2,if_neg fun e=>hh ⟨p,AG9 h hF,by omega⟩]
   ·rw [if_neg hF,if_neg hF]
end
end Go.Pol
namespace Go.Pol
open Go.Am Go.Proofs.Ytbhgfoikbkaohaa.Sh
section
variable {w:Sw}
theorem put_hs (h:E5 w) {v k:Nat} (h0:0≤w.F v) (hh:¬ w.heldT k) (q j:Nat):(w.put v k).hs q j=w.hs q j:=by
 show (if 0≤E9 w.F v (-1) q then w.s.B (E9 w.F v (-1) q).toNat j else if 0≤E9 w.T v (k:Nat) q then AD9 w.D k (w.s.B (w.F v).toNat) (E9 w.T v (k:Nat) q).toNat j else 0)=_
 unfold Sw.hs
 by_cases e:q=v
 ·subst e
  rw [D6,D6,if_neg (by decide),if_pos (by omega),if_pos h0,show ((k:Nat):Int).toNat=k from rfl]
  unfold AD9
  rw [if_pos rfl]
 ·rw [upd_ne e,upd_ne e]
  by_cases hF:0≤w.F q
  ·rw [if_pos hF,if_pos hF]
  ·rw [if_neg hF,if_neg hF]
   by_cases hT:0≤w.T q
   ·have : (w.T q).toNat ≠ k:=fun e3=>hh ⟨q,AM6 h hT,by omega⟩
    rw [if_pos hT,if_pos hT]
    unfold AD9
    rw [if_neg this]
   ·rw [if_neg hT,if_neg hT]
theorem out_yes (h:E5 w) {p:Int} (he:(w.out p).1=0):E5 (w.out p).2∧∀ q j,(w.out p).2.hs q j=w.hs q j:=by
 unfold Sw.out at he ⊢
 split at he
 ·exact absurd he (by decide:¬ (7:Int)=0)
 rename_i c1;rw [if_neg c1]
 split at he
 ·exact absurd he (by decide:¬ (4:Int)=0)
 rename_i c2;rw [if_neg c2]
 cases hk:w.slot (-1) with
 | none=>rw [hk] at he;exact absurd he (by decide:¬ (5:Int)=0)
 | some k =>
  have c1:0≤p∧p < (w.pg:Nat):=Classical.not_not.1 c1
  have h0:0≤w.F p.toNat:=by omega
  obtain ⟨k1,k2⟩:=AE2 hk
  have k2:¬ w.heldT k:=k2.resolve_left (by omega)
  obtain ⟨f,f1,f2,f3,f4⟩:=AA8 h h0
  have hg:=At6 h (v:=p.toNat) (by omega) h0 k1 k2
  dsimp only
  rw [f1]
  obtain ⟨g1,g2⟩:=BG2 hg (f:=f) ⟨f2,f3⟩ (by
   rintro ⟨q,hq,e⟩
   have e:E9 w.F p.toNat (-1) q=(f:Nat):=e
   by_cases e2:q=p.toNat
   ·rw [e2,D6] at e;omega
   ·rw [upd_ne e2] at e;exact e2 (h.oneF q _ (by omega) (by omega))) f4
  exact ⟨g1,fun q j=>(g2 q j).trans (put_hs h h0 k2 q j)⟩
theorem out_no (p:Int) (he:(w.out p).1 ≠ 0):(w.out p).2=w:=by
 unfold Sw.out at he ⊢
 split
 ·rfl
 rename_i c1;rw [if_neg c1] at he
 split
 ·rfl
 rename_i c2;rw [if_neg c2] at he
 cases hk:w.slot (-1) with
 | none=>rfl
 | some k=>rw [hk] at he;exact absurd rfl he
def Sw.nowh (w:Sw) (p:Nat):Sw:={ w with F:=E9 w.F p (-1),T:=E9 w.T p (-1),Z:=E9 w.Z p 0 }
theorem good_nowh (h:E5 w) (p:Nat):E5 (w.nowh p)∧∀ q j,(w.nowh p).hs q j=if q=p then 0 else w.hs q j:=by
 refine ⟨⟨h.good,h.rng,h.kind,fun q hq=>?_,fun q=>?_,fun q=>?_,fun q r h1 h2=>?_,fun q r h1 h2=>?_,fun q=>?_,h.cnt⟩,fun q j=>?_⟩
 ·show E9 w.F p (-1) q = -1∧E9 w.T p (-1) q = -1
  by_cases e:q=p
  ·rw [e,D6,D6];exact ⟨rfl,rfl⟩
  ·rw [upd_ne e,upd_ne e];exact h.far q hq
 ·show E9 w.F p (-1) q = -1∨(E9 w.T p (-1) q = -1∧∃ f:Nat,E9 w.F p (-1) q=(f:Nat)∧w.a≤f∧f < w.a+w.n∧w.s.K f=2)
  by_cases e:q=p
  ·exact .inl (by rw [e,D6])
  ·rw [upd_ne e,upd_ne e];exact h.fr q
 ·show E9 w.T p (-1) q = -1∨(E9 w.F p (-1) q = -1∧∃ k:Nat,E9 w.T p (-1) q=(k:Nat)∧k < w.sl)
  by_cases e:q=p
  ·exact .inl (by rw [e,D6])
  ·rw [upd_ne e,upd_ne e];exact h.sl q
 ·have h1:0≤E9 w.F p (-1) q:=h1
  have h2:E9 w.F p (-1) q=E9 w.F p (-1) r:=h2
  by_cases e:q=p
  ·rw [e,D6] at h1;exact absurd h1 (by decide)
  ·rw [upd_ne e] at h1 h2
   by_cases e2:r=p
   ·rw [e2,D6] at h2;omega
   ·rw [upd_ne e2] at h2;exact h.oneF q r h1 h2
 ·have h1:0≤E9 w.T p (-1) q:=h1
  have h2:E9 w.T p (-1) q=E9 w.T p (-1) r:=h2
  by_cases e:q=p
  ·rw [e,D6] at h1;exact absurd h1 (by decide)
  ·rw [upd_ne e] at h1 h2
   by_cases e2:r=p
   ·rw [e2,D6] at h2;omega
   ·rw [upd_ne e2] at h2;exact h.oneT q r h1 h2
 ·show 0≤E9 w.Z p 0 q∧E9 w.Z p 0 q≤1000000000000
  by_cases e:q=p
  ·rw [e,D6];decide
  ·rw [upd_ne e];exact h.st q
 ·show (if 0≤E9 w.F p (-1) q then w.s.B (E9 w.F p (-1) q).toNat j else if 0≤E9 w.T p (-1) q then w.D (E9 w.T p (-1) q).toNat j else 0)=_
  by_cases e:q=p
  ·rw [e,D6,D6,if_pos rfl];rfl
  ·rw [upd_ne e,upd_ne e,if_neg e];rfl
theorem fre_yes (h:E5 w) {p:Int} (he:(w.fre p).1=0):(0≤p∧p < (w.pg:Nat))∧E5 (w.fre p).2∧∀ q j,(w.fre p).2.hs q j=if q=p.toNat then 0 else w.hs q j:=by
 unfold Sw.fre at he ⊢
 split at he
 ·exact absurd he (by decide:¬ (7:Int)=0)
 rename_i c1;rw [if_neg c1]
 split at he
 ·exact absurd he (by decide:¬ (4:Int)=0)
 rename_i c2;rw [if_neg c2]
 have c1:0≤p∧p < (w.pg:Nat):=Classical.not_not.1 c1
 obtain ⟨n1,n2⟩:=good_nowh h p.toNat
 refine ⟨c1,?_⟩
 dsimp only
 split
 ·rename_i h0
  obtain ⟨f,f1,f2,f3,f4⟩:=AA8 h h0
  rw [f1]
  obtain ⟨g1,g2⟩:=BG2 n1 (f:=f) ⟨f2,f3⟩ (by
   rintro ⟨q,hq,e⟩
   have e:E9 w.F p.toNat (-1) q=(f:Nat):=e
   by_cases e2:q=p.toNat
   ·rw [e2,D6] at e;omega
   ·rw [upd_ne e2] at e;exact e2 (h.oneF q _ (by omega) (by omega))) f4
  exact ⟨g1,fun q j=>(g2 q j).trans (n2 q j)⟩
 ·exact ⟨n1,n2⟩
theorem fre_no (p:Int) (he:(w.fre p).1 ≠ 0):(w.fre p).2=w:=by
 unfold Sw.fre at he ⊢
 split
 ·rfl
 rename_i c1;rw [if_neg c1] at he
 split
 ·rfl
 rename_i c2;rw [if_neg c2] at he
 exact absurd rfl he
def Sw.call (w:Sw) (k:Nat) (t now v p:Int) (l:List Rl):Int × Sw :=
 if k < 6 then w.write t now v else if k < 10 then (w.read t now).2 else if k=10 then w.out p else if k=11 then w.fre p else
 if k=13 then ((w.s.plan l).1,{ w with s:=(w.s.plan l).2 }) else (0,w)
theorem planW (h:E5 w) (l:List Rl):E5 { w with s:=(w.s.plan l).2 }:=good_B h (good_plan h.good) plan_K plan_M
theorem callW_no (h:E5 w) (k:Nat) (t now v p:Int) (l:List Rl) (he:(w.call k t now v p l).1 ≠ 0):∃ s',(w.call k t now v p l).2={ w with s:=s' }∧s'.K=w.s.K∧s'.M=w.s.M∧s'.B=w.s.B∧s'.G=w.s.G:=by
 unfold Sw.call at he ⊢
 split at he
 ·rename_i c;rw [if_pos c];exact write_no h he
 rename_i c0;rw [if_neg c0]
 split at he
 ·rename_i c;rw [if_pos c];exact read_no' h he
 rename_i c1;rw [if_neg c1]
 split at he
 ·rename_i c;rw [if_pos c,out_no p he];exact ⟨w.s,rfl,rfl,rfl,rfl,rfl⟩
 rename_i c2;rw [if_neg c2]
 split at he
 ·rename_i c;rw [if_pos c,fre_no p he];exact ⟨w.s,rfl,rfl,rfl,rfl,rfl⟩
 rename_i c3;rw [if_neg c3]
 split at he
 ·rename_i c;rw [if_pos c]
  exact ⟨_,rfl,plan_K,plan_M,plan_B,by unfold Sy.plan;split<;>rfl⟩
 ·exact absurd rfl he
end
end Go.Pol
namespace Go.Pol
open Go.Am Go.Proofs.Ytbhgfoikbkaohaa.Sh
section
variable {w:Sw}
structure Lru (w:Sw) (now:Int):Prop where
 good:E5 w
 l:w.s.l=[]
 sl:w.sl=256
 up:∀ p q,0≤w.F p→w.is q→w.Z p < w.Z q→0≤w.F q
 dist:∀ p q,w.is p→w.is q→w.Z p=w.Z q→p=q
 fresh:∀ p,w.is p→w.Z p < now
 full:∀ p,w.is p→¬ 0≤w.F p→w.free=none
end
end Go.Pol
namespace Go.Pol
open Go.Am Go.Proofs.Ytbhgfoikbkaohaa.Sh
section
variable {t u:Sw} {now:Int}
end
end Go.Pol
namespace Go.Pol
open Go.Am Go.Proofs.Ytbhgfoikbkaohaa.Sh
section
variable {w:Sw}
def OutW (w:Sw):Prop:=∀ p,¬ (w.a≤p∧p < w.a+w.n)→w.s.K p=0
end
end Go.Pol
namespace Go.Pol
open Go.Am Go.Proofs.Ytbhgfoikbkaohaa.Sh
section
variable {w:Sw}
theorem BG3 (h:E5 w) (p:Int):E5 (w.fre p).2:=by
 by_cases he:(w.fre p).1=0
 ·exact (fre_yes h he).2.1
 ·rw [fre_no p he];exact h
end
end Go.Pol
namespace Go.Pol
open Go.Am Go.Proofs.Ytbhgfoikbkaohaa.Sh
section
variable {w:Sw}
theorem As8 {l:List Rl} {a n:Int} {pg sl:Nat} (hc:(AF6 l).2=0) (hi:0≤a∧1≤n∧a+n≤1024) (hp:1≤pg∧pg≤256∧sl≤256) (he:((Sy.new l).chg a n 0 1 0).1=0) (b:Sw) (hb:b=⟨a.toNat,n.toNat,pg,sl,fun _=>-1,fun _=>-1,fun _=>0,fun _ _=>0,0,0,((Sy.new l).chg a n 0 1 0).2⟩):E5 b∧OutW b∧(∀ p j,b.hs p j=0)∧(l=[]→sl=256→Lru b 1):=by
 obtain ⟨k1,k2,k3,k4⟩:=new_chg he
 subst hb
 have hg:E5 ⟨a.toNat,n.toNat,pg,sl,fun _=>-1,fun _=>-1,fun _=>0,fun _ _=>0,0,0,((Sy.new l).chg a n 0 1 0).2⟩:=by
  refine ⟨good_chg (Am3 hc) (by decide),⟨by show 1≤n.toNat;omega,by show a.toNat+n.toNat≤1024;omega,hp.1,hp.2.1,hp.2.2⟩,fun f h1 h2=>⟨.inl ?_,k2 f⟩,fun _ _=>⟨rfl,rfl⟩,fun _=>.inl rfl,fun _=>.inl rfl,fun p q h1=>absurd h1 (show ¬ (0:Int) ≤ -1 by decide),fun p q h1=>absurd h1 (show ¬ (0:Int) ≤ -1 by decide),fun _=>(show (0:Int)≤0∧(0:Int)≤1000000000000 by decide),(show (0:Int)≤0∧(0:Int)≤1000000000∧(0:Int)≤0∧(0:Int)≤1000000000 by decide)⟩
  show ((Sy.new l).chg a n 0 1 0).2.K f=1
  rw [k1,if_pos ⟨h1,h2⟩]
 have hno:∀ p,¬ Sw.is ⟨a.toNat,n.toNat,pg,sl,fun _=>-1,fun _=>-1,fun _=>0,fun _ _=>0,0,0,((Sy.new l).chg a n 0 1 0).2⟩ p:=fun p h=>by
  rcases h with h|h
  ·exact absurd h (show ¬ (0:Int) ≤ -1 by decide)
  ·exact absurd h (show ¬ (0:Int) ≤ -1 by decide)
 refine ⟨hg,fun p hp=>?_,fun p j=>rfl,fun hl hs=>⟨hg,k4.trans hl,hs,fun p q h=>absurd h (show ¬ (0:Int) ≤ -1 by decide),fun p q h=>absurd h (hno p),fun p h=>absurd h (hno p),fun p h=>absurd h (hno p)⟩⟩
 show ((Sy.new l).chg a n 0 1 0).2.K p=0
 rw [k1,if_neg hp]
end
end Go.Pol
namespace Go.Pol
open Go.Am Go.Proofs.Ytbhgfoikbkaohaa.Sh
def pgE (x:Int × Int × Int):AV:=.agg [.int .i64 x.1,.int .i64 x.2.1,.int .i64 x.2.2]
def byE (b:Nat→Int):AV:=.agg (bcA b)
def nuE (p:Int):AV:=.int .i64 p
theorem H9 (x:Int × Int × Int):Plain (pgE x):=J2 fun y hy=>by
 simp only [List.mem_cons,List.not_mem_nil,or_false] at hy
 rcases hy with rfl|rfl|rfl<;>exact A8
theorem I5 (b:Nat→Int):Plain (byE b):=J2 AD3
theorem I4 (p:Int):Plain (nuE p):=A8
structure WS where
 W:List (Int × Int × Int × Int)
 D:List (Int × (Nat→Int))
 H:List (Int × Int)
structure WOk (w:Sw) (t:WS):Prop where
 ndW:ndI t.W
 ndD:ndI t.D
 ndH:ndI t.H
 gW:∀ p:Int,mgI t.W p=if 0≤p∧w.is p.toNat then some (w.F p.toNat,w.T p.toNat,w.Z p.toNat) else none
 gD:∀ k:Int,mgI t.D k=if 0≤k∧w.heldT k.toNat then some (w.D k.toNat) else none
 gH:∀ f p:Int,mgI t.H f=some p ↔ 0≤p∧0≤f∧w.F p.toNat=f
def stC (s w d h:Nat) (q:Sw):List AV:=[.ptr s 0,.int .i64 (q.a:Nat),.int .i64 (q.n:Nat),.int .i64 (q.pg:Nat),.int .i64 (q.sl:Nat),.mapr w,.mapr d,.mapr h,.int .i64 q.ins,.int .i64 q.outs]
def stN (q:Sw) (t:WS) (o w d h s:Nat):List (Nat × AObj):=[(o,.cells (stC s w d h q)),(w,.maps (encW pgE t.W)),(d,.maps (encW byE t.D)),(h,.maps (encW nuE t.H)),(s,.cells q.s.a)]
end Go.Pol
namespace Go.Proofs.Ytbhgfoikbkaohaa.Sh
open Go Go.Am Go.Pol
structure O1 (f:Nat) (avs:List AV) (q:Sw) (t:WS) (r:AV) (q':Sw) (t':WS):Prop where
 out:AO7 Try.prog G0 f (.ptr 0 0::avs) (stN q t 0 1 2 3 4) 5 fun x h1=>x=r∧h1=⟨stN q' t' 0 1 2 3 4,5⟩
 pa:∀ x ∈ avs,Plain x
 pr:Plain r
theorem AN8 {p:Nat→Nat→Prop} {q:Sw} {s w d h s' w' d' h':Nat} (e1:p s s') (e2:p w w') (e3:p d d') (e4:p h h'):RnL p (stC s w d h q) (stC s' w' d' h' q) :=
 ⟨P6 e1,F4 A8,F4 A8,F4 A8,F4 A8,BS2 e2,BS2 e3,BS2 e4,F4 A8,F4 A8,trivial⟩
theorem BN7 {σ:Nat→Nat} {h h':Hp} {q:Sw} {t:WS} {o w d m s o' w' d' m' s':Nat} (hs:AF7 σ h h') (e0:σ o'=o) (e1:σ w'=w) (e2:σ d'=d) (e3:σ m'=m) (e4:σ s'=s) (hlt:o' < h'.next∧w' < h'.next∧d' < h'.next∧m' < h'.next∧s' < h'.next)
  (g0:lk h.l o=some (.cells (stC s w d m q))) (g1:lk h.l w=some (.maps (encW pgE t.W))) (g2:lk h.l d=some (.maps (encW byE t.D))) (g3:lk h.l m=some (.maps (encW nuE t.H))) (g4:lk h.l s=some (.cells q.s.a)) {r:List (Nat × AObj)} (hr:WkO Try.prog σ h h' r):WkO Try.prog σ h h' (stN q t o' w' d' m' s'++r):=by
 obtain ⟨l0,l1,l2,l3,l4⟩:=hlt
 refine P5 l0 (by rw [e0];exact g0) (A9 (X6 e4 l4) (A9 (N9 rfl) (A9 (N9 rfl) (A9 (N9 rfl) (A9 (N9 rfl) (A9 (AV7 e1 l1) (A9 (AV7 e2 l2) (A9 (AV7 e3 l3) (A9 (N9 rfl) (A9 (N9 rfl) J9)))))))))) ?_
 exact Q6 hs l1 (by rw [e1];exact g1) rfl (D5 H9) (Q6 hs l2 (by rw [e2];exact g2) rfl (D5 I5) (Q6 hs l3 (by rw [e3];exact g3) rfl (D5 I4) (H7 hs l4 (by rw [e4];exact g4) rfl F3 hr)))
theorem Aj2 {σ:Nat→Nat} {h h':Hp} {i s w d m s' w' d' m':Nat} {q:Sw} {r:List (Nat × AObj)} (h1:i < h'.next) (h2:lk h.l (σ i)=some (.cells (stC s w d m q))) (e1:σ s'=s) (l1:s' < h'.next) (e2:σ w'=w) (l2:w' < h'.next) (e3:σ d'=d) (l3:d' < h'.next) (e4:σ m'=m) (l4:m' < h'.next) (h4:WkO Try.prog σ h h' r):WkO Try.prog σ h h' ((i,.cells (stC s' w' d' m' q))::r) :=
 P5 h1 h2 (A9 (X6 e1 l1) (A9 (N9 rfl) (A9 (N9 rfl) (A9 (N9 rfl) (A9 (N9 rfl) (A9 (AV7 e2 l2) (A9 (AV7 e3 l3) (A9 (AV7 e4 l4) (A9 (N9 rfl) (A9 (N9 rfl) J9)))))))))) h4
theorem sub_st {h:Hp} {q:Sw} {t:WS} {nx:Nat} (g0:lk h.l 0=some (.cells (stC 4 1 2 3 q))) (g1:lk h.l 1=some (.maps (encW pgE t.W))) (g2:lk h.l 2=some (.maps (encW byE t.D))) (g3:lk h.l 3=some (.maps (encW nuE t.H))) (g4:lk h.l 4=some (.cells q.s.a)):AF7 (rn []) h ⟨stN q t 0 1 2 3 4,nx⟩:=fun i o hi=>by
 simp only [stN,lk] at hi
 show ∃ o',lk h.l i=some o'
 split at hi
 ·rename_i e;subst e;exact ⟨_,g0⟩
 ·split at hi
  ·rename_i e;subst e;exact ⟨_,g1⟩
  ·split at hi
   ·rename_i e;subst e;exact ⟨_,g2⟩
   ·split at hi
    ·rename_i e;subst e;exact ⟨_,g3⟩
    ·split at hi
     ·rename_i e;subst e;exact ⟨_,g4⟩
     ·cases hi
theorem end_WW {top:Bool} {h:Hp} {N0:Nat} {x r:AV} {q:Sw} {t:WS} (hr:AF7 (rn []) h ⟨stN q t 0 1 2 3 4,5⟩→WkV Try.prog (rn []) h ⟨stN q t 0 1 2 3 4,5⟩ x r) (g0:lk h.l 0=some (.cells (stC 4 1 2 3 q))) (g1:lk h.l 1=some (.maps (encW pgE t.W))) (g2:lk h.l 2=some (.maps (encW byE t.D))) (g3:lk h.l 3=some (.maps (encW nuE t.H))) (g4:lk h.l 4=some (.cells q.s.a)) (hN0:N0≤5:=by decide) :
  AT0 top Try.prog N0 h x (fun r' h'=>r'=r∧h'=⟨stN q t 0 1 2 3 4,5⟩):=by
 have hs:AF7 (rn []) h ⟨stN q t 0 1 2 3 4,5⟩:=sub_st g0 g1 g2 g3 g4
 refine r9 [] rfl hN0 (M6 rfl) (hr hs) ?_ ⟨rfl,rfl⟩
 have:=BN7 (o':=0) (w':=1) (d':=2) (m':=3) (s':=4) (r:=[]) hs rfl rfl rfl rfl rfl ⟨show 0 < 5 by decide,show 1 < 5 by decide,show 2 < 5 by decide,show 3 < 5 by decide,show 4 < 5 by decide⟩ g0 g1 g2 g3 g4 I8
 exact this
theorem K9 {top:Bool} {h:Hp} {N0:Nat} {x r:AV} {q:Sw} {t:WS} (hr:x=r) (hp:Plain r) (g0:lk h.l 0=some (.cells (stC 4 1 2 3 q))) (g1:lk h.l 1=some (.maps (encW pgE t.W))) (g2:lk h.l 2=some (.maps (encW byE t.D))) (g3:lk h.l 3=some (.maps (encW nuE t.H))) (g4:lk h.l 4=some (.cells q.s.a)) (hN0:N0≤5:=by decide) :
  AT0 top Try.prog N0 h x (fun r' h'=>r'=r∧h'=⟨stN q t 0 1 2 3 4,5⟩):=by
 subst hr
 exact end_WW (fun hs=>R6 hs hp) g0 g1 g2 g3 g4 hN0
theorem AQ0 {f:Nat} {avs:List AV} {q q':Sw} {t t':WS} {o w d m s nx:Nat} {l:List (Nat × AObj)} {r:AV} {K:AV→Hp→Prop} (hc:O1 f avs q t r q' t')
  (g0:lk l o=some (.cells (stC s w d m q))) (g1:lk l w=some (.maps (encW pgE t.W))) (g2:lk l d=some (.maps (encW byE t.D))) (g3:lk l m=some (.maps (encW nuE t.H))) (g4:lk l s=some (.cells q.s.a))
  (hlt:o < nx∧w < nx∧d < nx∧m < nx∧s < nx) (hd:Ab8 [o,w,d,m,s]=true)
  (hk:AV1 [o,w,d,m,s] l fun l2=>K r ⟨([(o,.cells (stC s w d m q')),(w,.maps (encW pgE t'.W)),(d,.maps (encW byE t'.D)),(m,.maps (encW nuE t'.H)),(s,.cells q'.s.a)]:List (Nat × AObj))++l2,nx⟩):AH3 Try.prog G0 (.fn f [] []) (.ptr o 0::avs) ⟨l,nx⟩ K:=by
 have e0:enter [o,w,d,m,s] o 0:=rfl
 have e1:enter [o,w,d,m,s] w 1:=rfl
 have e2:enter [o,w,d,m,s] d 2:=rfl
 have e3:enter [o,w,d,m,s] m 3:=rfl
 have e4:enter [o,w,d,m,s] s 4:=rfl
 have k0:back [o,w,d,m,s] nx 0 o:=rfl
 have k1:back [o,w,d,m,s] nx 1 w:=rfl
 have k2:back [o,w,d,m,s] nx 2 d:=rfl
 have k3:back [o,w,d,m,s] nx 3 m:=rfl
 have k4:back [o,w,d,m,s] nx 4 s:=rfl
 refine AO5 (l1:=stN q' t' o w d m s) [o,w,d,m,s] hc.out H8 hd
  (.cons e0 g0 (AN8 e4 e1 e2 e3) (.maps e1 g1 (D5 H9) (.maps e2 g2 (D5 I5) (.maps e3 g3 (D5 I4) (.cons e4 g4 (D7 F3) .nil)))))
  ?_ (by intro x hx;simp only [List.mem_cons,List.not_mem_nil,or_false] at hx;omega) (F4 hc.pr)
  (.cons k0 (AN8 k4 k1 k2 k3) (.maps k1 (D5 H9) (.maps k2 (D5 I5) (.maps k3 (D5 I4) (.cons k4 (D7 F3) .nil))))) hk
 simp only [List.nil_append,List.append_nil]
 exact ⟨P6 e0,D7 hc.pa⟩
theorem dcx_w {f:Nat} {avs:List AV} {q q':Sw} {t t':WS} {o w d m s:Nat} {h:Hp} {r:AV} {K:AV→Up→List Nat→Prop} (hc:O1 f avs q t r q' t')
  (g0:lk h.l o=some (.cells (stC s w d m q))) (g1:lk h.l w=some (.maps (encW pgE t.W))) (g2:lk h.l d=some (.maps (encW byE t.D))) (g3:lk h.l m=some (.maps (encW nuE t.H))) (g4:lk h.l s=some (.cells q.s.a))
  (hd:Ab8 [o,w,d,m,s]=true) (hnx':[o,w,d,m,s].contains h.next=false)
  (hk:K r [(o,some (.cells (stC s w d m q'))),(w,some (.maps (encW pgE t'.W))),(d,some (.maps (encW byE t'.D))),(m,some (.maps (encW nuE t'.H))),(s,some (.cells q'.s.a))] [o,w,d,m,s]):AF5 Try.prog G0 f (.ptr o 0::avs) h K:=by
 have hnx:h.next ∉ [o,w,d,m,s]:=fun hm=>by rw [List.contains_eq_mem,decide_eq_false_iff_not] at hnx';exact hnx' hm
 have e0:enter [o,w,d,m,s] o 0:=rfl
 have e1:enter [o,w,d,m,s] w 1:=rfl
 have e2:enter [o,w,d,m,s] d 2:=rfl
 have e3:enter [o,w,d,m,s] m 3:=rfl
 have e4:enter [o,w,d,m,s] s 4:=rfl
 have k0:U0 [o,w,d,m,s] 0 o:=rfl
 have k1:U0 [o,w,d,m,s] 1 w:=rfl
 have k2:U0 [o,w,d,m,s] 2 d:=rfl
 have k3:U0 [o,w,d,m,s] 3 m:=rfl
 have k4:U0 [o,w,d,m,s] 4 s:=rfl
 refine BB9 (l1:=stN q' t' o w d m s) [o,w,d,m,s] hc.out H8 hd
  (.cons e0 g0 (AN8 e4 e1 e2 e3) (.maps e1 g1 (D5 H9) (.maps e2 g2 (D5 I5) (.maps e3 g3 (D5 I4) (.cons e4 g4 (D7 F3) .nil)))))
  hnx ?_ ?_ ⟨P6 e0,D7 hc.pa⟩ (F4 hc.pr)
  (.cons k0 (AN8 k4 k1 k2 k3) (.maps k1 (D5 H9) (.maps k2 (D5 I5) (.maps k3 (D5 I4) (.cons k4 (D7 F3) .nil))))) hk
 ·intro x hx
  simp only [stN,lk]
  repeat' split
  all_goals first|exact ⟨_,rfl⟩|(exfalso;simp only [List.mem_cons,List.not_mem_nil,or_false] at hx;omega)
 ·intro j x hx
  have : j < 5:=(List.getElem?_eq_some_iff.1 hx).1
  simp only [stN,lk]
  repeat' split
  all_goals first|exact ⟨_,rfl⟩|(exfalso;omega)
end Go.Proofs.Ytbhgfoikbkaohaa.Sh
namespace Go.Am
section
variable {α:Type} {f:α→List AV} {L:List α} {d i:Nat} {r:List (Nat × AObj)}
theorem del_tS {k:List (Nat × AObj)→Prop} (h:Aw4 r d k):Aw4 (AI9 d f L++r) d k:=by
 by_cases hz:L.length=0
 ·rw [AO0 hz];exact h
 ·rw [AO1 hz];simp only [List.cons_append,List.nil_append,Aw4];rw [show Nat.beq d d=true by simp];exact h
theorem del_tO {k:List (Nat × AObj)→Prop} (hi:Nat.beq i d=false) (h:Aw4 r i fun r'=>k (AI9 d f L++r')):Aw4 (AI9 d f L++r) i k:=by
 by_cases hz:L.length=0
 ·rw [AO0 hz] at h ⊢;exact h
 ·rw [AO1 hz] at h ⊢;simp only [List.cons_append,List.nil_append,Aw4,hi] at h ⊢;exact h
theorem lk_tN (hz:L.length=0):lk (AI9 d f L++r) i=lk r i:=by rw [AO0 hz];rfl
theorem lk_tA {r':List (Nat × AObj)} (h:i ≠ d):lk (r'++AI9 d f L) i=lk r' i:=by
 by_cases hz:L.length=0
 ·rw [AO0 hz,List.append_nil]
 ·rw [AO1 hz]
  induction r' with
  | nil=>simp [lk,h]
  | cons p r' ih=>obtain ⟨j,o⟩:=p;simp only [List.cons_append,lk];rw [ih]
theorem Al8 (h:i ≠ d):lk (AI9 d f L) i=none:=by
 have:=lk_tA (f:=f) (L:=L) (r':=[]) h
 exact this
theorem del_n {k:List (Nat × AObj)→Prop} (h:k []):Aw4 [] i k:=h
end
structure TlO (P:Program) (σ:Nat→Nat) (h h':Hp) (ks:List Nat) (tl:List (Nat × AObj)):Prop where
 key:∀ j o,lk tl j=some o→j ∈ ks
 sub:∀ j o,lk tl j=some o→∃ o',lk h.l (σ j)=some o'
 wko:AF7 σ h h'→WkO P σ h h' tl
section
variable {P:Program} {σ:Nat→Nat} {h h':Hp} {ks:List Nat} {r:List (Nat × AObj)} {α:Type} {f:α→List AV} {L:List α} {i n:Nat}
theorem tl_nil:TlO P σ h h' [] []:=⟨fun j o hj=>(by cases hj),fun j o hj=>(by cases hj),fun _=>I8⟩
theorem BP3 (hp:∀ c,∀ x ∈ f c,Plain x) (h4:Nat.blt i h'.next=true) (h3:L.length ≠ 0→lk h.l (σ i)=some (.cells (flat f L))) (hr:TlO P σ h h' ks r):TlO P σ h h' (i::ks) (AI9 i f L++r):=by
 refine ⟨fun j o hj=>?_,fun j o hj=>?_,fun hs=>AT2 (BN8 (Ae4 h4) hp hs h3) (hr.wko hs)⟩
 ·rcases Ah3 hj with hj|hj
  ·obtain ⟨rfl,_⟩:=AM5 hj;exact List.mem_cons_self ..
  ·exact List.mem_cons_of_mem _ (hr.key j o hj)
 ·rcases Ah3 hj with hj|hj
  ·obtain ⟨rfl,hz⟩:=AM5 hj;exact ⟨_,h3 hz⟩
  ·exact hr.sub j o hj
theorem BW2:∀ {ks:List Nat} {j:Nat},j ∈ ks→∃ o,lk (ks.map fun k=>(k,AObj.cells [])) j=some o
 | k::ks,j,hj=>by
  simp only [List.map_cons,lk]
  by_cases e:j=k
  ·exact ⟨_,if_pos e⟩
  ·rw [if_neg e]
   rcases List.mem_cons.1 hj with e2|hj
   ·exact absurd e2 e
   ·exact BW2 hj
theorem BW0 {tl:List (Nat × AObj)} (hk:∀ j o,lk tl j=some o→j ∈ ks) {j:Nat} {o:AObj}:∀ {l0:List (Nat × AObj)},lk (l0++tl) j=some o→∃ o',lk (l0++ks.map fun k=>(k,AObj.cells [])) j=some o'
 | [],hj=>BW2 (hk j o hj)
 | (q,x)::l0,hj=>by
  simp only [List.cons_append,lk] at hj ⊢
  split
  ·exact ⟨_,rfl⟩
  ·rename_i e;rw [if_neg e] at hj;exact BW0 hk hj
theorem weak_t {ren:List (Nat × Nat)} {sf sf':SF} {l0 tl:List (Nat × AObj)} {nx:Nat} (h1:Ab8 ((l0.map fun p=>rn ren p.1)++ks.map (rn ren))=true) (h2:subB (rn ren) h.l l0=true) (ht:TlO P (rn ren) h ⟨l0++tl,nx⟩ ks tl)
  (hf:AF7 (rn ren) h ⟨l0++tl,nx⟩→WkF P (rn ren) h ⟨l0++tl,nx⟩ sf sf') (ho:AF7 (rn ren) h ⟨l0++tl,nx⟩→WkO P (rn ren) h ⟨l0++tl,nx⟩ l0):Ao9 P ren n sf h sf' ⟨l0++tl,nx⟩:=by
 have hs:AF7 (rn ren) h ⟨l0++tl,nx⟩:=fun j o hj=>by
  rcases Ah3 hj with hj|hj
  ·exact Aa2 (h:=h) (h':=⟨l0,nx⟩) h2 j o hj
  ·exact ht.sub j o hj
 have h5:Ap0 (rn ren) (l0++ks.map fun k=>(k,AObj.cells [])):=M6 (by rw [List.map_append,List.map_map];exact h1)
 have h6:Ap0 (rn ren) (l0++tl):=fun a b o o' ha hb e=>by
  obtain ⟨_,ha⟩:=BW0 ht.key ha
  obtain ⟨_,hb⟩:=BW0 ht.key hb
  exact h5 a b _ _ ha hb e
 exact ⟨AZ5 h6 (AN7 (X5 (hf hs))) (AT2 (ho hs) (ht.wko hs))⟩
end
end Go.Am
namespace Go.Am
section
variable {P:Program} {G:Gl}
def oneMore (ns:List Nat) (id i j:Nat):Prop:=ns[i]? = some j∨(i=ns.length∧j=id)
theorem fnU_new {f:Nat} {args args0 cs cs':List AV} {r r':AV} {at_:At} {id:Nat} (ns:List Nat) (hc:AO7 P G f args0 [] ns.length fun x h1=>x=r∧h1=⟨[(ns.length,.cells cs)],ns.length+1⟩) (hGp:AH7 G) (hin:∀ n ∈ ns,∃ o,at_ n=some o)
  (ha:RnL (enter ns) args args0) (hr:RnV (oneMore ns id) r r') (hcs:RnL (oneMore ns id) cs cs'):FnU P G f args ns at_ r' [(id,some (.cells cs'))] id:=by
 refine ⟨hc.1,fun c vs hR hG hid hat hargs=>?_⟩
 let c0:Cx:={ U:=fun i=>i < ns.length,at_:=lk [],mu:=fun i=>c.mu (ns.getD i 0),w:=c.w,hid:=fun b=>c.hid b∨∃ id o,c.at_ id=some o∧(c.mu id).1=b }
 have getD_:∀ {j n},ns[j]? = some n→ns.getD j 0=n:=fun {j n} e=>by simp [List.getD_eq_getElem?_getD,e]
 have hlt':∀ {j n},ns[j]? = some n→j < ns.length:=fun {j n} e=>(List.getElem?_eq_some_iff.1 e).1
 have hcU:∀ {j n},ns[j]? = some n→c.U n:=fun {j n} e=>by
  have hm:=List.mem_of_getElem? e
  obtain ⟨o,ho⟩:=hin n hm
  exact hR.used _ _ ((hat n hm).trans ho)
 have sub0:Sub (enter ns) c c0 :=
  ⟨fun i j (hij:ns[j]? = some i) _=>⟨hlt' hij,by show c.mu (ns.getD j 0)=_;rw [getD_ hij]⟩,rfl,fun b hb=>⟨hb.1,fun j o ho=>(by cases ho),fun hh=>hh.elim hb.3 fun ⟨i,o,ho,e⟩=>hb.2 i o ho e⟩⟩
 have hR0:Rel P c0:=⟨fun j o ho=>(by cases ho),fun j j' o o' ho _ _=>(by cases ho),fun j o ho=>(by cases ho),⟨ns.length,fun i hi=>hi⟩,fun j o ho=>(by cases ho),fun b hb=>hb.elim (hR.hidlt b) fun ⟨i,o,ho,e⟩=>e▸(hR.obj i o ho).lt⟩
 have hG0:AN4 G c0:=fun n cs hn=>F4 (AB1 (hGp n cs hn)) c c0 _ sub0 (hG n cs hn)
 have hm0:Mat c0 ⟨[],ns.length⟩:=⟨rfl,fun i=>Iff.rfl⟩
 have ha0:o9 c0 args0 vs:=⟨by rw [hargs.1,ha.spec.1],ha.rcs sub0 hargs.2⟩
 refine (hc.2 c0 _ hR0 hG0 hm0 ha0).mono ?_
 rintro e w' ⟨v,rfl,x,h1,c2,rfl,⟨rfl,rfl⟩,hrv,hR2,hm2,he2⟩
 have hk2:c2.at_ ns.length=some (.cells cs):=by rw [hm2.at_];simp [lk]
 have hkU:c2.U ns.length:=hR2.used _ _ hk2
 have hnid:∀ {j},c.U j→j ≠ id:=fun h e=>hid (e▸h)
 let c':Cx:={ U:=fun i=>c.U i∨i=id,at_:=upd c.at_ [(id,some (.cells cs'))],mu:=fun i=>if i=id then c2.mu ns.length else c.mu i,w:=c2.w,hid:=c.hid }
 have muO:∀ {j},j ≠ id→c'.mu j=c.mu j:=fun h=>if_neg h
 have muI:c'.mu id=c2.mu ns.length:=if_pos rfl
 have spec1:∀ j o,c'.at_ j=some o→(j ≠ id∧c.at_ j=some o)∨(j=id∧o = .cells cs'):=fun j o ho=>by
  have ho':(if j=id then some (AObj.cells cs') else c.at_ j)=some o:=ho
  split at ho'
  ·rename_i e;cases ho';exact .inr ⟨e,rfl⟩
  ·rename_i e;exact .inl ⟨e,ho'⟩
 have hidO:∀ j o,c.at_ j=some o→c2.hid (c.mu j).1:=fun j o ho=>(he2.hid _).2 (.inr ⟨j,o,ho,rfl⟩)
 have hidC:∀ b,c.hid b→c2.hid b:=fun b hb=>(he2.hid b).2 (.inl hb)
 have hfroz:∀ b,c2.Froz b→c'.Froz b:=fun b hb=>by
  refine ⟨hb.1,fun j o ho=>?_,fun hh=>hb.3 (hidC b hh)⟩
  rcases spec1 j o ho with ⟨k1,k2⟩ | ⟨rfl,_⟩
  ·rw [muO k1];exact fun e=>hb.3 (e▸hidO j o k2)
  ·rw [muI];exact hb.2 _ _ hk2
 have sub1:Sub (oneMore ns id) c2 c':=by
  refine ⟨fun i j hij hi=>?_,rfl,hfroz⟩
  rcases hij with e | ⟨rfl,rfl⟩
  ·refine ⟨.inl (hcU e),?_⟩
   rw [muO (hnid (hcU e)),he2.mu i (hlt' e)]
   show c.mu j=c.mu (ns.getD i 0)
   rw [getD_ e]
  ·exact ⟨.inr rfl,muI⟩
 have he:Ext c c':=by
  refine ⟨fun i hi=>.inl hi,fun i hi=>muO (hnid hi),he2.csz,fun b hb=>?_,he2.size,fun _=>Iff.rfl,fun b hb=>he2.hidh b (.inl hb),he2.env⟩
  have k:=he2.froz b (sub0.froz b hb)
  exact ⟨hfroz b k.1,k.2⟩
 refine ⟨v,c',rfl,rfl,hr c2 c' v sub1 hrv,?_,he,rfl,fun i=>?_⟩
 ·refine ⟨fun j o ho=>?_,fun j j' o o' ho ho' e=>?_,fun j o ho=>?_,?_,fun j o ho hh=>?_,fun b hb=>Nat.lt_of_lt_of_le (hR.hidlt b hb) he2.size⟩
  ·rcases spec1 j o ho with ⟨k1,k2⟩ | ⟨rfl,_⟩
   ·exact .inl (hR.used j o k2)
   ·exact .inr rfl
  ·rcases spec1 j o ho with ⟨k1,k2⟩ | ⟨rfl,_⟩
   ·rcases spec1 j' o' ho' with ⟨k1',k2'⟩ | ⟨rfl,_⟩
    ·rw [muO k1,muO k1'] at e;exact hR.inj j j' _ _ k2 k2' e
    ·rw [muO k1,muI] at e;exact absurd (e▸hidO j o k2) (hR2.nohid _ _ hk2)
   ·rcases spec1 j' o' ho' with ⟨k1',k2'⟩ | ⟨rfl,_⟩
    ·rw [muO k1',muI] at e;exact absurd (e▸hidO j' o' k2') (hR2.nohid _ _ hk2)
    ·rfl
  ·rcases spec1 j o ho with ⟨k1,k2⟩ | ⟨rfl,rfl⟩
   ·rw [muO k1];exact (hR.obj j o k2).ext he (he2.hidh _ (.inr ⟨j,o,k2,rfl⟩))
   ·rw [muI]
    obtain ⟨a,T,q1,q2⟩:=hR2.obj _ _ hk2
    exact ⟨a,T,q1,hcs.rc1 sub1 q2⟩
  ·obtain ⟨N,hN⟩:=hR.many
   exact ⟨max N (id+1),fun i hi=>hi.elim (fun h=>Nat.lt_of_lt_of_le (hN i h) (Nat.le_max_left ..)) fun h=>by subst h;exact Nat.lt_of_lt_of_le (Nat.lt_succ_self _) (Nat.le_max_right ..)⟩
  ·rcases spec1 j o ho with ⟨k1,k2⟩ | ⟨rfl,_⟩
   ·rw [muO k1] at hh;exact hR.nohid j o k2 hh
   ·rw [muI] at hh;exact hR2.nohid _ _ hk2 (hidC _ hh)
 ·have : V3 [(id,some (AObj.cells cs'))] id=[id]:=by simp [V3]
  rw [this];simp;rfl
theorem dcx_new {f:Nat} {args args0 cs cs':List AV} {r r':AV} {h:Hp} {K:AV→Up→List Nat→Prop} (ns:List Nat) (hc:AO7 P G f args0 [] ns.length fun x h1=>x=r∧h1=⟨[(ns.length,.cells cs)],ns.length+1⟩) (hGp:AH7 G) (hin:∀ n ∈ ns,∃ o,lk h.l n=some o)
  (ha:RnL (enter ns) args args0) (hr:RnV (oneMore ns h.next) r r') (hcs:RnL (oneMore ns h.next) cs cs') (hk:K r' [(h.next,some (.cells cs'))] ns):AF5 P G f args h K:=⟨r',_,ns,fnU_new ns hc hGp hin ha hr hcs,hk⟩
end
theorem BI1 {qa qb:Prop} {α:Type} {L:List α} {l:List (Nat × AObj)} {nx sz bytes d:Nat} {x:AV} {k:AV→Up→List Nat→Prop} (hq:X4 ((L.length=0→qa)∧(L.length ≠ 0→qb))) (h:X4 (L.length=0→qa)→X4 (L.length ≠ 0→qb)→AppX l nx sz bytes (AX3 d sz L.length) x k):AppX l nx sz bytes (AX3 d sz L.length) x k:=h ⟨hq.out.1⟩ ⟨hq.out.2⟩
end Go.Am
