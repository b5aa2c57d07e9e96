/-
 A store of pages in frames and slots,plain: reads,writes,pages put out or freed.
 A store of pages in frames and slots,plain: Out,Free;any call;bytes (SwapBytes,SwapKeeps).
 A store of pages in frames and slots,plain: with more frames no more pages are brought in (SwapFewer).
 A store of pages in frames and slots,plain: two stores (SwapFewer).
 A store of pages in frames and slots,plain: victims (SwapVictims);counts (SwapFits).
 A store of pages in frames and slots,plain: all pages are freed (SwapFits' end);a new store.
 A store of pages in frames and slots,plain: pages outside of it;a new one;slots that are held.
 A store: its memory,and contracts over it.
 Several slices of their own that grow: they stand one behind the other at the heap's end. No program in sight.
 A call that makes one block,in a region that draws its order;a call that reads alone. No program in sight.
 The runs of the program: its iterator,collected.
 Pages' bytes as wholes: compared,written,read.
 A store's inner calls: is,stated,numbers,the bytes of a frame.
 A store's inner calls: the first free frame,the first slot.
 A function that sorts a slice of numbers,told by its contract over memory: as a contract over a store of its own. In-place appends. No program in sight.
 The iterators over a map by its keys,and the sort: their code.
 The sort's contract.
-/
import Derived.Test.YtbhgfoikbkaohaaQam
import Derived.Sort.Grow
import Derived.Sort.EveryDepth
import Derived.Shelf.Sort.AssemblyIn
set_option linter.unusedSimpArgs false
set_option linter.unusedVariables false
set_option maxHeartbeats 800000
namespace Go.Pol
open Go.Am Go.Proofs.Ytbhgfoikbkaohaa.Sh
section
variable {w:Sw}
theorem AB2 (h:E9 w) {p:Nat} (h0:0≤w.F p):∃ f:Nat,w.F p=(f:Nat)∧w.a≤f∧f < w.a+w.n∧w.s.K f=2:=by
 rcases h.fr p with h1 | ⟨_,h2⟩
 ·omega
 ·exact h2
theorem good_B (h:E9 w) {s':Sy} (hg:GoodS s') (hK:s'.K=w.s.K) (hM:s'.M=w.s.M):E9 { w with s:=s' }:=by
 refine ⟨hg,h.rng,fun f h1 h2=>?_,h.far,fun p=>?_,h.sl,h.oneF,h.oneT,h.st,h.cnt⟩
 ·show (s'.K f=1∨s'.K f=2)∧s'.M f=false
  rw [hK,hM];exact h.kind f h1 h2
 ·show w.F p = -1∨(w.T p = -1∧∃ f:Nat,w.F p=(f:Nat)∧w.a≤f∧f < w.a+w.n∧s'.K f=2)
  rw [hK];exact h.fr p
theorem BC9 (h:E9 w) {t v:Int} (ht:0≤t) (h0:0≤w.F (t.toNat / 64)):(w.byte t v).1=0∧E9 (w.byte t v).2∧(∀ p j,j < 64→(w.byte t v).2.hs p j=if p=t.toNat / 64∧j=t.toNat % 64 then v else w.hs p j)∧∃ s',(w.byte t v).2={ w with s:=s' }∧s'.K=w.s.K:=by
 obtain ⟨f,f1,f2,f3,f4⟩:=AB2 h h0
 have hr:=h.rng
 have e1:w.F (t.toNat / 64) * 64+t % 64=((f * 64+t.toNat % 64:Nat):Int):=by rw [f1];omega
 have e:w.s.write (w.F (t.toNat / 64) * 64+t % 64) v=(0,{ w.s with B:=AC2 w.s.B f (E8 (w.s.B f) (t.toNat % 64) v) }):=by
  rw [e1]
  unfold Sy.write
  rw [if_neg (by omega),show ((f * 64+t.toNat % 64:Nat):Int).toNat / 64=f by omega,if_pos f4,show ((f * 64+t.toNat % 64:Nat):Int).toNat % 64=t.toNat % 64 by omega]
 have hg:=BG5 (a:=w.F (t.toNat / 64) * 64+t % 64) (b:=v) h.good
 rw [e] at hg
 unfold Sw.byte
 rw [e]
 refine ⟨rfl,good_B h hg rfl rfl,fun p j hj=>?_,_,rfl,rfl⟩
 show (if 0≤w.F p then AC2 w.s.B f (E8 (w.s.B f) (t.toNat % 64) v) (w.F p).toNat j else if 0≤w.T p then w.D (w.T p).toNat j else 0)=_
 unfold Sw.hs
 by_cases hp:p=t.toNat / 64
 ·subst hp
  rw [if_pos h0,if_pos h0,show (w.F (t.toNat / 64)).toNat=f by omega]
  unfold AC2 E8
  rw [if_pos rfl]
  by_cases hj2:j=t.toNat % 64
  ·rw [if_pos hj2,if_pos ⟨rfl,hj2⟩]
  ·rw [if_neg hj2,if_neg fun hc=>hj2 hc.2]
 ·rw [if_neg (show ¬ (p=t.toNat / 64∧j=t.toNat % 64) from fun hc=>hp hc.1)]
  by_cases hF:0≤w.F p
  ·rw [if_pos hF,if_pos hF]
   unfold AC2
   rw [if_neg fun e2=>hp (h.oneF p _ hF (by omega))]
  ·rw [if_neg hF,if_neg hF]
theorem BI0 (h:E9 w) {t now v:Int} (he:(w.write t now v).1=0):w.nums t now∧E9 (w.write t now v).2∧(∀ p j,j < 64→(w.write t now v).2.hs p j=if p=t.toNat / 64∧j=t.toNat % 64 then v else w.hs p j):=by
 unfold Sw.write at he ⊢
 split at he
 ·exact absurd he (by decide:¬ (7:Int)=0)
 rename_i hn
 have hn2:w.nums t now:=Classical.not_not.1 hn
 rw [if_neg hn]
 obtain ⟨n1,n2,n3,n4⟩:=hn2
 have hg:=o8 h (p:=t.toNat / 64) (now:=now) (by omega) ⟨n3,n4⟩
 rcases AU4 h (p:=t.toNat / 64) now with hy|hno
 ·rw [if_pos hy.e]
  obtain ⟨b1,b2,b3,_⟩:=BC9 (v:=v) hg n1 hy.fr
  refine ⟨⟨n1,n2,n3,n4⟩,b2,fun p j hj=>?_⟩
  rw [b3 p j hj,hy.hs p j hj]
 ·rw [if_neg hno.e] at he
  exact absurd he hno.e
theorem BB3 (h:E9 w) {f:Nat} (hf:w.a≤f∧f < w.a+w.n) (hh:¬ w.heldF f) (hk:w.s.K f=2):E9 (w.gone (f:Nat))∧(∀ p j,(w.gone (f:Nat)).hs p j=w.hs p j):=by
 have hr:=h.rng
 have hm:=(h.kind f hf.1 hf.2).2
 have hu:∀ g,w.heldF g→w.s.K g=2:=fun g hg=>by
  obtain ⟨p,_,hp⟩:=hg
  rcases h.fr p with h1 | ⟨_,g',h2,_,_,h3⟩
  ·omega
  ·rw [show g=g' by omega];exact h3
 unfold Sw.gone
 rw [Ax1 (by omega) hk hm]
 split
 ·exact ⟨AV3 h (Ai0 h.good) h.kind hu,fun _ _=>rfl⟩
 ·refine ⟨AV3 h (Ao2 h.good (by omega) (by decide) hk hm) (fun g h1 h2=>⟨?_,(h.kind g h1 h2).2⟩) fun g hg=>?_,fun p j=>?_⟩
  ·rw [AN2];split
   ·exact .inl rfl
   ·exact (h.kind g h1 h2).1
  ·rw [AN2,if_neg (show ¬ g=f from fun e=>hh (e▸hg))];exact hu g hg
  ·show (if 0≤w.F p then (w.s.turn f 1 3).B (w.F p).toNat j else if 0≤w.T p then w.D (w.T p).toNat j else 0)=w.hs p j
   unfold Sw.hs
   by_cases hF:0≤w.F p
   ·rw [if_pos hF,if_pos hF,BJ7,if_neg fun e=>hh ⟨p,AE7 h hF,by omega⟩]
   ·rw [if_neg hF,if_neg hF]
end
end Go.Pol
namespace Go.Pol
open Go.Am Go.Proofs.Ytbhgfoikbkaohaa.Sh
section
variable {w:Sw}
theorem put_hs (h:E9 w) {v k:Nat} (h0:0≤w.F v) (hh:¬ w.heldT k) (q j:Nat):(w.put v k).hs q j=w.hs q j:=by
 show (if 0≤E8 w.F v (-1) q then w.s.B (E8 w.F v (-1) q).toNat j else if 0≤E8 w.T v (k:Nat) q then AC2 w.D k (w.s.B (w.F v).toNat) (E8 w.T v (k:Nat) q).toNat j else 0)=_
 unfold Sw.hs
 by_cases e:q=v
 ·subst e
  rw [C9,C9,if_neg (by decide),if_pos (by omega),if_pos h0,show ((k:Nat):Int).toNat=k from rfl]
  unfold AC2
  rw [if_pos rfl]
 ·rw [upd_ne e,upd_ne e]
  by_cases hF:0≤w.F q
  ·rw [if_pos hF,if_pos hF]
  ·rw [if_neg hF,if_neg hF]
   by_cases hT:0≤w.T q
   ·have : (w.T q).toNat ≠ k:=fun e3=>hh ⟨q,AJ1 h hT,by omega⟩
    rw [if_pos hT,if_pos hT]
    unfold AC2
    rw [if_neg this]
   ·rw [if_neg hT,if_neg hT]
theorem out_yes (h:E9 w) {p:Int} (he:(w.out p).1=0):E9 (w.out p).2∧∀ q j,(w.out p).2.hs q j=w.hs q j:=by
 unfold Sw.out at he ⊢
 split at he
 ·exact absurd he (by decide:¬ (7:Int)=0)
 rename_i c1;rw [if_neg c1]
 split at he
 ·exact absurd he (by decide:¬ (4:Int)=0)
 rename_i c2;rw [if_neg c2]
 cases hk:w.slot (-1) with
 | none=>rw [hk] at he;exact absurd he (by decide:¬ (5:Int)=0)
 | some k =>
  have c1:0≤p∧p < (w.pg:Nat):=Classical.not_not.1 c1
  have h0:0≤w.F p.toNat:=by omega
  obtain ⟨k1,k2⟩:=AC4 hk
  have k2:¬ w.heldT k:=k2.resolve_left (by omega)
  obtain ⟨f,f1,f2,f3,f4⟩:=AB2 h h0
  have hg:=Ao3 h (v:=p.toNat) (by omega) h0 k1 k2
  dsimp only
  rw [f1]
  obtain ⟨g1,g2⟩:=BB3 hg (f:=f) ⟨f2,f3⟩ (by
   rintro ⟨q,hq,e⟩
   have e:E8 w.F p.toNat (-1) q=(f:Nat):=e
   by_cases e2:q=p.toNat
   ·rw [e2,C9] at e;omega
   ·rw [upd_ne e2] at e;exact e2 (h.oneF q _ (by omega) (by omega))) f4
  exact ⟨g1,fun q j=>(g2 q j).trans (put_hs h h0 k2 q j)⟩
theorem out_no (p:Int) (he:(w.out p).1 ≠ 0):(w.out p).2=w:=by
 unfold Sw.out at he ⊢
 split
 ·rfl
 rename_i c1;rw [if_neg c1] at he
 split
 ·rfl
 rename_i c2;rw [if_neg c2] at he
 cases hk:w.slot (-1) with
 | none=>rfl
 | some k=>rw [hk] at he;exact absurd rfl he
def Sw.nowh (w:Sw) (p:Nat):Sw:={ w with F:=E8 w.F p (-1),T:=E8 w.T p (-1),Z:=E8 w.Z p 0 }
theorem BR3 (h:E9 w) (p:Nat):E9 (w.nowh p)∧∀ q j,(w.nowh p).hs q j=if q=p then 0 else w.hs q j:=by
 refine ⟨⟨h.good,h.rng,h.kind,fun q hq=>?_,fun q=>?_,fun q=>?_,fun q r h1 h2=>?_,fun q r h1 h2=>?_,fun q=>?_,h.cnt⟩,fun q j=>?_⟩
 ·show E8 w.F p (-1) q = -1∧E8 w.T p (-1) q = -1
  by_cases e:q=p
  ·rw [e,C9,C9];exact ⟨rfl,rfl⟩
  ·rw [upd_ne e,upd_ne e];exact h.far q hq
 ·show E8 w.F p (-1) q = -1∨(E8 w.T p (-1) q = -1∧∃ f:Nat,E8 w.F p (-1) q=(f:Nat)∧w.a≤f∧f < w.a+w.n∧w.s.K f=2)
  by_cases e:q=p
  ·exact .inl (by rw [e,C9])
  ·rw [upd_ne e,upd_ne e];exact h.fr q
 ·show E8 w.T p (-1) q = -1∨(E8 w.F p (-1) q = -1∧∃ k:Nat,E8 w.T p (-1) q=(k:Nat)∧k < w.sl)
  by_cases e:q=p
  ·exact .inl (by rw [e,C9])
  ·rw [upd_ne e,upd_ne e];exact h.sl q
 ·have h1:0≤E8 w.F p (-1) q:=h1
  have h2:E8 w.F p (-1) q=E8 w.F p (-1) r:=h2
  by_cases e:q=p
  ·rw [e,C9] at h1;exact absurd h1 (by decide)
  ·rw [upd_ne e] at h1 h2
   by_cases e2:r=p
   ·rw [e2,C9] at h2;omega
   ·rw [upd_ne e2] at h2;exact h.oneF q r h1 h2
 ·have h1:0≤E8 w.T p (-1) q:=h1
  have h2:E8 w.T p (-1) q=E8 w.T p (-1) r:=h2
  by_cases e:q=p
  ·rw [e,C9] at h1;exact absurd h1 (by decide)
  ·rw [upd_ne e] at h1 h2
   by_cases e2:r=p
   ·rw [e2,C9] at h2;omega
   ·rw [upd_ne e2] at h2;exact h.oneT q r h1 h2
 ·show 0≤E8 w.Z p 0 q∧E8 w.Z p 0 q≤1000000000000
  by_cases e:q=p
  ·rw [e,C9];decide
  ·rw [upd_ne e];exact h.st q
 ·show (if 0≤E8 w.F p (-1) q then w.s.B (E8 w.F p (-1) q).toNat j else if 0≤E8 w.T p (-1) q then w.D (E8 w.T p (-1) q).toNat j else 0)=_
  by_cases e:q=p
  ·rw [e,C9,C9,if_pos rfl];rfl
  ·rw [upd_ne e,upd_ne e,if_neg e];rfl
theorem fre_yes (h:E9 w) {p:Int} (he:(w.fre p).1=0):(0≤p∧p < (w.pg:Nat))∧E9 (w.fre p).2∧∀ q j,(w.fre p).2.hs q j=if q=p.toNat then 0 else w.hs q j:=by
 unfold Sw.fre at he ⊢
 split at he
 ·exact absurd he (by decide:¬ (7:Int)=0)
 rename_i c1;rw [if_neg c1]
 split at he
 ·exact absurd he (by decide:¬ (4:Int)=0)
 rename_i c2;rw [if_neg c2]
 have c1:0≤p∧p < (w.pg:Nat):=Classical.not_not.1 c1
 obtain ⟨n1,n2⟩:=BR3 h p.toNat
 refine ⟨c1,?_⟩
 dsimp only
 split
 ·rename_i h0
  obtain ⟨f,f1,f2,f3,f4⟩:=AB2 h h0
  rw [f1]
  obtain ⟨g1,g2⟩:=BB3 n1 (f:=f) ⟨f2,f3⟩ (by
   rintro ⟨q,hq,e⟩
   have e:E8 w.F p.toNat (-1) q=(f:Nat):=e
   by_cases e2:q=p.toNat
   ·rw [e2,C9] at e;omega
   ·rw [upd_ne e2] at e;exact e2 (h.oneF q _ (by omega) (by omega))) f4
  exact ⟨g1,fun q j=>(g2 q j).trans (n2 q j)⟩
 ·exact ⟨n1,n2⟩
theorem fre_no (p:Int) (he:(w.fre p).1 ≠ 0):(w.fre p).2=w:=by
 unfold Sw.fre at he ⊢
 split
 ·rfl
 rename_i c1;rw [if_neg c1] at he
 split
 ·rfl
 rename_i c2;rw [if_neg c2] at he
 exact absurd rfl he
def Sw.call (w:Sw) (k:Nat) (t now v p:Int) (l:List Rl):Int × Sw :=
 if k < 6 then w.write t now v else if k < 10 then (w.read t now).2 else if k=10 then w.out p else if k=11 then w.fre p else
 if k=13 then ((w.s.plan l).1,{ w with s:=(w.s.plan l).2 }) else (0,w)
end
end Go.Pol
namespace Go.Pol
open Go.Am Go.Proofs.Ytbhgfoikbkaohaa.Sh
section
variable {w:Sw}
structure Lru (w:Sw) (now:Int):Prop where
 good:E9 w
 l:w.s.l=[]
 sl:w.sl=256
 up:∀ p q,0≤w.F p→w.is q→w.Z p < w.Z q→0≤w.F q
 dist:∀ p q,w.is p→w.is q→w.Z p=w.Z q→p=q
 fresh:∀ p,w.is p→w.Z p < now
 full:∀ p,w.is p→¬ 0≤w.F p→w.free=none
end
end Go.Pol
namespace Go.Pol
open Go.Am Go.Proofs.Ytbhgfoikbkaohaa.Sh
section
variable {t u:Sw} {now:Int}
end
end Go.Pol
namespace Go.Pol
open Go.Am Go.Proofs.Ytbhgfoikbkaohaa.Sh
section
variable {w:Sw}
def OutW (w:Sw):Prop:=∀ p,¬ (w.a≤p∧p < w.a+w.n)→w.s.K p=0
end
end Go.Pol
namespace Go.Pol
open Go.Am Go.Proofs.Ytbhgfoikbkaohaa.Sh
section
variable {w:Sw}
theorem fre_good (h:E9 w) (p:Int):E9 (w.fre p).2:=by
 by_cases he:(w.fre p).1=0
 ·exact (fre_yes h he).2.1
 ·rw [fre_no p he];exact h
end
end Go.Pol
namespace Go.Pol
open Go.Am Go.Proofs.Ytbhgfoikbkaohaa.Sh
section
variable {w:Sw}
theorem BP0 {l:List Rl} {a n:Int} {pg sl:Nat} (hc:(AS2 l).2=0) (hi:0≤a∧1≤n∧a+n≤1024) (hp:1≤pg∧pg≤256∧sl≤256) (he:((Sy.new l).chg a n 0 1 0).1=0) (b:Sw) (hb:b=⟨a.toNat,n.toNat,pg,sl,fun _=>-1,fun _=>-1,fun _=>0,fun _ _=>0,0,0,((Sy.new l).chg a n 0 1 0).2⟩):E9 b∧OutW b∧(∀ p j,b.hs p j=0)∧(l=[]→sl=256→Lru b 1):=by
 obtain ⟨k1,k2,k3,k4⟩:=new_chg he
 subst hb
 have hg:E9 ⟨a.toNat,n.toNat,pg,sl,fun _=>-1,fun _=>-1,fun _=>0,fun _ _=>0,0,0,((Sy.new l).chg a n 0 1 0).2⟩:=by
  refine ⟨good_chg (BB1 hc) (by decide),⟨by show 1≤n.toNat;omega,by show a.toNat+n.toNat≤1024;omega,hp.1,hp.2.1,hp.2.2⟩,fun f h1 h2=>⟨.inl ?_,k2 f⟩,fun _ _=>⟨rfl,rfl⟩,fun _=>.inl rfl,fun _=>.inl rfl,fun p q h1=>absurd h1 (show ¬ (0:Int) ≤ -1 by decide),fun p q h1=>absurd h1 (show ¬ (0:Int) ≤ -1 by decide),fun _=>(show (0:Int)≤0∧(0:Int)≤1000000000000 by decide),(show (0:Int)≤0∧(0:Int)≤1000000000∧(0:Int)≤0∧(0:Int)≤1000000000 by decide)⟩
  show ((Sy.new l).chg a n 0 1 0).2.K f=1
  rw [k1,if_pos ⟨h1,h2⟩]
 have hno:∀ p,¬ Sw.is ⟨a.toNat,n.toNat,pg,sl,fun _=>-1,fun _=>-1,fun _=>0,fun _ _=>0,0,0,((Sy.new l).chg a n 0 1 0).2⟩ p:=fun p h=>by
  rcases h with h|h
  ·exact absurd h (show ¬ (0:Int) ≤ -1 by decide)
  ·exact absurd h (show ¬ (0:Int) ≤ -1 by decide)
 refine ⟨hg,fun p hp=>?_,fun p j=>rfl,fun hl hs=>⟨hg,k4.trans hl,hs,fun p q h=>absurd h (show ¬ (0:Int) ≤ -1 by decide),fun p q h=>absurd h (hno p),fun p h=>absurd h (hno p),fun p h=>absurd h (hno p)⟩⟩
 show ((Sy.new l).chg a n 0 1 0).2.K p=0
 rw [k1,if_neg hp]
end
end Go.Pol
namespace Go.Pol
open Go.Am Go.Proofs.Ytbhgfoikbkaohaa.Sh
def pgE (x:Int × Int × Int):AV:=.agg [.int .i64 x.1,.int .i64 x.2.1,.int .i64 x.2.2]
def byE (b:Nat→Int):AV:=.agg (bcA b)
def nuE (p:Int):AV:=.int .i64 p
theorem G9 (x:Int × Int × Int):Plain (pgE x):=F9 fun y hy=>by
 simp only [List.mem_cons,List.not_mem_nil,or_false] at hy
 rcases hy with rfl|rfl|rfl<;>exact A8
theorem H7 (b:Nat→Int):Plain (byE b):=F9 AB7
theorem H6 (p:Int):Plain (nuE p):=A8
structure WS where
 W:List (Int × Int × Int × Int)
 D:List (Int × (Nat→Int))
 H:List (Int × Int)
structure WOk (w:Sw) (t:WS):Prop where
 ndW:ndI t.W
 ndD:ndI t.D
 ndH:ndI t.H
 gW:∀ p:Int,mgI t.W p=if 0≤p∧w.is p.toNat then some (w.F p.toNat,w.T p.toNat,w.Z p.toNat) else none
 gD:∀ k:Int,mgI t.D k=if 0≤k∧w.heldT k.toNat then some (w.D k.toNat) else none
 gH:∀ f p:Int,mgI t.H f=some p ↔ 0≤p∧0≤f∧w.F p.toNat=f
def stC (s w d h:Nat) (q:Sw):List AV:=[.ptr s 0,.int .i64 (q.a:Nat),.int .i64 (q.n:Nat),.int .i64 (q.pg:Nat),.int .i64 (q.sl:Nat),.mapr w,.mapr d,.mapr h,.int .i64 q.ins,.int .i64 q.outs]
def stN (q:Sw) (t:WS) (o w d h s:Nat):List (Nat × AObj):=[(o,.cells (stC s w d h q)),(w,.maps (encW pgE t.W)),(d,.maps (encW byE t.D)),(h,.maps (encW nuE t.H)),(s,.cells q.s.a)]
end Go.Pol
namespace Go.Proofs.Ytbhgfoikbkaohaa.Sh
open Go Go.Am Go.Pol
structure J9 (f:Nat) (avs:List AV) (q:Sw) (t:WS) (r:AV) (q':Sw) (t':WS):Prop where
 out:AW4 Try.prog G0 f (.ptr 0 0::avs) (stN q t 0 1 2 3 4) 5 fun x h1=>x=r∧h1=⟨stN q' t' 0 1 2 3 4,5⟩
 pa:∀ x ∈ avs,Plain x
 pr:Plain r
theorem AX8 {p:Nat→Nat→Prop} {q:Sw} {s w d h s' w' d' h':Nat} (e1:p s s') (e2:p w w') (e3:p d d') (e4:p h h'):RnL p (stC s w d h q) (stC s' w' d' h' q) :=
 ⟨Y8 e1,F7 A8,F7 A8,F7 A8,F7 A8,BM4 e2,BM4 e3,BM4 e4,F7 A8,F7 A8,trivial⟩
theorem BI3 {σ:Nat→Nat} {h h':Hp} {q:Sw} {t:WS} {o w d m s o' w' d' m' s':Nat} (hs:AM9 σ h h') (e0:σ o'=o) (e1:σ w'=w) (e2:σ d'=d) (e3:σ m'=m) (e4:σ s'=s) (hlt:o' < h'.next∧w' < h'.next∧d' < h'.next∧m' < h'.next∧s' < h'.next)
  (g0:lk h.l o=some (.cells (stC s w d m q))) (g1:lk h.l w=some (.maps (encW pgE t.W))) (g2:lk h.l d=some (.maps (encW byE t.D))) (g3:lk h.l m=some (.maps (encW nuE t.H))) (g4:lk h.l s=some (.cells q.s.a)) {r:List (Nat × AObj)} (hr:WkO Try.prog σ h h' r):WkO Try.prog σ h h' (stN q t o' w' d' m' s'++r):=by
 obtain ⟨l0,l1,l2,l3,l4⟩:=hlt
 refine U5 l0 (by rw [e0];exact g0) (D5 (AC1 e4 l4) (D5 (K7 rfl) (D5 (K7 rfl) (D5 (K7 rfl) (D5 (K7 rfl) (D5 (AS7 e1 l1) (D5 (AS7 e2 l2) (D5 (AS7 e3 l3) (D5 (K7 rfl) (D5 (K7 rfl) N9)))))))))) ?_
 exact N8 hs l1 (by rw [e1];exact g1) rfl (D6 G9) (N8 hs l2 (by rw [e2];exact g2) rfl (D6 H7) (N8 hs l3 (by rw [e3];exact g3) rfl (D6 H6) (I6 hs l4 (by rw [e4];exact g4) rfl H8 hr)))
theorem Af5 {σ:Nat→Nat} {h h':Hp} {i s w d m s' w' d' m':Nat} {q:Sw} {r:List (Nat × AObj)} (h1:i < h'.next) (h2:lk h.l (σ i)=some (.cells (stC s w d m q))) (e1:σ s'=s) (l1:s' < h'.next) (e2:σ w'=w) (l2:w' < h'.next) (e3:σ d'=d) (l3:d' < h'.next) (e4:σ m'=m) (l4:m' < h'.next) (h4:WkO Try.prog σ h h' r):WkO Try.prog σ h h' ((i,.cells (stC s' w' d' m' q))::r) :=
 U5 h1 h2 (D5 (AC1 e1 l1) (D5 (K7 rfl) (D5 (K7 rfl) (D5 (K7 rfl) (D5 (K7 rfl) (D5 (AS7 e2 l2) (D5 (AS7 e3 l3) (D5 (AS7 e4 l4) (D5 (K7 rfl) (D5 (K7 rfl) N9)))))))))) h4
theorem sub_st {h:Hp} {q:Sw} {t:WS} {nx:Nat} (g0:lk h.l 0=some (.cells (stC 4 1 2 3 q))) (g1:lk h.l 1=some (.maps (encW pgE t.W))) (g2:lk h.l 2=some (.maps (encW byE t.D))) (g3:lk h.l 3=some (.maps (encW nuE t.H))) (g4:lk h.l 4=some (.cells q.s.a)):AM9 (rn []) h ⟨stN q t 0 1 2 3 4,nx⟩:=fun i o hi=>by
 simp only [stN,lk] at hi
 show ∃ o',lk h.l i=some o'
 split at hi
 ·rename_i e;subst e;exact ⟨_,g0⟩
 ·split at hi
  ·rename_i e;subst e;exact ⟨_,g1⟩
  ·split at hi
   ·rename_i e;subst e;exact ⟨_,g2⟩
   ·split at hi
    ·rename_i e;subst e;exact ⟨_,g3⟩
    ·split at hi
     ·rename_i e;subst e;exact ⟨_,g4⟩
     ·cases hi
theorem end_WW {top:Bool} {h:Hp} {N0:Nat} {x r:AV} {q:Sw} {t:WS} (hr:AM9 (rn []) h ⟨stN q t 0 1 2 3 4,5⟩→WkV Try.prog (rn []) h ⟨stN q t 0 1 2 3 4,5⟩ x r) (g0:lk h.l 0=some (.cells (stC 4 1 2 3 q))) (g1:lk h.l 1=some (.maps (encW pgE t.W))) (g2:lk h.l 2=some (.maps (encW byE t.D))) (g3:lk h.l 3=some (.maps (encW nuE t.H))) (g4:lk h.l 4=some (.cells q.s.a)) (hN0:N0≤5:=by decide) :
  AW5 top Try.prog N0 h x (fun r' h'=>r'=r∧h'=⟨stN q t 0 1 2 3 4,5⟩):=by
 have hs:AM9 (rn []) h ⟨stN q t 0 1 2 3 4,5⟩:=sub_st g0 g1 g2 g3 g4
 refine AH4 [] rfl hN0 (Q8 rfl) (hr hs) ?_ ⟨rfl,rfl⟩
 have:=BI3 (o':=0) (w':=1) (d':=2) (m':=3) (s':=4) (r:=[]) hs rfl rfl rfl rfl rfl ⟨show 0 < 5 by decide,show 1 < 5 by decide,show 2 < 5 by decide,show 3 < 5 by decide,show 4 < 5 by decide⟩ g0 g1 g2 g3 g4 M7
 exact this
theorem K8 {top:Bool} {h:Hp} {N0:Nat} {x r:AV} {q:Sw} {t:WS} (hr:x=r) (hp:Plain r) (g0:lk h.l 0=some (.cells (stC 4 1 2 3 q))) (g1:lk h.l 1=some (.maps (encW pgE t.W))) (g2:lk h.l 2=some (.maps (encW byE t.D))) (g3:lk h.l 3=some (.maps (encW nuE t.H))) (g4:lk h.l 4=some (.cells q.s.a)) (hN0:N0≤5:=by decide) :
  AW5 top Try.prog N0 h x (fun r' h'=>r'=r∧h'=⟨stN q t 0 1 2 3 4,5⟩):=by
 subst hr
 exact end_WW (fun hs=>U1 hs hp) g0 g1 g2 g3 g4 hN0
theorem AP6 {f:Nat} {avs:List AV} {q q':Sw} {t t':WS} {o w d m s nx:Nat} {l:List (Nat × AObj)} {r:AV} {K:AV→Hp→Prop} (hc:J9 f avs q t r q' t')
  (g0:lk l o=some (.cells (stC s w d m q))) (g1:lk l w=some (.maps (encW pgE t.W))) (g2:lk l d=some (.maps (encW byE t.D))) (g3:lk l m=some (.maps (encW nuE t.H))) (g4:lk l s=some (.cells q.s.a))
  (hlt:o < nx∧w < nx∧d < nx∧m < nx∧s < nx) (hd:Ac2 [o,w,d,m,s]=true)
  (hk:AU2 [o,w,d,m,s] l fun l2=>K r ⟨([(o,.cells (stC s w d m q')),(w,.maps (encW pgE t'.W)),(d,.maps (encW byE t'.D)),(m,.maps (encW nuE t'.H)),(s,.cells q'.s.a)]:List (Nat × AObj))++l2,nx⟩):AK8 Try.prog G0 (.fn f [] []) (.ptr o 0::avs) ⟨l,nx⟩ K:=by
 have e0:enter [o,w,d,m,s] o 0:=rfl
 have e1:enter [o,w,d,m,s] w 1:=rfl
 have e2:enter [o,w,d,m,s] d 2:=rfl
 have e3:enter [o,w,d,m,s] m 3:=rfl
 have e4:enter [o,w,d,m,s] s 4:=rfl
 have k0:back [o,w,d,m,s] nx 0 o:=rfl
 have k1:back [o,w,d,m,s] nx 1 w:=rfl
 have k2:back [o,w,d,m,s] nx 2 d:=rfl
 have k3:back [o,w,d,m,s] nx 3 m:=rfl
 have k4:back [o,w,d,m,s] nx 4 s:=rfl
 refine Aa4 (l1:=stN q' t' o w d m s) [o,w,d,m,s] hc.out K3 hd
  (.cons e0 g0 (AX8 e4 e1 e2 e3) (.maps e1 g1 (D6 G9) (.maps e2 g2 (D6 H7) (.maps e3 g3 (D6 H6) (.cons e4 g4 (E5 H8) .nil)))))
  ?_ (by intro x hx;simp only [List.mem_cons,List.not_mem_nil,or_false] at hx;omega) (F7 hc.pr)
  (.cons k0 (AX8 k4 k1 k2 k3) (.maps k1 (D6 G9) (.maps k2 (D6 H7) (.maps k3 (D6 H6) (.cons k4 (E5 H8) .nil))))) hk
 simp only [List.nil_append,List.append_nil]
 exact ⟨Y8 e0,E5 hc.pa⟩
theorem dcx_w {f:Nat} {avs:List AV} {q q':Sw} {t t':WS} {o w d m s:Nat} {h:Hp} {r:AV} {K:AV→Up→List Nat→Prop} (hc:J9 f avs q t r q' t')
  (g0:lk h.l o=some (.cells (stC s w d m q))) (g1:lk h.l w=some (.maps (encW pgE t.W))) (g2:lk h.l d=some (.maps (encW byE t.D))) (g3:lk h.l m=some (.maps (encW nuE t.H))) (g4:lk h.l s=some (.cells q.s.a))
  (hd:Ac2 [o,w,d,m,s]=true) (hnx':[o,w,d,m,s].contains h.next=false)
  (hk:K r [(o,some (.cells (stC s w d m q'))),(w,some (.maps (encW pgE t'.W))),(d,some (.maps (encW byE t'.D))),(m,some (.maps (encW nuE t'.H))),(s,some (.cells q'.s.a))] [o,w,d,m,s]):AL5 Try.prog G0 f (.ptr o 0::avs) h K:=by
 have hnx:h.next ∉ [o,w,d,m,s]:=fun hm=>by rw [List.contains_eq_mem,decide_eq_false_iff_not] at hnx';exact hnx' hm
 have e0:enter [o,w,d,m,s] o 0:=rfl
 have e1:enter [o,w,d,m,s] w 1:=rfl
 have e2:enter [o,w,d,m,s] d 2:=rfl
 have e3:enter [o,w,d,m,s] m 3:=rfl
 have e4:enter [o,w,d,m,s] s 4:=rfl
 have k0:P9 [o,w,d,m,s] 0 o:=rfl
 have k1:P9 [o,w,d,m,s] 1 w:=rfl
 have k2:P9 [o,w,d,m,s] 2 d:=rfl
 have k3:P9 [o,w,d,m,s] 3 m:=rfl
 have k4:P9 [o,w,d,m,s] 4 s:=rfl
 refine Aw7 (l1:=stN q' t' o w d m s) [o,w,d,m,s] hc.out K3 hd
  (.cons e0 g0 (AX8 e4 e1 e2 e3) (.maps e1 g1 (D6 G9) (.maps e2 g2 (D6 H7) (.maps e3 g3 (D6 H6) (.cons e4 g4 (E5 H8) .nil)))))
  hnx ?_ ?_ ⟨Y8 e0,E5 hc.pa⟩ (F7 hc.pr)
  (.cons k0 (AX8 k4 k1 k2 k3) (.maps k1 (D6 G9) (.maps k2 (D6 H7) (.maps k3 (D6 H6) (.cons k4 (E5 H8) .nil))))) hk
 ·intro x hx
  simp only [stN,lk]
  repeat' split
  all_goals first|exact ⟨_,rfl⟩|(exfalso;simp only [List.mem_cons,List.not_mem_nil,or_false] at hx;omega)
 ·intro j x hx
  have : j < 5:=(List.getElem?_eq_some_iff.1 hx).1
  simp only [stN,lk]
  repeat' split
  all_goals first|exact ⟨_,rfl⟩|(exfalso;omega)
end Go.Proofs.Ytbhgfoikbkaohaa.Sh
namespace Go.Am
section
variable {α:Type} {f:α→List AV} {L:List α} {d i:Nat} {r:List (Nat × AObj)}
theorem lk_tN (hz:L.length=0):lk (AU9 d f L++r) i=lk r i:=by rw [AT2 hz];rfl
theorem lk_tA {r':List (Nat × AObj)} (h:i ≠ d):lk (r'++AU9 d f L) i=lk r' i:=by
 by_cases hz:L.length=0
 ·rw [AT2 hz,List.append_nil]
 ·rw [AT3 hz]
  induction r' with
  | nil=>simp [lk,h]
  | cons p r' ih=>obtain ⟨j,o⟩:=p;simp only [List.cons_append,lk];rw [ih]
theorem BP7 (h:i ≠ d):lk (AU9 d f L) i=none:=by
 have:=lk_tA (f:=f) (L:=L) (r':=[]) h
 exact this
end
section
variable {P:Program} {σ:Nat→Nat} {h h':Hp} {ks:List Nat} {r:List (Nat × AObj)} {α:Type} {f:α→List AV} {L:List α} {i n:Nat}
end
end Go.Am
namespace Go.Am
section
variable {P:Program} {G:Gl}
end
theorem appx_q {qa qb:Prop} {α:Type} {L:List α} {l:List (Nat × AObj)} {nx sz bytes d:Nat} {x:AV} {k:AV→Up→List Nat→Prop} (hq:Y7 ((L.length=0→qa)∧(L.length ≠ 0→qb))) (h:Y7 (L.length=0→qa)→Y7 (L.length ≠ 0→qb)→AppX l nx sz bytes (Ak6 d sz L.length) x k):AppX l nx sz bytes (Ak6 d sz L.length) x k:=h ⟨hq.out.1⟩ ⟨hq.out.2⟩
end Go.Am
namespace Go.Proofs.Ytbhgfoikbkaohaa
open Go Go.Am Go.Pol
theorem ppx_Ti {p:Prop} (h:p:=by ((first|with_reducible assumption|(with_reducible first|apply I4 _|apply O8 I4|apply O8 z8|apply z8|apply C8|apply AD4|apply D8 C8|apply AC7 C8|apply AH8|apply H8|apply D8 hP|fail)|exact ppw|fail);first|done|fail)):p:=h
open Go.Proofs.Ytbhgfoikbkaohaa renaming plx_Sd → plx
open Go.Proofs.Ytbhgfoikbkaohaa renaming ppx_Ti → ppx
section
variable {K:Nat→Int} {M:Nat→Bool} {B:Nat→Nat→Int} {P:List AV}
end
end Go.Proofs.Ytbhgfoikbkaohaa
namespace Go.Pol
open Go.Am
theorem AV0:∀ {vs cs pre:List AV},cs.length=vs.length→over (pre++cs) pre.length vs=pre++vs
 | [],cs,pre,h=>by
  have : cs=[]:=List.eq_nil_of_length_eq_zero (by simpa using h)
  subst this;rfl
 | v::vs,[],pre,h=>by simp at h
 | v::vs,c::cs,pre,h=>by
  show over ((pre++c::cs).set pre.length v) (pre.length+1) vs=_
  rw [List.set_append_right _ _ (Nat.le_refl _),Nat.sub_self,List.set_cons_zero]
  have:=AV0 (vs:=vs) (cs:=cs) (pre:=pre++[v]) (by simpa using h)
  rw [List.length_append,List.append_assoc,List.append_assoc] at this
  exact this
theorem y_take {y:List AV} (h:y.length=64):y.take 64=y:=List.take_of_length_le (by omega)
theorem over_y {y:List AV} (h:y.length=64):over (List.replicate 64 (AV.int .u8 0)) 0 y=y:=AV0 (pre:=[]) (by rw [h];rfl)
theorem over_y1 {y:List AV} {x:AV} (h:y.length=64):over (x::List.replicate 64 (AV.int .u8 0)) 1 y=x::y:=AV0 (pre:=[x]) (by rw [h];rfl)
section
variable {K:Nat→Int} {M G:Nat→Bool} {B:Nat→Nat→Int} {P:List AV} {p o:Nat}
end
end Go.Pol
namespace Go.Pol
open Go.Am Go.Proofs.Ytbhgfoikbkaohaa.Sh
def AE0 (a n pg sl:Int):Prop:=0≤a∧a < 1024∧1≤n∧n≤1024 - a∧1≤pg∧pg≤256∧0≤sl∧sl≤256
instance (a n pg sl:Int):Decidable (AE0 a n pg sl):=by unfold AE0;infer_instance
theorem BH9:AV.agg (List.replicate 64 (.int .u8 0))=byE fun _=>0:=by
 unfold byE bcA
 congr 1
 refine List.ext_getElem? fun i=>?_
 by_cases h:i < 64
 ·rw [List.getElem?_replicate,if_pos h,V3 h]
 ·rw [List.getElem?_eq_none (by rw [List.length_replicate];omega),List.getElem?_eq_none (by rw [l7];omega)]
theorem AM0 {x:Nat→Int}:over (List.replicate 64 (AV.int .u8 0)) 0 (bcA x)=bcA x:=AV0 (pre:=[]) (by rw [AA5];rfl)
theorem mlook_d {l:List (Nat × AObj)} {i:Nat} {z:AV} {L:List (Int × (Nat→Int))} {k:Int} {x:Nat→Int} {K:AV→Up→List Nat→Prop} (hD:(match mgI L k with|some b=>b|none=>fun _=>0)=x) (hz:z=byE fun _=>0) (h1:lk l i=some (.maps (encW byE L))) (hk:K (byE x) [] [i]):AU0 l false false [0] z (.mapr i) (.int .i64 k) K:=by
 cases hm:mgI L k with
 | none=>rw [hm] at hD;subst hD;subst hz;exact BP2 hm h1 hk
 | some b=>rw [hm] at hD;subst hD;exact Y3 hm h1 hk
theorem BP1 {l:List (Nat × AObj)} {i:Nat} {z:AV} {L:List (Int × (Nat→Int))} {k:Int} {K:AV→Up→List Nat→Prop} (hg:mgI L k=none) (hz:z=byE fun _=>0) (h1:lk l i=some (.maps (encW byE L))) (hk:K (.tup [byE fun _=>0,.bool false]) [] [i]):AU0 l true false [0] z (.mapr i) (.int .i64 k) K:=by
 subst hz;exact AO5 hg h1 hk
end Go.Pol
namespace Go.Proofs.Ytbhgfoikbkaohaa.Sh
open Go Go.Am Go.Pol
theorem plx_Sxc {p:Prop} (h:p:=by ((first|exact plw|(with_reducible first|apply O7|apply G9 _|apply H7 _|apply H6 _|apply j6|fail)|fail);first|done|fail)):p:=h
theorem ppx_Sxc {p:Prop} (h:p:=by ((first|with_reducible assumption|(with_reducible first|apply H8|apply AH8|apply AG1|apply AB7|apply AG8|fail)|exact ppw|fail);first|done|fail)):p:=h
open Go.Proofs.Ytbhgfoikbkaohaa.Sh renaming plx_Sxc → plx
open Go.Proofs.Ytbhgfoikbkaohaa.Sh renaming ppx_Sxc → ppx
theorem wx_Sxc {p q:Prop} (hq:q) (h:Y7 q→p:=by (intro hQz;((repeat' ((try (conv=>whnf));first|refine sxA ?_|refine AB0 (by rw [l7];omega) hset ?_|refine AB5 (by rw [AA5];omega) List.drop_zero (j4 (by rw [AA5];omega) Ax2 ?_)|refine ⟨AA5,?_⟩|refine AE3 (by simp only [AA5];omega) (over_self _) ?_|refine J5 hxk ?_|refine sxF ?_|refine S9 (by assumption) rfl (by decide) ?_|refine S9 hws rfl (by decide) ?_|refine sxH ?_|((with_reducible first|apply V7 hQz|apply V8 hQz)<;>(try intro hsp hQz))|exact hQz.out))<;>(try (conv=>whnf))))):p:=h ⟨hq⟩
theorem O7:Plain (.tup []):=F8 fun x hx=>by cases hx
theorem j6 {f:Nat→Int}:Plain (.agg (bcA f)):=F9 AB7
theorem k_stated (a n pg sl:Int):O5 44 [.int .i64 a,.int .i64 n,.int .i64 pg,.int .i64 sl] (.bool (decide (AE0 a n pg sl))):=by
 refine O5.mk (X0 F6 b44 K3 ⟨A8,A8,A8,A8,trivial⟩ D7 rfl ?_)
 unfold c44
 (refine wx_Sxc ?_;repeat' (first|with_reducible refine And.intro ?_ ?_|intro hsp))
 all_goals first|(exfalso;omega)|exact l8 (by first|exact decide_eq_decide.2 (by unfold AE0;omega)|exact (decide_eq_true (show AE0 a n pg sl by unfold AE0;omega)).symm|exact (decide_eq_false (show ¬ AE0 a n pg sl by unfold AE0;omega)).symm)
section
variable {q:Sw} {t:WS}
theorem w_is:J9 30 [] q t (.bool true) q t:=by
 refine J9.mk (J6 F6 b30 rfl ?_) (fun x hx=>by cases hx) D7
 unfold c30
 unfold stN stC
 (refine wx_Sxc ?_;repeat' (first|with_reducible refine And.intro ?_ ?_|intro hsp))
 all_goals exact K8 rfl D7 rfl rfl rfl rfl rfl
theorem Al2 (hp:q.pg≤256) (a now:Int):J9 31 [.int .i64 a,.int .i64 now] q t (.bool (decide (q.nums a now))) q t:=by
 refine J9.mk (J6 F6 b31 rfl ?_) (fun x hx=>by
  simp only [List.mem_cons,List.not_mem_nil,or_false] at hx
  rcases hx with rfl|rfl<;>exact A8) D7
 unfold c31
 unfold stN stC
 (refine wx_Sxc ?_;repeat' (first|with_reducible refine And.intro ?_ ?_|intro hsp))
 all_goals first|(exfalso;omega)|exact K8 (by first|exact congrArg AV.bool (decide_eq_decide.2 (by unfold Sw.nums;omega))|exact congrArg AV.bool (decide_eq_true (show q.nums a now by unfold Sw.nums;omega)).symm|exact congrArg AV.bool (decide_eq_false (show ¬ q.nums a now by unfold Sw.nums;omega)).symm) D7 rfl rfl rfl rfl rfl
theorem w_get {f:Nat} (hf:f < 1024) (hk:q.s.K f=2):J9 66 [.int .i64 (f:Nat)] q t (.agg (bcA (q.s.B f))) q t:=by
 refine J9.mk (J6 F6 b66 rfl ?_) (fun x hx=>by obtain rfl:=List.mem_singleton.1 hx;exact A8) j6
 unfold c66
 unfold stN stC
 rw [← rdK_0 (f:=q.s.B f)]
 (refine wx_Sxc ?_;repeat' (first|with_reducible refine And.intro ?_ ?_|intro hsp))
 (refine V4 [0,1,4] (fun (k:Nat)=>[(6,.int .i64 (k:Nat))]) (fun (k:Nat)=>⟨stN q t 0 1 2 3 4++[(5,.cells (memA 64 (rdK (q.s.B f) k)))],6⟩) (fun (k:Nat)=>k≤64) (fun (k:Nat)=>64 - k) (0) [] rfl (fun _=>by first|exact Nat.zero_le _|(dsimp only;omega)) ?_ (by ((try (conv=>whnf));exact AA8)) ?_)
 ·exact Nat.zero_le _
 intro k hkk
 by_cases hkl:k < 64
 ·have c1:=p_read (s:=q.s) (a:=(f:Int) * 64+(k:Nat))
  rw [read_at hk hf hkl] at c1
  dsimp only at c1
  have hset:=rdK_s (f:=q.s.B f) hkl
  unfold stN stC
  generalize q.s.B f k=y at *
  (refine wx_Sxc ?_;repeat' (first|with_reducible refine And.intro ?_ ?_|intro hsp))
  all_goals exact J8 (k+1) [] (by (try dsimp only);omega) (by first|omega|(dsimp only;omega)) rfl (by exact AA8)
 ·obtain rfl:k=64:=by omega
  rw [rdK_all]
  unfold stN stC
  (refine wx_Sxc ?_;repeat' (first|with_reducible refine And.intro ?_ ?_|intro hsp))
  all_goals exact K8 rfl j6 rfl rfl rfl rfl rfl
theorem w_set (hg:GoodS q.s) {f:Nat} (hf:f < 1024) (hk:q.s.K f=2) (x:Nat→Int):J9 54 [.int .i64 (f:Nat),.agg (bcA x)] q t (.tup []) { q with s:=q.s.page f x } t:=by
 refine J9.mk (J6 F6 b54 rfl ?_) (fun y hy=>by
  simp only [List.mem_cons,List.not_mem_nil,or_false] at hy
  rcases hy with rfl|rfl
  ·exact A8
  ·exact j6) O7
 unfold c54
 unfold stN stC
 (refine wx_Sxc ?_;repeat' (first|with_reducible refine And.intro ?_ ?_|intro hsp))
 have hw0:=wrK_0 (s:=q.s) (f:=f) (x:=x)
 (refine V4 [0,1,8] (fun (k:Nat)=>[(9,.int .i64 (k:Nat))]) (fun (k:Nat)=>⟨stN { q with s:=wrK q.s f x k } t 0 1 2 3 4,5⟩) (fun (k:Nat)=>k≤64) (fun (k:Nat)=>64 - k) (0) [] rfl (fun _=>by first|exact Nat.zero_le _|(dsimp only;omega)) ?_ (by ((try (conv=>whnf));(rw [hw0]);exact AA8)) ?_)
 ·exact Nat.zero_le _
 intro k hkk
 by_cases hkl:k < 64
 ·have hws:=BO6 (s:=wrK q.s f x k) (a:=(f:Int) * 64+(k:Nat)) (b:=x k)
  rw [wrK_s hk hf hkl] at hws
  dsimp only at hws
  have hxk:(bcA x)[k]? = some (.int .u8 (x k)):=V3 hkl
  unfold stN stC
  dsimp only
  (refine wx_Sxc ?_;repeat' (first|with_reducible refine And.intro ?_ ?_|intro hsp))
  all_goals exact J8 (k+1) [] (by (try dsimp only);omega) (by first|omega|(dsimp only;omega)) rfl (by exact AA8)
 ·obtain rfl:k=64:=by omega
  rw [wrK_all hg]
  unfold stN stC
  dsimp only
  (refine wx_Sxc ?_;repeat' (first|with_reducible refine And.intro ?_ ?_|intro hsp))
  all_goals exact K8 (q:={ q with s:=q.s.page f x }) rfl O7 rfl rfl rfl rfl rfl
end
end Go.Proofs.Ytbhgfoikbkaohaa.Sh
namespace Go.Pol
open Go.Am Go.Proofs.Ytbhgfoikbkaohaa.Sh
def opA (o:Option Nat):Int:=match o with|some f=>(f:Nat)|none=>-1
theorem Av4 {a n i:Nat} {p:Nat→Bool} (hi:i < n) (h1:∀ j,j < i→p (a+j)=false) (h2:p (a+i)=true):(List.range' a n).find? p=some (a+i):=by
 rw [BN5 (Nat.le_of_lt hi),List.find?_append,List.find?_eq_none.2 fun f hf=>by
  obtain ⟨k,hk,rfl⟩:=List.mem_range'.1 hf
  rw [Nat.one_mul,h1 k hk];exact Bool.false_ne_true]
 obtain ⟨m,hm⟩:∃ m,n - i=m+1:=⟨n - i - 1,by omega⟩
 rw [hm,List.range'_succ,List.find?_cons,h2]
 rfl
theorem BB4 {a n:Nat} {p:Nat→Bool} (h:∀ j,j < n→p (a+j)=false):(List.range' a n).find? p=none:=List.find?_eq_none.2 fun f hf=>by
 obtain ⟨k,hk,rfl⟩:=List.mem_range'.1 hf
 rw [Nat.one_mul,h k hk];exact Bool.false_ne_true
theorem held_H {w:Sw} {t:WS} (h:WOk w t) (hg:E9 w) {f:Nat}:(mgI t.H (f:Nat)).isSome=decide (w.heldF f):=by
 by_cases hh:w.heldF f
 ·obtain ⟨p,hp,hF⟩:=hh
  rw [(h.gH (f:Nat) (p:Nat)).2 ⟨by omega,by omega,by rw [Int.toNat_natCast];exact hF⟩,decide_eq_true (show w.heldF f from ⟨p,hp,hF⟩)];rfl
 ·rw [decide_eq_false hh]
  cases hm:mgI t.H (f:Nat) with
  | none=>rfl
  | some p =>
   obtain ⟨h1,h2,h3⟩:=(h.gH (f:Nat) p).1 hm
   exact absurd ⟨p.toNat,AE7 hg (by omega),h3⟩ hh
theorem held_D {w:Sw} {t:WS} (h:WOk w t) {k:Nat}:(mgI t.D (k:Nat)).isSome=decide (w.heldT k):=by
 rw [h.gD]
 by_cases hh:w.heldT k
 ·rw [decide_eq_true hh,if_pos ⟨by omega,by rw [Int.toNat_natCast];exact hh⟩];rfl
 ·rw [decide_eq_false hh,if_neg fun h2=>hh (by rw [Int.toNat_natCast] at h2;exact h2.2)];rfl
end Go.Pol
namespace Go.Proofs.Ytbhgfoikbkaohaa.Sh
open Go Go.Am Go.Pol
open Go.Proofs.Ytbhgfoikbkaohaa.Sh renaming plx_Sxc → plx
open Go.Proofs.Ytbhgfoikbkaohaa.Sh renaming ppx_Sxc → ppx
theorem wx_Sxd {p q:Prop} (hq:q) (h:Y7 q→p:=by (intro hQz;((repeat' ((try (conv=>whnf));first|refine sxA ?_|refine AI9 hp rfl ?_|refine AO5 hp rfl ?_|refine ⟨AA5,?_⟩|refine AE3 (by simp only [List.length_replicate,AA5];omega) hov ?_|refine BP1 hp BH9 rfl ?_|refine sxF ?_|(refine R4 F6 b52 rfl ?_;unfold c52)|(refine R4 F6 b51 rfl ?_;unfold c51)|(refine R4 F6 b65 rfl ?_;unfold c65)|refine sxH ?_|((with_reducible first|apply V7 hQz|apply V8 hQz)<;>(try intro hsp hQz))|exact hQz.out))<;>(try (conv=>whnf))))):p:=h ⟨hq⟩
section
variable {q:Sw} {t:WS}
structure LocL (q:Sw) (t:WS):Prop where
 out:AW4 Try.prog G0 51 [.int .i64 (q.a:Nat),.int .i64 ((q.a:Int)+(q.n:Nat)),.fn 52 [] [.ptr 5 0]] (stN q t 0 1 2 3 4++[(5,.cells [.ptr 0 0])]) 6 fun x h1=>x = .int .i64 (opA q.free)∧h1=⟨stN q t 0 1 2 3 4++[(5,.cells [.ptr 0 0])],6⟩
theorem end_L {top:Bool} {h:Hp} {N0:Nat} {x r:AV} (hx:x=r) (hp:Plain r) (g0:lk h.l 0=some (.cells (stC 4 1 2 3 q))) (g1:lk h.l 1=some (.maps (encW pgE t.W))) (g2:lk h.l 2=some (.maps (encW byE t.D))) (g3:lk h.l 3=some (.maps (encW nuE t.H))) (g4:lk h.l 4=some (.cells q.s.a)) (g5:lk h.l 5=some (.cells [.ptr 0 0])) (hN0:N0≤6:=by decide) :
  AW5 top Try.prog N0 h x (fun r' h'=>r'=r∧h'=⟨stN q t 0 1 2 3 4++[(5,.cells [.ptr 0 0])],6⟩):=by
 subst hx
 have hs:AM9 (rn []) h ⟨stN q t 0 1 2 3 4++[(5,.cells [.ptr 0 0])],6⟩:=fun i o hi=>by
  simp only [stN,List.cons_append,List.nil_append,lk] at hi
  show ∃ o',lk h.l i=some o'
  split at hi
  ·rename_i e;subst e;exact ⟨_,g0⟩
  ·split at hi
   ·rename_i e;subst e;exact ⟨_,g1⟩
   ·split at hi
    ·rename_i e;subst e;exact ⟨_,g2⟩
    ·split at hi
     ·rename_i e;subst e;exact ⟨_,g3⟩
     ·split at hi
      ·rename_i e;subst e;exact ⟨_,g4⟩
      ·split at hi
       ·rename_i e;subst e;exact ⟨_,g5⟩
       ·cases hi
 refine AH4 [] rfl hN0 (Q8 rfl) (U1 hs hp) ?_ ⟨rfl,rfl⟩
 exact BI3 (o':=0) (w':=1) (d':=2) (m':=3) (s':=4) hs rfl rfl rfl rfl rfl ⟨show 0 < 6 by decide,show 1 < 6 by decide,show 2 < 6 by decide,show 3 < 6 by decide,show 4 < 6 by decide⟩ g0 g1 g2 g3 g4 (U5 (show 5 < 6 by decide) g5 (D5 (AC1 (i:=0) rfl (show 0 < 6 by decide)) N9) M7)
theorem w_free (hg:E9 q) (h:WOk q t):LocL q t:=by
 have hrng:=hg.rng
 refine LocL.mk (J6 F6 b51 rfl ?_)
 unfold c51
 unfold stN stC
 (refine wx_Sxd ?_;repeat' (first|with_reducible refine And.intro ?_ ?_|intro hsp))
 (refine V4 [0,1,2] (fun (i:Nat)=>[(7,.int .i64 ((q.a+i:Nat):Int))]) (fun (i:Nat)=>⟨stN q t 0 1 2 3 4++[(5,.cells [.ptr 0 0])],6⟩) (fun (i:Nat)=>i≤q.n∧∀ j,j < i→q.heldF (q.a+j)) (fun (i:Nat)=>q.n - i) (0) [] rfl (fun _=>by first|exact Nat.zero_le _|(dsimp only;omega)) ?_ (by ((try (conv=>whnf));exact AA8)) ?_)
 ·exact ⟨Nat.zero_le _,fun j hj=>absurd hj (Nat.not_lt_zero _)⟩
 intro i hi
 obtain ⟨hi,hall⟩:=hi
 by_cases hil:i < q.n
 ·have hhd:=held_H h hg (f:=q.a+i)
  by_cases hh:q.heldF (q.a+i)
  ·have hnext:i+1≤q.n∧∀ j,j < i+1→q.heldF (q.a+j):=⟨hil,fun j hj=>by
    by_cases e:j=i
    ·rw [e];exact hh
    ·exact hall j (by omega)⟩
   rw [decide_eq_true hh] at hhd
   obtain ⟨p,hp⟩:=Option.isSome_iff_exists.1 hhd
   have ea:((q.a+i:Nat):Int)=(q.a:Int)+(i:Nat):=by omega
   unfold stN stC
   (refine wx_Sxd ?_;repeat' (first|with_reducible refine And.intro ?_ ?_|intro hsp))
   all_goals first|(exfalso;omega)|exact J8 (i+1) [] hnext (by first|omega|(dsimp only;omega)) rfl (by exact AA8)
  ·have hfr:q.free=some (q.a+i):=Av4 hil (fun j hj=>by rw [decide_eq_false_iff_not];exact fun h2=>h2 (hall j hj)) (decide_eq_true hh)
   rw [decide_eq_false hh] at hhd
   have hp:mgI t.H ((q.a+i:Nat):Int)=none:=Option.not_isSome_iff_eq_none.1 (by rw [hhd];exact Bool.false_ne_true)
   rw [hfr]
   unfold stN stC
   (refine wx_Sxd ?_;repeat' (first|with_reducible refine And.intro ?_ ?_|intro hsp))
   all_goals first|(exfalso;omega)|exact end_L rfl A8 rfl rfl rfl rfl rfl rfl
 ·obtain rfl:i=q.n:=by omega
  have hfr:q.free=none:=BB4 fun j hj=>by rw [decide_eq_false_iff_not];exact fun h2=>h2 (hall j hj)
  rw [hfr]
  unfold stN stC
  (refine wx_Sxd ?_;repeat' (first|with_reducible refine And.intro ?_ ?_|intro hsp))
  all_goals first|(exfalso;omega)|exact end_L rfl A8 rfl rfl rfl rfl rfl rfl
set_option maxRecDepth 20000 in
theorem w_slot (h:WOk q t) (hsl6:q.sl≤256) (g:Int):J9 48 [.int .i64 g] q t (.int .i64 (opA (q.slot g))) q t:=by
 refine J9.mk (J6 F6 b48 rfl ?_) (fun x hx=>by obtain rfl:=List.mem_singleton.1 hx;exact A8) A8
 unfold c48
 unfold stN stC
 (refine wx_Sxd ?_;repeat' (first|with_reducible refine And.intro ?_ ?_|intro hsp))
 (refine V4 [0,1,2] (fun (i:Nat)=>[(7,.int .i64 (i:Nat))]) (fun (i:Nat)=>⟨stN q t 0 1 2 3 4++[(5,.cells [.ptr 0 0]),(6,.cells [.int .i64 g])],7⟩) (fun (i:Nat)=>i≤q.sl∧∀ j,j < i→¬ (((j:Nat):Int)=g∨¬ q.heldT j)) (fun (i:Nat)=>q.sl - i) (0) [] rfl (fun _=>by first|exact Nat.zero_le _|(dsimp only;omega)) ?_ (by ((try (conv=>whnf));exact AA8)) ?_)
 ·exact ⟨Nat.zero_le _,fun j hj=>absurd hj (Nat.not_lt_zero _)⟩
 intro i hi
 obtain ⟨hi,hall⟩:=hi
 by_cases hil:i < q.sl
 ·have hhd:=held_D h (k:=i)
  by_cases hh:q.heldT i
  ·rw [decide_eq_true hh] at hhd
   obtain ⟨b,hp⟩:=Option.isSome_iff_exists.1 hhd
   have hov:=AM0 (x:=b)
   by_cases hg:((i:Nat):Int)=g
   ·have hsl:q.slot g=some i:=by
     have:=Av4 (a:=0) (n:=q.sl) (p:=fun k=>decide (((k:Nat):Int)=g∨¬ q.heldT k)) hil (fun j hj=>by rw [Nat.zero_add,decide_eq_false_iff_not];exact hall j hj) (by rw [Nat.zero_add];exact decide_eq_true (.inl hg))
     rw [Nat.zero_add] at this
     unfold Sw.slot
     rw [List.range_eq_range'];exact this
    rw [hsl]
    unfold stN stC
    (refine wx_Sxd ?_;repeat' (first|with_reducible refine And.intro ?_ ?_|intro hsp))
    all_goals first|(exfalso;omega)|exact K8 rfl A8 rfl rfl rfl rfl rfl
   ·have hnext:i+1≤q.sl∧∀ j,j < i+1→¬ (((j:Nat):Int)=g∨¬ q.heldT j):=⟨hil,fun j hj=>by
     by_cases e:j=i
     ·rw [e];exact fun h2=>h2.elim hg fun h3=>h3 hh
     ·exact hall j (by omega)⟩
    unfold stN stC
    (refine wx_Sxd ?_;repeat' (first|with_reducible refine And.intro ?_ ?_|intro hsp))
    all_goals first|(exfalso;omega)|exact J8 (i+1) [] hnext (by first|omega|(dsimp only;omega)) rfl (by exact AA8)
  ·have hsl:q.slot g=some i:=by
    have:=Av4 (a:=0) (n:=q.sl) (p:=fun k=>decide (((k:Nat):Int)=g∨¬ q.heldT k)) hil (fun j hj=>by rw [Nat.zero_add,decide_eq_false_iff_not];exact hall j hj) (by rw [Nat.zero_add];exact decide_eq_true (.inr hh))
    rw [Nat.zero_add] at this
    unfold Sw.slot
    rw [List.range_eq_range'];exact this
   rw [decide_eq_false hh] at hhd
   have hp:mgI t.D (i:Nat)=none:=Option.not_isSome_iff_eq_none.1 (by rw [hhd];exact Bool.false_ne_true)
   have hov:=AM0 (x:=fun _=>0)
   rw [hsl]
   unfold stN stC
   (refine wx_Sxd ?_;repeat' (first|with_reducible refine And.intro ?_ ?_|intro hsp))
   all_goals first|(exfalso;omega)|exact K8 rfl A8 rfl rfl rfl rfl rfl
 ·obtain rfl:i=q.sl:=by omega
  have hsl:q.slot g=none:=by
   have:=BB4 (a:=0) (n:=q.sl) (p:=fun k=>decide (((k:Nat):Int)=g∨¬ q.heldT k)) fun j hj=>by rw [Nat.zero_add,decide_eq_false_iff_not];exact hall j hj
   unfold Sw.slot
   rw [List.range_eq_range'];exact this
  rw [hsl]
  unfold stN stC
  (refine wx_Sxd ?_;repeat' (first|with_reducible refine And.intro ?_ ?_|intro hsp))
  all_goals first|(exfalso;omega)|exact K8 rfl A8 rfl rfl rfl rfl rfl
end
end Go.Proofs.Ytbhgfoikbkaohaa.Sh
namespace Go.Am
open Go.Sort
section
variable {P:Program} {G:Gl}
theorem ext_more {c:Cx} {w':World} (hR:Rel P c) (hs:c.w.heap.size≤w'.heap.size) (ho:∀ b,b < c.w.heap.size→w'.heap[b]? = c.w.heap[b]?) (he:w'.os=c.w.os∧w'.tape=c.w.tape∧w'.output=c.w.output):Ext c (c.wd w')∧Rel P (c.wd w'):=by
 have k:Kept c w'.heap.size w':=⟨hs,fun b hb _=>ho b hb,fun h=>by omega,fun id o hi h=>by have:=(hR.obj id o hi).lt;omega,he⟩
 have e:=k.extR hR
 refine ⟨⟨e.used,e.mu,e.csz,fun b hb=>e.froz b (by have:=hb.lt;omega) hb,e.size,e.hid,fun b hb=>e.hidh b (by have:=hR.hidlt b hb;omega) hb,e.env⟩,k.rel hR⟩
theorem loc_sort {f n:Nat} {zs S:List Int} (hok:BW2 P f=true) (hn:zs.length=n) (hS:zs.mergeSort (fun x y=>decide (x≤y))=S) (hz:n < 4611686018427387904)
  (hc:∀ (blk off cap:Nat) (w:World),Holds (Value.int .i64) w blk off zs.toArray→blk < w.heap.size→Calls P f #[.slice (some ⟨blk,off,none⟩) zs.length cap] w fun e w'=>e = .returned (.tuple #[])∧∃ n os,w'=grow (putRow (Value.int .i64) (Sort.ahead w n) blk off (zs.mergeSort fun x y=>decide (x≤y)).toArray) os) :
  AW4 P G f [.sl 0 0 n n 1] [(0,.cells (zs.map (AV.int .i64)))] 1 fun x h=>x = .tup []∧h=⟨[(0,.cells (S.map (AV.int .i64)))],1⟩:=by
 refine ⟨hok,fun c vs hR hG hm ha=>?_⟩
 obtain ⟨v,hv⟩:∃ v,vs = #[v]:=by
  have:=ha.1
  match vs,this with
  | ⟨[v]⟩,_=>exact ⟨v,rfl⟩
 subst hv
 obtain ⟨u,hu,hx⟩:=ha.2 0 _ rfl
 have hu':u=v:=by simpa using hu.symm
 subst hu'
 obtain ⟨hU,hlt,cap,hval,h1,h2,h3,h4⟩:=AC0.1 hx
 have hat:c.at_ 0=some (.cells (zs.map (AV.int .i64))):=by rw [hm.at_];simp [lk]
 obtain ⟨a,T,hb,hcs⟩:=hR.obj 0 _ hat
 obtain ⟨blk,hblk⟩:∃ blk,blk=(c.mu 0).1:=⟨_,rfl⟩
 obtain ⟨off,hoff⟩:∃ off,off=(c.mu 0).2:=⟨_,rfl⟩
 rw [Nat.add_zero] at hval
 rw [← hblk] at hb hlt hval
 rw [← hoff] at hcs hval
 have hcell:∀ j z,zs[j]? = some z→a[off+j]? = some (.int .i64 z):=fun j z hj=>by
  obtain ⟨u,h5,h6,_⟩:=hcs j (.int .i64 z) (by rw [List.getElem?_map,hj];rfl)
  rw [RR_int.1 h6] at h5;exact h5
 have hH:Holds (Value.int .i64) c.w blk off zs.toArray:=fun j hj=>by
  have hj':j < zs.length:=by simpa using hj
  have h5:=hcell j zs[j] (List.getElem?_eq_getElem hj')
  refine ⟨?_,by simp [World.frozen?,hb]⟩
  simp only [World.cell?,hb,Option.isSome_none,Bool.false_eq_true,if_false,h5]
  simp [hj']
 rw [hval,← hn]
 refine (hc blk off cap c.w hH hlt).mono ?_
 rintro e w' ⟨rfl,m,os,rfl⟩
 rw [hS]
 have hSl:S.length=zs.length:=by rw [← hS];exact List.length_mergeSort _
 obtain ⟨w1,hw1⟩:∃ w1,w1=putRow (Value.int .i64) (Sort.ahead c.w m) blk off S.toArray:=⟨_,rfl⟩
 rw [← hw1]
 have hb1:w1.heap[blk]? = some (.cells (putCells (Value.int .i64) off S.toArray a) T (0,0)):=by
  rw [hw1]
  show (c.w.heap.modify blk _)[blk]? = _
  rw [Array.getElem?_modify,if_pos rfl,hb];rfl
 have ho1:∀ b,b ≠ blk→w1.heap[b]? = c.w.heap[b]?:=fun b hne=>by
  rw [hw1]
  show (c.w.heap.modify blk _)[b]? = _
  rw [Array.getElem?_modify,if_neg (Ne.symm hne)]
 have hs1:w1.heap.size=c.w.heap.size:=by rw [hw1];simp [putRow,mapBlock,Sort.ahead]
 have hcs1:csize w1 (c.mu 0).1=csize c.w (c.mu 0).1:=by
  rw [← hblk]
  simp only [csize,hb,hb1]
  simp [putCells]
 have henv:w1.os=c.w.os∧w1.tape=c.w.tape∧w1.output=c.w.output:=by rw [hw1];exact ⟨rfl,rfl,rfl⟩
 have e1:=Av6 (o2:=.cells (S.map (AV.int .i64))) hR hat (fun b hne=>ho1 b (by rw [hblk];exact hne)) hcs1 hs1 henv
 have r1:=BM7 (o2:=.cells (S.map (AV.int .i64))) hR hat (fun b hne=>ho1 b (by rw [hblk];exact hne)) hcs1 hs1 henv ⟨_,T,by rw [← hblk];exact hb1,fun j x hj=>by
  rw [List.getElem?_map] at hj
  cases h5:S[j]? with
  | none=>rw [h5] at hj;cases hj
  | some z =>
   rw [h5] at hj;cases hj
   have hjl:=(List.getElem?_eq_some_iff.1 h5).1
   have h6:=hcell j (zs[j]'(by omega)) (List.getElem?_eq_getElem _)
   have hal:off+j < a.size:=(Array.getElem?_eq_some_iff.1 h6).1
   refine ⟨.int .i64 z,?_,RR_int.2 rfl,fun _ e=>(by cases e),fun _ e=>(by cases e)⟩
   rw [← hoff]
   show (putCells (Value.int .i64) off S.toArray a)[off+j]? = _
   unfold putCells
   rw [Array.getElem?_mapIdx,Array.getElem?_eq_getElem hal,Option.map_some,if_pos ⟨by omega,by simp;omega⟩]
   have h7:S.toArray[off+j - off]! = z:=by
    rw [Nat.add_sub_cancel_left,getElem!_pos _ _ (by simpa using hjl)]
    have:=(List.getElem?_eq_some_iff.1 h5).2
    simpa using this
   rw [h7]⟩
 obtain ⟨e2,r2⟩:=ext_more (w':=grow w1 os) r1 (by show w1.heap.size≤(w1.heap++os).size;simp) (fun b hb'=>by
  have hb2:b < w1.heap.size:=hb'
  show (w1.heap++os)[b]? = w1.heap[b]?
  rw [Array.getElem?_append,if_pos hb2]) ⟨rfl,rfl,rfl⟩
 refine ⟨_,rfl,.tup [],⟨[(0,.cells (S.map (AV.int .i64)))],1⟩,_,rfl,⟨rfl,rfl⟩,d9.2 ⟨#[],rfl,rfl,fun j x hx=>by simp at hx⟩,r2,⟨?_,hm.U⟩,e1.trans e2⟩
 funext j
 show upd c.at_ [(0,some (.cells (S.map (AV.int .i64))))] j=lk [(0,.cells (S.map (AV.int .i64)))] j
 rw [BD9,hm.at_]
 by_cases e:j=0
 ·subst e;simp [lk]
 ·simp [lk,e]
@[irreducible] def kyC (vis:List Int) (n:Nat):List AV:=vis.map (AV.int .i64)++List.replicate (n - vis.length) (.int .i64 0)
theorem kyC_len {vis:List Int} {n:Nat} (h:vis.length≤n):(kyC vis n).length=n:=by unfold kyC;simp;omega
theorem kyC_0 {n:Nat}:(List.replicate n [AV.int .i64 0]).flatten=kyC [] n:=by unfold kyC;rw [List.flatten_replicate_singleton];simp
theorem kyC_s {vis:List Int} {n:Nat} {k:Int} (h:vis.length < n):over (kyC vis n) (vis.length * 1) [.int .i64 k]=kyC (vis++[k]) n:=by
 unfold kyC
 show ((vis.map (AV.int .i64)++List.replicate (n - vis.length) (AV.int .i64 0)).set (vis.length * 1) (.int .i64 k))=_
 rw [Nat.mul_one,List.set_append_right _ _ (by simp),List.length_map,Nat.sub_self]
 obtain ⟨q,hq⟩:∃ q,n - vis.length=q+1:=⟨n - vis.length - 1,by omega⟩
 rw [hq,List.replicate_succ,List.set_cons_zero,List.map_append,List.append_assoc]
 congr 1
 rw [List.length_append]
 show _=[AV.int .i64 k]++_
 rw [show n - (vis.length + [k].length)=q by simp;omega]
 rfl
theorem kyC_s0 {vis:List Int} {n:Nat} {k:Int} (h:vis.length < n):over (kyC vis n) (0+vis.length * 1) [.int .i64 k]=kyC (vis++[k]) n:=by rw [Nat.zero_add];exact kyC_s h
theorem Av1 {vis:List Int} {n:Nat} (h:vis.length=n):kyC vis n=vis.map (AV.int .i64):=by unfold kyC;rw [h,Nat.sub_self];simp
theorem AG8 {vis:List Int} {n:Nat}:∀ x ∈ kyC vis n,Plain x:=fun x hx=>by
 unfold kyC at hx
 rcases List.mem_append.1 hx with h|h
 ·obtain ⟨_,_,rfl⟩:=List.mem_map.1 h;exact A8
 ·rw [(List.mem_replicate.1 h).2];exact A8
theorem BD3 {l:List (Nat × AObj)} {nx bytes d n:Nat} {vis:List Int} {k:Int} {x:AV} {rd:List Nat} {K:AV→Up→Prop} (hs:Ag4 (lk l) 1 x=some ([.int .i64 k],1,rd)) (hd:lk l d=some (.cells (kyC vis n))) (hl:vis.length < n) (hk:K (.sl d 0 (vis.length+1) n 1) [(d,some (.cells (kyC (vis++[k]) n)))]):AppSX l nx 1 bytes (.sl d 0 vis.length n 1) x K :=
 Ab2 (by rw [appV_in hs hd (by omega) (by rw [kyC_len (by omega)];omega),kyC_s0 hl]) hk
theorem Ah9 {α:Type} [DecidableEq α]:∀ {a b:List α},a.Nodup→(∀ x ∈ a,x ∈ b)→a.length≤b.length
 | [],_,_,_=>Nat.zero_le _
 | x::r,b,hn,h=>by
  have hn':=List.nodup_cons.1 hn
  have hx:=h x (List.mem_cons_self ..)
  have ih:=Ah9 (b:=b.erase x) hn'.2 fun y hy=>(List.mem_erase_of_ne (fun e:y=x=>hn'.1 (e▸hy))).2 (h y (List.mem_cons_of_mem _ hy))
  have hl:=List.length_erase_of_mem hx
  have hp:=List.length_pos_of_mem hx
  rw [List.length_cons];omega
structure LocSo (P:Program) (G:Gl) (f n:Nat) (zs S:List Int):Prop where
 out:AW4 P G f [.sl 0 0 n n 1] [(0,.cells (zs.map (AV.int .i64)))] 1 fun x h=>x = .tup []∧h=⟨[(0,.cells (S.map (AV.int .i64)))],1⟩
theorem Ae1 {l:List Int}:∀ x ∈ l.map (AV.int .i64),Plain x:=fun x hx=>by
 obtain ⟨_,_,rfl⟩:=List.mem_map.1 hx;exact A8
theorem cx_so {f n d nx:Nat} {zs S:List Int} {l:List (Nat × AObj)} {K:AV→Hp→Prop} (hG:AP5 G) (hc:LocSo P G f n zs S) (h0:lk l d=some (.cells (zs.map (AV.int .i64)))) (hlt:d < nx) (hk:AU2 [d] l fun l2=>K (.tup []) ⟨([(d,.cells (S.map (AV.int .i64)))]:List (Nat × AObj))++l2,nx⟩):AK8 P G (.fn f [] []) [.sl d 0 n n 1] ⟨l,nx⟩ K:=by
 have e0:enter [d] d 0:=rfl
 have k0:back [d] nx 0 d:=rfl
 refine Aa4 (r':=.tup []) (l1:=[(d,.cells (S.map (AV.int .i64)))]) [d] hc.out hG rfl (.cons e0 h0 (E5 Ae1) .nil) ?_ (by intro x hx;simp only [List.mem_cons,List.not_mem_nil,or_false] at hx;omega) (F7 (F8 fun x hx=>by cases hx)) (.cons k0 (E5 Ae1) .nil) hk
 simp only [List.nil_append,List.append_nil]
 exact ⟨rn_sl e0,trivial⟩
end
end Go.Am
namespace Go.Proofs.Ytbhgfoikbkaohaa.Sh
open Go Go.Am
def cKs0:ACode:=.reg [⟨some 7,.load false 1 (.t 1),none⟩,⟨some 8,.mlen (.t 7),none⟩,⟨some 9,.mks 1 8 [.int .i64 0] (.k (.int .i64 0)) (.t 8),none⟩,⟨some 3,.mv (.t 9),none⟩]
def cKs4:ACode:=.reg [⟨some 16,.mv (.t 3),none⟩,⟨some 17,.mv (.t 4),none⟩,⟨some 18,.bslice 1 1 [.int .i64 0] [(0,1,.t 17)],none⟩,⟨some 19,.append 1 8 (.t 16) (.t 18),none⟩,⟨some 3,.mv (.t 19),none⟩]
def cKsR (z:AV):ACode:=.seq (.reg [⟨some 22,.mv (.t 3),none⟩,⟨some 23,.len (.t 22),none⟩,⟨some 24,.mv (.k (.int .i64 0)),none⟩]) (.block 2 (.loop (.seq (.reg [⟨some 25,.bin .lss (.t 24) (.t 23),none⟩]) (.seq (.cond (.t 25) .skip (.exit 2)) (.seq (.block 3 (.seq (.reg [⟨some 26,.iaddrS 1 (.t 22) (.t 24),none⟩,⟨some 27,.load false 1 (.t 26),none⟩,⟨some 6,.mv (.t 27),none⟩])
 (.seq (.reg [⟨some 28,.mv (.t 0),none⟩,⟨some 29,.mv (.t 6),none⟩,⟨some 30,.load false 1 (.t 1),none⟩,⟨some 31,.mv (.t 6),none⟩,⟨some 32,.mlook false false [0] z (.t 30) (.t 31),none⟩,⟨some 33,.call (.t 28) [.t 29,.t 32],none⟩,⟨some 34,.un .not (.t 33),none⟩]) (.cond (.t 34) .ret .skip)))) (.reg [⟨some 35,.bin .add (.t 24) (.k (.int .i64 1)),none⟩,⟨some 24,.mv (.t 35),none⟩]))))))
def cKs1 (z:AV):ACode:=.seq (.reg [⟨some 20,.mv (.t 3),none⟩,⟨some 21,.call (.k (.fn 57 [] [])) [.t 20],none⟩]) (cKsR z)
theorem BU5:BodyS Try.prog 56 cKs0 1 10 11 12 13 14 15 4 cKs4 (cKs1 (.agg [.int .i64 0,.int .i64 0,.int .i64 0])) [] 36 :=
 ⟨by kernel_rfl,_,_,_,_,Try.func56,rfl,by kernel_rfl,⟨_,_,_,_,_,_,_,_,_,_,_,_,_,_,_,_,_,rfl,⟨rfl,rfl,rfl⟩,⟨rfl,rfl,rfl⟩,⟨rfl,rfl,rfl⟩,⟨rfl,rfl,rfl⟩,⟨rfl,rfl,rfl⟩,⟨rfl,rfl,rfl⟩,⟨rfl,rfl,rfl⟩,Try.underlying76,by kernel_rfl,by kernel_rfl⟩,by kernel_rfl,by kernel_rfl,rfl⟩
theorem bS_bytes:BodyS Try.prog 58 cKs0 1 10 11 12 13 14 15 4 cKs4 (cKs1 (.agg (List.replicate 64 (.int .u8 0)))) [] 36 :=
 ⟨by kernel_rfl,_,_,_,_,Try.func58,rfl,by kernel_rfl,⟨_,_,_,_,_,_,_,_,_,_,_,_,_,_,_,_,_,rfl,⟨rfl,rfl,rfl⟩,⟨rfl,rfl,rfl⟩,⟨rfl,rfl,rfl⟩,⟨rfl,rfl,rfl⟩,⟨rfl,rfl,rfl⟩,⟨rfl,rfl,rfl⟩,⟨rfl,rfl,rfl⟩,Try.underlying77,by kernel_rfl,by kernel_rfl⟩,by kernel_rfl,by kernel_rfl,rfl⟩
end Go.Proofs.Ytbhgfoikbkaohaa.Sh
namespace Go.Proofs.Ytbhgfoikbkaohaa.Sh
open Go Go.Am Go.Pol
def sort_ren:Go.Shelf.Ren:=⟨fun|189=>57|125=>68|257=>67|128=>84|129=>85|294=>75|295=>76|296=>77|297=>78|298=>79|299=>80|216=>81|300=>82|301=>83|328=>87|329=>88|330=>89|331=>90|332=>91|215=>92|343=>95|n=>n,fun|28=>55|3=>3|46=>157|0=>0|51=>170|53=>172|4=>4|183=>163|182=>162|131=>123|5=>5|9=>9|218=>175|222=>124|228=>182|229=>183|n=>n,fun|n=>n⟩
theorem BK4:Go.Proofs.Lays.n189 Try.prog sort_ren:={ mixed:=by kernel_rfl,f125:=Try.func68.trans (congrArg some (by kernel_rfl)),f128:=Try.func84.trans (congrArg some (by kernel_rfl)),f129:=Try.func85.trans (congrArg some (by kernel_rfl)),f189:=Try.func57.trans (congrArg some (by kernel_rfl)),f215:=Try.func92.trans (congrArg some (by kernel_rfl)),f216:=Try.func81.trans (congrArg some (by kernel_rfl)),f257:=Try.func67.trans (congrArg some (by kernel_rfl)),f294:=Try.func75.trans (congrArg some (by kernel_rfl)),f295:=Try.func76.trans (congrArg some (by kernel_rfl)),f296:=Try.func77.trans (congrArg some (by kernel_rfl)),f297:=Try.func78.trans (congrArg some (by kernel_rfl)),f298:=Try.func79.trans (congrArg some (by kernel_rfl)),f299:=Try.func80.trans (congrArg some (by kernel_rfl)),f300:=Try.func82.trans (congrArg some (by kernel_rfl)),f301:=Try.func83.trans (congrArg some (by kernel_rfl)),f328:=Try.func87.trans (congrArg some (by kernel_rfl)),f329:=Try.func88.trans (congrArg some (by kernel_rfl)),f330:=Try.func89.trans (congrArg some (by kernel_rfl)),f331:=Try.func90.trans (congrArg some (by kernel_rfl)),f332:=Try.func91.trans (congrArg some (by kernel_rfl)),f343:=Try.func95.trans (congrArg some (by kernel_rfl)),t0:=Try.underlying0,a0:=Try.isAgg0,z0:=Try.sizeOf0,v0:=Try.zeroValue0,t3:=Try.underlying3,a3:=Try.isAgg3,z3:=Try.sizeOf3,v3:=Try.zeroValue3,t4:=Try.underlying4,a4:=Try.isAgg4,z4:=Try.sizeOf4,v4:=Try.zeroValue4,t5:=Try.underlying5,a5:=Try.isAgg5,z5:=Try.sizeOf5,v5:=Try.zeroValue5,t9:=Try.underlying9,a9:=Try.isAgg9,z9:=Try.sizeOf9,v9:=Try.zeroValue9,t28:=Try.underlying55,a28:=Try.isAgg55,z28:=Try.sizeOf55,v28:=Try.zeroValue55,t46:=Try.underlying157,a46:=Try.isAgg157,z46:=Try.sizeOf157,v46:=Try.zeroValue157,t51:=Try.underlying170,a51:=Try.isAgg170,z51:=Try.sizeOf170,v51:=Try.zeroValue170,t53:=Try.underlying172,a53:=Try.isAgg172,z53:=Try.sizeOf172,v53:=Try.zeroValue172,t131:=Try.underlying123,a131:=Try.isAgg123,z131:=Try.sizeOf123,v131:=Try.zeroValue123,t182:=Try.underlying162,a182:=Try.isAgg162,z182:=Try.sizeOf162,v182:=Try.zeroValue162,t183:=Try.underlying163,a183:=Try.isAgg163,z183:=Try.sizeOf163,v183:=Try.zeroValue163,t218:=Try.underlying175,a218:=Try.isAgg175,z218:=Try.sizeOf175,v218:=Try.zeroValue175,t222:=Try.underlying124,a222:=Try.isAgg124,z222:=Try.sizeOf124,v222:=Try.zeroValue124,t228:=Try.underlying182,a228:=Try.isAgg182,z228:=Try.sizeOf182,v228:=Try.zeroValue182,t229:=Try.underlying183,a229:=Try.isAgg183,z229:=Try.sizeOf183,v229:=Try.zeroValue183 }
theorem so_ok {n:Nat} {zs S:List Int} (hn:zs.length=n) (hp:zs.Perm S) (hs:S.Pairwise (· < ·)) (hz:n≤1000):LocSo Try.prog G0 57 n zs S :=
 ⟨loc_sort (by kernel_rfl) hn (sort_is hp hs) (by omega) fun blk off cap w hH hb=>calls_of_every_depth fun D=>AnyS.slices_Sort_int_in BK4 D blk off cap zs w hH hb (by omega)⟩
end Go.Proofs.Ytbhgfoikbkaohaa.Sh
