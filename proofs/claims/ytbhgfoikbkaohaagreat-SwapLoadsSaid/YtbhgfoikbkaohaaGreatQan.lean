/-
 Systems and sums: what stores use. Plain.
 A store of pages in frames and slots,plain: what each call does.
 A store of pages in frames and slots,plain: a touch keeps a good one.
 A store of pages in frames and slots,plain: calls keep a good one.
 A store of pages in frames and slots,plain: what pages have.
 A store of pages in frames and slots,plain: reads,writes,pages put out or freed.
 A store of pages in frames and slots,plain: Out,Free;any call;bytes (SwapBytes,SwapKeeps).
 A store of pages in frames and slots,plain: with more frames no more pages are brought in (SwapFewer).
 A store of pages in frames and slots,plain: two stores (SwapFewer).
 A store of pages in frames and slots,plain: victims (SwapVictims);counts (SwapFits).
 A store of pages in frames and slots,plain: all pages are freed (SwapFits' end);a new store.
 A store of pages in frames and slots,plain: pages outside of it;a new one;slots that are held.
 A store: its memory,and contracts over it.
-/
import Derived.Test.YtbhgfoikbkaohaaGreatVmC
set_option linter.unusedSimpArgs false
set_option linter.unusedVariables false
namespace Go.Proofs.YtbhgfoikbkaohaaGreat.Sh
end Go.Proofs.YtbhgfoikbkaohaaGreat.Sh
namespace Go.Pol
open Go.Am Go.Proofs.YtbhgfoikbkaohaaGreat.Sh
def inR (m x:Int):Prop:=0≤x∧x < m
instance (m x:Int):Decidable (inR m x):=by unfold inR;infer_instance
def Sy.page (s:Sy) (f:Nat) (x:Nat→Int):Sy:={ s with B:=AA7 s.B f fun j=>if j < 64 then x j else 0 }
theorem good_page {s:Sy} {f:Nat} {x:Nat→Int} (h:GoodS s) (hk:s.K f=2):GoodS (s.page f x):=by
 refine ⟨h.hv,h.kind,h.huge,fun p hp=>?_,h.cK,fun p j hj=>?_⟩
 ·show AA7 s.B f _ p=_
  unfold AA7
  rw [if_neg fun e=>hp (by rw [e];exact hk)]
  exact h.zero p hp
 ·show AA7 s.B f _ p j=0
  unfold AA7
  split
  ·show (if j < 64 then x j else 0)=0;rw [if_neg (by omega)]
  ·exact h.cB p j hj
def Sy.turn (s:Sy) (f:Nat) (w:Int) (k:Nat):Sy:={ s.ref k with K:=fun p=>if p=f then w else s.K p,B:=fun p=>if p=f then fun _=>0 else s.B p }
theorem BP0 {s:Sy} {f:Nat} {v w:Int} {k:Nat} (hf:f < 1024) (hk:s.K f=v) (hm:s.M f=false):s.chg (f:Nat) 1 v w k=if isR s.l s.C k then (60,s.ref k) else (0,s.turn f w k):=by
 unfold Sy.chg
 have hok:okR s.K s.M ((f:Nat):Int).toNat (1:Int).toNat v:=fun i hi=>by
  have hi:i < 1:=hi
  rw [show ((f:Nat):Int).toNat+i=f by omega];exact ⟨hk,hm⟩
 have h1:(1:Int).toNat=1:=rfl
 have e1:AK7 s.K ((f:Nat):Int).toNat (1:Int).toNat w=fun p=>if p=f then w else s.K p:=funext fun p=>by
  show (if _ then w else s.K p)=_
  by_cases e:p=f
  ·rw [if_pos e,if_pos (by omega)]
  ·rw [if_neg e,if_neg (by omega)]
 have e2:Ag0 s.B ((f:Nat):Int).toNat (1:Int).toNat=fun p=>if p=f then fun _=>0 else s.B p:=funext fun p=>by
  show (if _ then (fun _=>0) else s.B p)=_
  by_cases e:p=f
  ·rw [if_pos e,if_pos (by omega)]
  ·rw [if_neg e,if_neg (by omega)]
 rw [if_neg (by omega),if_pos hok,e1,e2]
 rfl
theorem AY4 {s:Sy} {f p:Nat} {w:Int} {k:Nat}:(s.turn f w k).K p=if p=f then w else s.K p:=rfl
theorem turn_B {s:Sy} {f p:Nat} {w:Int} {k:Nat}:(s.turn f w k).B p=if p=f then fun _=>0 else s.B p:=rfl
theorem BF0 {s:Sy} {f:Nat} {v w:Int} {k:Nat} (h:GoodS s) (hf:f < 1024) (hw:0≤w∧w≤3) (hk:s.K f=v) (hm:s.M f=false):GoodS (s.turn f w k):=by
 refine ⟨Ay9 h.hv,fun p=>?_,fun p hp=>?_,fun p hp=>?_,fun p hp=>?_,fun p j hj=>?_⟩
 ·rw [AY4];split
  ·exact hw
  ·exact h.kind p
 ·rw [AY4]
  have hp':s.M p=true:=hp
  rw [if_neg fun e=>by rw [e,hm] at hp';cases hp']
  exact h.huge p hp'
 ·rw [turn_B]
  split
  ·rfl
  ·rename_i e
   rw [AY4,if_neg e] at hp
   exact h.zero p hp
 ·rw [AY4,if_neg (by omega)];exact h.cK p hp
 ·rw [turn_B];split
  ·rfl
  ·exact h.cB p j hj
theorem BV3 {α:Type} {l:List α} {p:α→Bool} (h:∀ f ∈ l,p f=false):(l.filter p).length=0:=by
 rw [List.length_eq_zero_iff,List.filter_eq_nil_iff]
 intro f hf;rw [h f hf];decide
theorem fil_two {α:Type} {p q r:α→Bool}:∀ {l:List α},(∀ f ∈ l,(r f=true ↔ (p f=true∨q f=true))∧¬ (p f=true∧q f=true))→(l.filter r).length=(l.filter p).length+(l.filter q).length
 | [],_=>rfl
 | f::l,h=>by
  have ih:=fil_two (l:=l) fun g hg=>h g (List.mem_cons_of_mem _ hg)
  obtain ⟨h1,h2⟩:=h f (List.mem_cons_self ..)
  rw [List.filter_cons,List.filter_cons,List.filter_cons]
  cases hp:p f<;>cases hq:q f<;>cases hr:r f<;>simp_all<;>omega
def sumN (f:Nat→Nat):Nat→Nat
 | 0 => 0
 | n+1=>sumN f n+f n
theorem sum_le {f g:Nat→Nat}:∀ {n:Nat},(∀ i,i < n→f i≤g i)→sumN f n≤sumN g n
 | 0,_=>Nat.le_refl _
 | n+1,h=>by
  have:=sum_le (f:=f) (g:=g) (n:=n) fun i hi=>h i (by omega)
  have:=h n (by omega)
  show sumN f n+f n≤sumN g n+g n
  omega
theorem sum_congr {f g:Nat→Nat} {n:Nat} (h:∀ i,i < n→f i=g i):sumN f n=sumN g n:=Nat.le_antisymm (sum_le fun i hi=>Nat.le_of_eq (h i hi)) (sum_le fun i hi=>Nat.le_of_eq (h i hi).symm)
theorem sum_fil {α:Type} {L:List α} {g:α→Nat}:∀ m,sumN (fun i=>(L.filter fun v=>decide (g v=i)).length) m=(L.filter fun v=>decide (g v < m)).length
 | 0=>by
  rw [BV3]
  ·rfl
  ·intro v _;simp
 | m+1=>by
  show sumN _ m+_=_
  rw [sum_fil m]
  exact (fil_two fun v _=>by simp only [decide_eq_true_eq];constructor<;>omega).symm
theorem sum_all {α:Type} {L:List α} {g:α→Nat} {m:Nat} (h:∀ v ∈ L,g v < m):sumN (fun i=>(L.filter fun v=>decide (g v=i)).length) m=L.length:=by
 rw [sum_fil,List.filter_eq_self.2 fun v hv=>by simpa using h v hv]
theorem BC9 {a:Nat} {p:Nat→Bool}:∀ n,((List.range' a n).filter p).length=sumN (fun i=>if p (a+i)=true then 1 else 0) n
 | 0=>rfl
 | n+1=>by
  rw [List.range'_concat,List.filter_append,List.length_append,BC9 n]
  show _=sumN _ n+_
  congr 1
  rw [Nat.one_mul]
  show (List.filter p [a+n]).length=if p (a+n)=true then 1 else 0
  by_cases e:p (a+n)=true
  ·rw [List.filter_cons_of_pos e,if_pos e];rfl
  ·rw [List.filter_cons_of_neg e,if_neg e];rfl
theorem new_chg {l:List Rl} {a n:Int} (he:((Sy.new l).chg a n 0 1 0).1=0):(∀ p,((Sy.new l).chg a n 0 1 0).2.K p=if a.toNat≤p∧p < a.toNat+n.toNat then 1 else 0)∧(∀ p,((Sy.new l).chg a n 0 1 0).2.M p=false)∧(∀ p j,((Sy.new l).chg a n 0 1 0).2.B p j=0)∧((Sy.new l).chg a n 0 1 0).2.l=l:=by
 unfold Sy.chg at he ⊢
 split at he
 ·exact absurd he (by decide:¬ (7:Int)=0)
 rename_i c1
 rw [if_neg c1]
 split at he
 ·rename_i c2
  rw [if_pos c2]
  split at he
  ·exact absurd he (by decide:¬ (60:Int)=0)
  ·rename_i c3
   rw [if_neg c3]
   refine ⟨fun p=>?_,fun p=>rfl,fun p j=>?_,rfl⟩
   ·show AK7 (Sy.new l).K _ _ 1 p=_
    unfold AK7;rfl
   ·show Ag0 (Sy.new l).B _ _ p j=0
    unfold Ag0;split<;>rfl
 ·exact absurd he (by decide:¬ (9:Int)=0)
def wrK (s:Sy) (f:Nat) (x:Nat→Int) (k:Nat):Sy:={ s with B:=AA7 s.B f fun j=>if j < k then x j else s.B f j }
theorem BI5 {s:Sy} {f:Nat} {x:Nat→Int}:wrK s f x 0=s:=by
 unfold wrK
 have : AA7 s.B f (fun j=>if j < 0 then x j else s.B f j)=s.B:=funext fun p=>by
  unfold AA7
  split
  ·rename_i e;subst e;exact funext fun j=>if_neg (by omega)
  ·rfl
 rw [this]
theorem wrK_K {s:Sy} {f:Nat} {x:Nat→Int} {k:Nat}:(wrK s f x k).K=s.K:=rfl
theorem BI4 {s:Sy} {f:Nat} {x:Nat→Int} {k:Nat} (hk:s.K f=2) (hf:f < 1024) (hj:k < 64):(wrK s f x k).write ((f:Int) * 64+(k:Nat)) (x k)=(0,wrK s f x (k+1)):=by
 unfold Sy.write
 have h1:((f:Int) * 64+(k:Nat)).toNat / 64=f:=by omega
 have h2:((f:Int) * 64+(k:Nat)).toNat % 64=k:=by omega
 rw [if_neg (by omega),h1,h2,wrK_K,if_pos hk]
 unfold wrK
 dsimp only
 have : AA7 (AA7 s.B f fun j=>if j < k then x j else s.B f j) f (F4 (AA7 s.B f (fun j=>if j < k then x j else s.B f j) f) k (x k))=AA7 s.B f fun j=>if j < k+1 then x j else s.B f j:=funext fun p=>by
  unfold AA7
  by_cases e:p=f
  ·rw [if_pos e,if_pos e,if_pos rfl]
   refine funext fun j=>?_
   unfold F4
   by_cases h3:j=k
   ·subst h3;rw [if_pos rfl,if_pos (by omega)]
   ·rw [if_neg h3]
    show (if j < k then x j else s.B f j)=if j < k+1 then x j else s.B f j
    by_cases h4:j < k
    ·rw [if_pos h4,if_pos (by omega)]
    ·rw [if_neg h4,if_neg (by omega)]
  ·rw [if_neg e,if_neg e,if_neg e]
 rw [this]
theorem AV4 {s:Sy} (hg:GoodS s) {f:Nat} {x:Nat→Int}:wrK s f x 64=s.page f x:=by
 unfold wrK Sy.page
 have : (fun j=>if j < 64 then x j else s.B f j)=fun j=>if j < 64 then x j else 0:=funext fun j=>by
  by_cases h:j < 64
  ·rw [if_pos h,if_pos h]
  ·rw [if_neg h,if_neg h,hg.cB f j (by omega)]
 rw [this]
theorem read_at {s:Sy} {f k:Nat} (hk:s.K f=2) (hf:f < 1024) (hj:k < 64):s.read ((f:Int) * 64+(k:Nat))=(s.B f k,0):=by
 unfold Sy.read
 rw [if_neg (by omega),show ((f:Int) * 64+(k:Nat)).toNat / 64=f by omega,show ((f:Int) * 64+(k:Nat)).toNat % 64=k by omega,if_pos hk]
theorem range_cut {a n i:Nat} (h:i≤n):List.range' a n=List.range' a i++List.range' (a+i) (n - i):=by
 rw [List.range'_append_1,Nat.add_sub_cancel' h]
def rdK (f:Nat→Int) (k:Nat):Nat→AV:=fun j=>.int .u8 (if j < k then f j else 0)
def bcA (f:Nat→Int):List AV:=memA 64 fun j=>.int .u8 (f j)
theorem rdK_0 {f:Nat→Int}:memA 64 (rdK f 0)=List.replicate 64 (.int .u8 0):=by
 refine List.ext_getElem? fun i=>?_
 by_cases h:i < 64
 ·rw [List.getElem?_replicate,if_pos h,M8 h];unfold rdK;rw [if_neg (by omega)]
 ·rw [List.getElem?_eq_none (by rw [U0];omega),List.getElem?_eq_none (by rw [List.length_replicate];omega)]
theorem rdK_s {f:Nat→Int} {k:Nat} (hk:k < 64):(memA 64 (rdK f k)).set k (.int .u8 (f k))=memA 64 (rdK f (k+1)):=by
 rw [AL4]
 refine AB2 fun j _=>?_
 unfold rdK
 split
 ·rename_i e;subst e;rw [if_pos (by omega)]
 ·rename_i e
  by_cases h:j < k
  ·rw [if_pos h,if_pos (by omega)]
  ·rw [if_neg h,if_neg (by omega)]
theorem rdK_all {f:Nat→Int}:memA 64 (rdK f 64)=bcA f:=AB2 fun j hj=>by unfold rdK;rw [if_pos hj]
theorem AC0 {f:Nat→Int} {k:Nat}:∀ x ∈ memA 64 (rdK f k),Plain x:=AM9 fun _ _=>A8
theorem AB0 {f:Nat→Int}:∀ x ∈ bcA f,Plain x:=AM9 fun _ _=>A8
theorem L8 {f:Nat→Int}:(bcA f).length=64:=U0 _ _
theorem BS6:∀ (a cs:List AV),over (a++cs) a.length cs=a++cs
 | a,[]=>rfl
 | a,v::vs=>by
  show over ((a++v::vs).set a.length v) (a.length+1) vs=a++v::vs
  have e:(a++v::vs).set a.length v=(a++[v])++vs:=by simp
  have h:=BS6 (a++[v]) vs
  rw [List.length_append] at h
  rw [e]
  exact h.trans (by simp)
theorem over_self (cs:List AV):over cs 0 cs=cs:=BS6 [] cs
theorem AG9 {f:Nat→Int}:(bcA f).take 64=bcA f:=List.take_of_length_le (by rw [L8];exact Nat.le_refl _)
end Go.Pol
namespace Go.Pol
open Go.Am Go.Proofs.YtbhgfoikbkaohaaGreat.Sh
structure Sw where
 a:Nat
 n:Nat
 pg:Nat
 sl:Nat
 F:Nat→Int
 T:Nat→Int
 Z:Nat→Int
 D:Nat→Nat→Int
 ins:Int
 outs:Int
 s:Sy
def Sw.heldF (w:Sw) (f:Nat):Prop:=∃ p,p < w.pg∧w.F p=(f:Nat)
def Sw.heldT (w:Sw) (k:Nat):Prop:=∃ p,p < w.pg∧w.T p=(k:Nat)
instance (w:Sw) (f:Nat):Decidable (w.heldF f):=decidable_of_iff (∃ p,p ∈ List.range w.pg∧w.F p=(f:Nat)) (by simp [Sw.heldF])
instance (w:Sw) (f:Nat):Decidable (w.heldT f):=decidable_of_iff (∃ p,p ∈ List.range w.pg∧w.T p=(f:Nat)) (by simp [Sw.heldT])
def Sw.free (w:Sw):Option Nat:=(List.range' w.a w.n).find? fun f=>decide (¬ w.heldF f)
def Sw.slot (w:Sw) (g:Int):Option Nat:=(List.range w.sl).find? fun k=>decide (((k:Nat):Int)=g∨¬ w.heldT k)
def Sw.vicN (w:Sw):Nat→Option Nat
 | 0=>none
 | m+1=>if 0≤w.F m then (match w.vicN m with
  | none=>some m
  | some b=>if w.Z m < w.Z b then some m else some b) else w.vicN m
def Sw.vic (w:Sw):Option Nat:=w.vicN w.pg
def AV1 (x:Int):Int:=if 1000000000≤x+1 then 1000000000 else x+1
def Sw.put (w:Sw) (v k:Nat):Sw:={ w with D:=AA7 w.D k (w.s.B (w.F v).toNat),T:=F4 w.T v (k:Nat),F:=F4 w.F v (-1),outs:=AV1 w.outs }
def Sw.brg (w:Sw) (p f:Nat) (now:Int) (x:Nat→Int):Sw:={ w with ins:=if 0≤w.T p then AV1 w.ins else w.ins,T:=F4 w.T p (-1),F:=F4 w.F p (f:Nat),Z:=F4 w.Z p now,s:=w.s.page f x }
def Sw.got (w:Sw) (p:Nat):Nat→Int:=if 0≤w.T p then w.D (w.T p).toNat else fun _=>0
def Sw.touch (w:Sw) (p:Nat) (now:Int):Int × Sw :=
 if 0≤w.F p then (0,{ w with Z:=F4 w.Z p now }) else
 match w.free with
 | some f=>if w.s.K f=1 then (if (w.s.chg (f:Nat) 1 1 2 2).1=0 then (0,Sw.brg { w with s:=(w.s.chg (f:Nat) 1 1 2 2).2 } p f now (w.got p)) else ((w.s.chg (f:Nat) 1 1 2 2).1,{ w with s:=(w.s.chg (f:Nat) 1 1 2 2).2 }))
  else (0,w.brg p f now (w.got p))
 | none=>match w.slot (w.T p),w.vic with
  | some k,some v=>(0,(w.put v k).brg p (w.F v).toNat now (w.got p))
  | _,_=>(5,w)
def Sw.nums (w:Sw) (t now:Int):Prop:=0≤t∧t < (w.pg:Nat) * 64∧0≤now∧now≤1000000000000
instance (w:Sw) (t now:Int):Decidable (w.nums t now):=by unfold Sw.nums;infer_instance
def Sw.is (w:Sw) (p:Nat):Prop:=0≤w.F p∨0≤w.T p
instance (w:Sw) (p:Nat):Decidable (w.is p):=by unfold Sw.is;infer_instance
def Sw.read (w:Sw) (t now:Int):Int × Int × Sw :=
 if ¬ w.nums t now then (0,7,w) else if ¬ w.is (t.toNat / 64) then (0,0,w) else
 if (w.touch (t.toNat / 64) now).1=0 then (((w.touch (t.toNat / 64) now).2.s.read ((w.touch (t.toNat / 64) now).2.F (t.toNat / 64) * 64+t % 64)).1,((w.touch (t.toNat / 64) now).2.s.read ((w.touch (t.toNat / 64) now).2.F (t.toNat / 64) * 64+t % 64)).2,(w.touch (t.toNat / 64) now).2)
 else (0,(w.touch (t.toNat / 64) now).1,(w.touch (t.toNat / 64) now).2)
def Sw.byte (w:Sw) (t v:Int):Int × Sw:=((w.s.write (w.F (t.toNat / 64) * 64+t % 64) v).1,{ w with s:=(w.s.write (w.F (t.toNat / 64) * 64+t % 64) v).2 })
def Sw.write (w:Sw) (t now v:Int):Int × Sw :=
 if ¬ w.nums t now then (7,w) else
 if (w.touch (t.toNat / 64) now).1=0 then (w.touch (t.toNat / 64) now).2.byte t v else w.touch (t.toNat / 64) now
def Sw.gone (w:Sw) (f:Int):Sw:={ w with s:=(w.s.chg f 1 2 1 3).2 }
def Sw.out (w:Sw) (p:Int):Int × Sw :=
 if ¬ (0≤p∧p < (w.pg:Nat)) then (7,w) else if w.F p.toNat < 0 then (4,w) else match w.slot (-1) with
 | none=>(5,w)
 | some k=>(0,(w.put p.toNat k).gone (w.F p.toNat))
def Sw.fre (w:Sw) (p:Int):Int × Sw :=
 if ¬ (0≤p∧p < (w.pg:Nat)) then (7,w) else if ¬ w.is p.toNat then (4,w) else
 (0,if 0≤w.F p.toNat then Sw.gone { w with F:=F4 w.F p.toNat (-1),T:=F4 w.T p.toNat (-1),Z:=F4 w.Z p.toNat 0 } (w.F p.toNat) else { w with F:=F4 w.F p.toNat (-1),T:=F4 w.T p.toNat (-1),Z:=F4 w.Z p.toNat 0 })
structure F5 (w:Sw):Prop where
 good:GoodS w.s
 rng:1≤w.n∧w.a+w.n≤1024∧1≤w.pg∧w.pg≤256∧w.sl≤256
 kind:∀ f,w.a≤f→f < w.a+w.n→(w.s.K f=1∨w.s.K f=2)∧w.s.M f=false
 far:∀ p,w.pg≤p→w.F p = -1∧w.T p = -1
 fr:∀ p,w.F p = -1∨(w.T p = -1∧∃ f:Nat,w.F p=(f:Nat)∧w.a≤f∧f < w.a+w.n∧w.s.K f=2)
 sl:∀ p,w.T p = -1∨(w.F p = -1∧∃ k:Nat,w.T p=(k:Nat)∧k < w.sl)
 oneF:∀ p q,0≤w.F p→w.F p=w.F q→p=q
 oneT:∀ p q,0≤w.T p→w.T p=w.T q→p=q
 st:∀ p,0≤w.Z p∧w.Z p≤1000000000000
 cnt:0≤w.ins∧w.ins≤1000000000∧0≤w.outs∧w.outs≤1000000000
end Go.Pol
namespace Go.Pol
open Go.Am Go.Proofs.YtbhgfoikbkaohaaGreat.Sh
section
variable {w:Sw}
theorem D9 {f:Nat→Int} {i:Nat} {v:Int}:F4 f i v i=v:=if_pos rfl
theorem upd_ne {f:Nat→Int} {i j:Nat} {v:Int} (h:j ≠ i):F4 f i v j=f j:=if_neg h
theorem AE6 {f:Nat} (h:w.free=some f):w.a≤f∧f < w.a+w.n∧¬ w.heldF f:=by
 have h1:=List.mem_of_find?_eq_some h
 have h2:=List.find?_some h
 rw [List.mem_range'_1] at h1
 exact ⟨h1.1,h1.2,by simpa using h2⟩
theorem freeW_none (h:w.free=none):∀ f,w.a≤f→f < w.a+w.n→w.heldF f:=fun f h1 h2=>by
 have:=List.find?_eq_none.1 h f (List.mem_range'_1.2 ⟨h1,h2⟩)
 simpa using this
theorem AE0 {g:Int} {k:Nat} (h:w.slot g=some k):k < w.sl∧(((k:Nat):Int)=g∨¬ w.heldT k):=by
 have h1:=List.mem_of_find?_eq_some h
 have h2:=List.find?_some h
 exact ⟨List.mem_range.1 h1,by simpa using h2⟩
theorem AN7:∀ m,(∀ v,w.vicN m=some v→v < m∧0≤w.F v∧∀ q,q < m→0≤w.F q→w.Z v < w.Z q∨(w.Z v=w.Z q∧v≤q))∧(w.vicN m=none→∀ q,q < m→w.F q < 0)
 | 0=>⟨fun v h=>(by cases h),fun _ q hq=>(by omega)⟩
 | m+1=>by
  obtain ⟨i1,i2⟩:=AN7 m
  unfold Sw.vicN
  by_cases h0:0≤w.F m
  ·rw [if_pos h0]
   cases hv:w.vicN m with
   | none =>
    refine ⟨fun v h=>?_,fun h=>by cases h⟩
    cases h
    refine ⟨by omega,h0,fun q hq hF=>?_⟩
    by_cases e:q=m
    ·subst e;exact .inr ⟨rfl,Nat.le_refl _⟩
    ·have:=i2 hv q (by omega);omega
   | some b =>
    obtain ⟨j1,j2,j3⟩:=i1 b hv
    dsimp only
    by_cases hlt:w.Z m < w.Z b
    ·rw [if_pos hlt]
     refine ⟨fun v h=>?_,fun h=>by cases h⟩
     cases h
     refine ⟨by omega,h0,fun q hq hF=>?_⟩
     by_cases e:q=m
     ·subst e;exact .inr ⟨rfl,Nat.le_refl _⟩
     ·have:=j3 q (by omega) hF;omega
    ·rw [if_neg hlt]
     refine ⟨fun v h=>?_,fun h=>by cases h⟩
     cases h
     refine ⟨by omega,j2,fun q hq hF=>?_⟩
     by_cases e:q=m
     ·subst e;omega
     ·exact j3 q (by omega) hF
  ·rw [if_neg h0]
   refine ⟨fun v h=>?_,fun h q hq=>?_⟩
   ·obtain ⟨j1,j2,j3⟩:=i1 v h
    refine ⟨by omega,j2,fun q hq hF=>j3 q ?_ hF⟩
    by_cases e:q=m
    ·subst e;exact absurd hF h0
    ·omega
   ·by_cases e:q=m
    ·subst e;omega
    ·exact i2 h q (by omega)
inductive SwT (w:Sw) (p:Nat) (now:Int):Int × Sw→Prop
 | here (h:0≤w.F p):SwT w p now (0,{ w with Z:=F4 w.Z p now })
 | no (f:Nat) (s':Sy) (e:Int) (hn:¬ 0≤w.F p) (hf:w.free=some f) (hk:w.s.K f=1) (hc:w.s.chg (f:Nat) 1 1 2 2=(e,s')) (he:e ≠ 0):SwT w p now (e,{ w with s:=s' })
 | new (f:Nat) (s':Sy) (hn:¬ 0≤w.F p) (hf:w.free=some f) (hs:(w.s.K f ≠ 1∧s'=w.s)∨(w.s.K f=1∧w.s.chg (f:Nat) 1 1 2 2=(0,s'))):SwT w p now (0,Sw.brg { w with s:=s' } p f now (w.got p))
 | full (hn:¬ 0≤w.F p) (hf:w.free=none) (hs:w.slot (w.T p)=none∨w.vic=none):SwT w p now (5,w)
 | swp (k v:Nat) (hn:¬ 0≤w.F p) (hf:w.free=none) (hk:w.slot (w.T p)=some k) (hv:w.vic=some v):SwT w p now (0,(w.put v k).brg p (w.F v).toNat now (w.got p))
theorem Ar2 (p:Nat) (now:Int):SwT w p now (w.touch p now):=by
 unfold Sw.touch
 split
 ·rename_i h;exact .here h
 rename_i hn
 cases hf:w.free with
 | some f =>
  dsimp only
  split
  ·rename_i hk
   cases hc:w.s.chg (f:Nat) 1 1 2 2 with
   | mk e s' =>
    dsimp only
    split
    ·rename_i he;subst he;exact .new f s' hn hf (.inr ⟨hk,hc⟩)
    ·rename_i he;exact .no f s' e hn hf hk hc he
  ·rename_i hk;exact .new f w.s hn hf (.inl ⟨hk,rfl⟩)
 | none =>
  dsimp only
  cases hk:w.slot (w.T p) with
  | none=>exact .full hn hf (.inl hk)
  | some k =>
   cases hv:w.vic with
   | none=>exact .full hn hf (.inr hv)
   | some v=>exact .swp k v hn hf hk hv
theorem BP2 {x:Int} (h:0≤x∧x≤1000000000):0≤AV1 x∧AV1 x≤1000000000:=by unfold AV1;split<;>omega
theorem Ai8 (h:F5 w) {s':Sy} (hg:GoodS s') (hk:∀ f,w.a≤f→f < w.a+w.n→(s'.K f=1∨s'.K f=2)∧s'.M f=false) (hu:∀ f,w.heldF f→s'.K f=2):F5 { w with s:=s' }:=by
 refine ⟨hg,h.rng,hk,h.far,fun p=>?_,h.sl,h.oneF,h.oneT,h.st,h.cnt⟩
 rcases h.fr p with h1 | ⟨h1,f,h2,h3,h4,h5⟩
 ·exact .inl h1
 ·refine .inr ⟨h1,f,h2,h3,h4,hu f ⟨p,?_,h2⟩⟩
  by_cases hp:p < w.pg
  ·exact hp
  ·have:=(h.far p (by omega)).1;omega
theorem BV0 (h:F5 w) {p f:Nat} {now:Int} {x:Nat→Int} (hp:p < w.pg) (hn:¬ 0≤w.F p) (hf:w.a≤f∧f < w.a+w.n) (hh:¬ w.heldF f) (hk:w.s.K f=2) (hnow:0≤now∧now≤1000000000000):F5 (w.brg p f now x):=by
 have hno:∀ q,w.F q ≠ (f:Nat):=fun q hq=>hh ⟨q,by
  by_cases hp:q < w.pg
  ·exact hp
  ·have:=(h.far q (by omega)).1;omega,hq⟩
 refine ⟨good_page h.good hk,h.rng,h.kind,fun q hq=>?_,fun q=>?_,fun q=>?_,fun q r h1 h2=>?_,fun q r h1 h2=>?_,fun q=>?_,?_⟩
 ·have hq:w.pg≤q:=hq
  exact ⟨(upd_ne (by omega)).trans (h.far q hq).1,(upd_ne (by omega)).trans (h.far q hq).2⟩
 ·show F4 w.F p (f:Nat) q = -1∨(F4 w.T p (-1) q = -1∧∃ g:Nat,F4 w.F p (f:Nat) q=(g:Nat)∧w.a≤g∧g < w.a+w.n∧w.s.K g=2)
  by_cases e:q=p
  ·subst e;rw [D9,D9];exact .inr ⟨rfl,f,rfl,hf.1,hf.2,hk⟩
  ·rw [upd_ne e,upd_ne e];exact h.fr q
 ·show F4 w.T p (-1) q = -1∨(F4 w.F p (f:Nat) q = -1∧∃ k:Nat,F4 w.T p (-1) q=(k:Nat)∧k < w.sl)
  by_cases e:q=p
  ·subst e;rw [D9];exact .inl rfl
  ·rw [upd_ne e,upd_ne e];exact h.sl q
 ·have h1:0≤F4 w.F p (f:Nat) q:=h1
  have h2:F4 w.F p (f:Nat) q=F4 w.F p (f:Nat) r:=h2
  by_cases e:q=p
  ·by_cases e2:r=p
   ·rw [e,e2]
   ·rw [e,D9,upd_ne e2] at h2;exact absurd h2.symm (hno r)
  ·by_cases e2:r=p
   ·rw [upd_ne e,e2,D9] at h2;exact absurd h2 (hno q)
   ·rw [upd_ne e] at h1 h2;rw [upd_ne e2] at h2;exact h.oneF q r h1 h2
 ·have h1:0≤F4 w.T p (-1) q:=h1
  have h2:F4 w.T p (-1) q=F4 w.T p (-1) r:=h2
  by_cases e:q=p
  ·rw [e,D9] at h1;exact absurd h1 (by decide)
  ·by_cases e2:r=p
   ·rw [upd_ne e] at h1 h2;rw [e2,D9] at h2;omega
   ·rw [upd_ne e] at h1 h2;rw [upd_ne e2] at h2;exact h.oneT q r h1 h2
 ·show 0≤F4 w.Z p now q∧F4 w.Z p now q≤1000000000000
  by_cases e:q=p
  ·subst e;rw [D9];exact hnow
  ·rw [upd_ne e];exact h.st q
 ·obtain ⟨c1,c2,c3,c4⟩:=h.cnt
  have:=BP2 ⟨c1,c2⟩
  show 0≤(if 0≤w.T p then AV1 w.ins else w.ins)∧(if 0≤w.T p then AV1 w.ins else w.ins)≤1000000000∧0≤w.outs∧w.outs≤1000000000
  split<;>omega
theorem BF1 (h:F5 w) {v k:Nat} (hv:v < w.pg) (h0:0≤w.F v) (hk:k < w.sl) (hh:¬ w.heldT k):F5 (w.put v k):=by
 have hno:∀ q,w.T q ≠ (k:Nat):=fun q hq=>hh ⟨q,by
  by_cases hp:q < w.pg
  ·exact hp
  ·have:=(h.far q (by omega)).2;omega,hq⟩
 refine ⟨h.good,h.rng,h.kind,fun q hq=>?_,fun q=>?_,fun q=>?_,fun q r h1 h2=>?_,fun q r h1 h2=>?_,h.st,?_⟩
 ·have hq:w.pg≤q:=hq
  exact ⟨(upd_ne (by omega)).trans (h.far q hq).1,(upd_ne (by omega)).trans (h.far q hq).2⟩
 ·show F4 w.F v (-1) q = -1∨(F4 w.T v (k:Nat) q = -1∧∃ g:Nat,F4 w.F v (-1) q=(g:Nat)∧w.a≤g∧g < w.a+w.n∧w.s.K g=2)
  by_cases e:q=v
  ·subst e;rw [D9];exact .inl rfl
  ·rw [upd_ne e,upd_ne e];exact h.fr q
 ·show F4 w.T v (k:Nat) q = -1∨(F4 w.F v (-1) q = -1∧∃ g:Nat,F4 w.T v (k:Nat) q=(g:Nat)∧g < w.sl)
  by_cases e:q=v
  ·subst e;rw [D9,D9];exact .inr ⟨rfl,k,rfl,hk⟩
  ·rw [upd_ne e,upd_ne e];exact h.sl q
 ·have h1:0≤F4 w.F v (-1) q:=h1
  have h2:F4 w.F v (-1) q=F4 w.F v (-1) r:=h2
  by_cases e:q=v
  ·rw [e,D9] at h1;exact absurd h1 (by decide)
  ·by_cases e2:r=v
   ·rw [upd_ne e] at h1 h2;rw [e2,D9] at h2;omega
   ·rw [upd_ne e] at h1 h2;rw [upd_ne e2] at h2;exact h.oneF q r h1 h2
 ·have h1:0≤F4 w.T v (k:Nat) q:=h1
  have h2:F4 w.T v (k:Nat) q=F4 w.T v (k:Nat) r:=h2
  by_cases e:q=v
  ·by_cases e2:r=v
   ·rw [e,e2]
   ·rw [e,D9,upd_ne e2] at h2;exact absurd h2.symm (hno r)
  ·by_cases e2:r=v
   ·rw [upd_ne e,e2,D9] at h2;exact absurd h2 (hno q)
   ·rw [upd_ne e] at h1 h2;rw [upd_ne e2] at h2;exact h.oneT q r h1 h2
 ·obtain ⟨c1,c2,c3,c4⟩:=h.cnt
  have:=BP2 ⟨c3,c4⟩
  exact ⟨c1,c2,this.1,this.2⟩
end
end Go.Pol
namespace Go.Pol
open Go.Am Go.Proofs.YtbhgfoikbkaohaaGreat.Sh
section
variable {w:Sw}
theorem AL5 (h:F5 w) {p:Nat} (h0:0≤w.F p):p < w.pg:=by
 by_cases hp:p < w.pg
 ·exact hp
 ·have:=(h.far p (by omega)).1;omega
theorem AT7 (h:F5 w) {p:Nat} (h0:0≤w.T p):p < w.pg:=by
 by_cases hp:p < w.pg
 ·exact hp
 ·have:=(h.far p (by omega)).2;omega
def Sw.off (w:Sw) (p:Nat):Sw:={ w with T:=F4 w.T p (-1) }
theorem good_off (h:F5 w) {p:Nat} (hn:¬ 0≤w.F p):F5 (w.off p):=by
 refine ⟨h.good,h.rng,h.kind,fun q hq=>⟨(h.far q hq).1,?_⟩,fun q=>?_,fun q=>?_,h.oneF,fun q r h1 h2=>?_,h.st,h.cnt⟩
 ·show F4 w.T p (-1) q = -1
  by_cases e:q=p
  ·rw [e,D9]
  ·rw [upd_ne e];exact (h.far q hq).2
 ·show w.F q = -1∨(F4 w.T p (-1) q = -1∧∃ f:Nat,w.F q=(f:Nat)∧w.a≤f∧f < w.a+w.n∧w.s.K f=2)
  by_cases e:q=p
  ·rcases h.fr q with h1 | ⟨h1,h2⟩
   ·exact .inl h1
   ·exact .inr ⟨by rw [e,D9],h2⟩
  ·rw [upd_ne e];exact h.fr q
 ·show F4 w.T p (-1) q = -1∨(w.F q = -1∧∃ k:Nat,F4 w.T p (-1) q=(k:Nat)∧k < w.sl)
  by_cases e:q=p
  ·exact .inl (by rw [e,D9])
  ·rw [upd_ne e];exact h.sl q
 ·have h1:0≤F4 w.T p (-1) q:=h1
  have h2:F4 w.T p (-1) q=F4 w.T p (-1) r:=h2
  by_cases e:q=p
  ·rw [e,D9] at h1;exact absurd h1 (by decide)
  ·by_cases e2:r=p
   ·rw [upd_ne e] at h1 h2;rw [e2,D9] at h2;omega
   ·rw [upd_ne e] at h1 h2;rw [upd_ne e2] at h2;exact h.oneT q r h1 h2
theorem put_brg {p v k f:Nat} {now:Int} {x:Nat→Int} (hne:v ≠ p):(w.put v k).brg p f now x={ ((w.off p).put v k).brg p f now x with ins:=if 0≤w.T p then AV1 w.ins else w.ins }:=by
 unfold Sw.brg Sw.put Sw.off
 simp only [upd_ne hne.symm,Sw.mk.injEq,true_and,and_true]
 funext q
 by_cases e:q=p
 ·rw [e,D9,D9]
 ·rw [upd_ne e,upd_ne e]
  by_cases e2:q=v
  ·rw [e2,D9,D9]
  ·rw [upd_ne e2,upd_ne e2,upd_ne e]
theorem good_ins (h:F5 w) {i:Int} (hi:0≤i∧i≤1000000000):F5 { w with ins:=i }:=⟨h.good,h.rng,h.kind,h.far,h.fr,h.sl,h.oneF,h.oneT,h.st,hi.1,hi.2,h.cnt.2.2⟩
theorem good_stamp (h:F5 w) {p:Nat} {now:Int} (hnow:0≤now∧now≤1000000000000):F5 { w with Z:=F4 w.Z p now }:=⟨h.good,h.rng,h.kind,h.far,h.fr,h.sl,h.oneF,h.oneT,fun q=>by
 show 0≤F4 w.Z p now q∧F4 w.Z p now q≤1000000000000
 by_cases e:q=p
 ·subst e;rw [D9];exact hnow
 ·rw [upd_ne e];exact h.st q,h.cnt⟩
theorem comW (h:F5 w) {f:Nat} (hf:w.a≤f∧f < w.a+w.n) {e:Int} {s':Sy} (hk:w.s.K f=1) (hc:w.s.chg (f:Nat) 1 1 2 2=(e,s')):F5 { w with s:=s' }∧(e=0→s'.K f=2)∧s'.B=(if e=0 then fun p=>if p=f then fun _=>0 else w.s.B p else w.s.B):=by
 have hr:=h.rng
 have hm:=(h.kind f hf.1 hf.2).2
 rw [BP0 (by omega) hk hm] at hc
 have hu:∀ g,w.heldF g→w.s.K g=2:=fun g hg=>by
  obtain ⟨p,_,hp⟩:=hg
  rcases h.fr p with h1 | ⟨_,g',h2,_,_,h3⟩
  ·omega
  ·rw [show g=g' by omega];exact h3
 split at hc
 ·cases hc
  exact ⟨Ai8 h (Aw4 h.good) h.kind hu,fun h0=>absurd h0 (by decide),by rw [if_neg (by decide)];rfl⟩
 ·cases hc
  refine ⟨Ai8 h (BF0 h.good (by omega) (by decide) hk hm) (fun g h1 h2=>⟨?_,(h.kind g h1 h2).2⟩) fun g hg=>?_,fun _=>by rw [AY4,if_pos rfl],by rw [if_pos rfl];rfl⟩
  ·rw [AY4];split
   ·exact .inr rfl
   ·exact (h.kind g h1 h2).1
  ·rw [AY4];split
   ·rfl
   ·exact hu g hg
theorem AD9 (h:F5 w) {p:Nat} {now:Int} (hp:p < w.pg) (hnow:0≤now∧now≤1000000000000):F5 (w.touch p now).2:=by
 have hs:=Ar2 (w:=w) p now
 generalize w.touch p now=q at hs
 cases hs with
 | here h0=>exact good_stamp h hnow
 | no f s' e hn hf hk hc he =>
  obtain ⟨f1,f2,f3⟩:=AE6 hf
  exact (comW h ⟨f1,f2⟩ hk hc).1
 | new f s' hn hf hs =>
  obtain ⟨f1,f2,f3⟩:=AE6 hf
  have hg:F5 { w with s:=s' }∧s'.K f=2:=by
   rcases hs with ⟨h1,rfl⟩ | ⟨h1,h2⟩
   ·exact ⟨h,(h.kind f f1 f2).1.resolve_left h1⟩
   ·obtain ⟨c1,c2,_⟩:=comW h ⟨f1,f2⟩ h1 h2
    exact ⟨c1,c2 rfl⟩
  exact BV0 (w:={ w with s:=s' }) hg.1 hp hn ⟨f1,f2⟩ f3 hg.2 hnow
 | full hn hf hs=>exact h
 | swp k v hn hf hk hv =>
  obtain ⟨v1,v2,v3⟩:=(AN7 (w:=w) w.pg).1 v hv
  obtain ⟨k1,k2⟩:=AE0 hk
  have hne:v ≠ p:=fun e=>hn (e▸v2)
  rw [put_brg hne]
  have ho:=good_off h hn
  have hkh:¬ (w.off p).heldT k:=by
   rintro ⟨q,hq,he⟩
   have he:F4 w.T p (-1) q=(k:Nat):=he
   by_cases e:q=p
   ·rw [e,D9] at he;omega
   ·rw [upd_ne e] at he
    rcases k2 with k2|k2
    ·exact e (h.oneT q p (by omega) (by omega))
    ·exact k2 ⟨q,hq,he⟩
  obtain ⟨f,hf1,hf2,hf3,hf4⟩:∃ f:Nat,w.F v=(f:Nat)∧w.a≤f∧f < w.a+w.n∧w.s.K f=2:=by
   rcases h.fr v with h1 | ⟨_,h2⟩
   ·omega
   ·exact h2
  have hfn:(w.F v).toNat=f:=by omega
  have hp2:=BF1 ho v1 v2 k1 hkh
  refine good_ins (BV0 hp2 hp (fun h3=>?_) ⟨by rw [hfn];exact hf2,by rw [hfn];exact hf3⟩ ?_ (by rw [hfn];exact hf4) hnow) ?_
  ·have h3:0≤F4 w.F v (-1) p:=h3
   rw [upd_ne hne.symm] at h3;exact hn h3
  ·rintro ⟨q,hq,he⟩
   have he:F4 w.F v (-1) q=((w.F v).toNat:Nat):=he
   by_cases e:q=v
   ·rw [e,D9] at he;omega
   ·rw [upd_ne e] at he;exact e (h.oneF q v (by omega) (by omega))
  ·obtain ⟨c1,c2,_,_⟩:=h.cnt
   have:=BP2 ⟨c1,c2⟩
   split<;>omega
end
end Go.Pol
namespace Go.Pol
open Go.Am Go.Proofs.YtbhgfoikbkaohaaGreat.Sh
section
variable {w:Sw}
def Sw.hs (w:Sw) (p j:Nat):Int:=if 0≤w.F p then w.s.B (w.F p).toNat j else if 0≤w.T p then w.D (w.T p).toNat j else 0
theorem BS4 {s:Sy} {f g j:Nat} {x:Nat→Int}:(s.page f x).B g j=if g=f then (if j < 64 then x j else 0) else s.B g j:=by
 show AA7 s.B f _ g j=_
 unfold AA7
 split<;>rfl
theorem got_hs {p j:Nat} (hn:¬ 0≤w.F p):w.got p j=w.hs p j:=by
 unfold Sw.got Sw.hs
 rw [if_neg hn]
 split<;>rfl
structure TouY (w:Sw) (p:Nat) (now:Int) (q:Int × Sw):Prop where
 e:q.1=0
 fr:0≤q.2.F p
 st:q.2.Z p=now
 hs:∀ r j,j < 64→q.2.hs r j=w.hs r j
 is:∀ r,r ≠ p→(q.2.is r ↔ w.is r)
 z:∀ r,r ≠ p→q.2.Z r=w.Z r
 sz:q.2.pg=w.pg
structure TouN (w:Sw) (q:Int × Sw):Prop where
 e:q.1 ≠ 0
 same:∃ s',q.2={ w with s:=s' }∧s'.K=w.s.K∧s'.M=w.s.M∧s'.B=w.s.B∧s'.G=w.s.G
theorem AY5 (h:F5 w) {p:Nat} (now:Int):TouY w p now (w.touch p now)∨TouN w (w.touch p now):=by
 have hsp:=Ar2 (w:=w) p now
 generalize w.touch p now=q at hsp
 cases hsp with
 | here h0=>exact .inl ⟨rfl,h0,D9,fun _ _ _=>rfl,fun _ _=>Iff.rfl,fun r hr=>upd_ne hr,rfl⟩
 | no f s' e hn hf hk hc he =>
  obtain ⟨f1,f2,_⟩:=AE6 hf
  have hr:=h.rng
  rw [BP0 (by omega) hk (h.kind f f1 f2).2] at hc
  split at hc
  ·cases hc;exact .inr ⟨he,_,rfl,rfl,rfl,rfl,rfl⟩
  ·cases hc;exact absurd rfl he
 | new f s' hn hf hs =>
  obtain ⟨f1,f2,f3⟩:=AE6 hf
  have hB:∀ g,g ≠ f→s'.B g=w.s.B g:=fun g hg=>by
   rcases hs with ⟨_,rfl⟩ | ⟨h1,h2⟩
   ·rfl
   ·obtain ⟨_,_,c3⟩:=comW h ⟨f1,f2⟩ h1 h2
    rw [c3,if_pos rfl];exact if_neg hg
  refine .inl ⟨rfl,?_,D9,fun r j hj=>?_,fun r hr=>?_,fun r hr=>upd_ne hr,rfl⟩
  ·show 0≤F4 w.F p (f:Nat) p
   rw [D9];omega
  ·show (if 0≤F4 w.F p (f:Nat) r then (s'.page f (w.got p)).B (F4 w.F p (f:Nat) r).toNat j else if 0≤F4 w.T p (-1) r then w.D (F4 w.T p (-1) r).toNat j else 0)=_
   by_cases e:r=p
   ·subst e
    rw [D9,if_pos (by omega),BS4,if_pos (by omega),if_pos hj,got_hs hn]
   ·rw [upd_ne e,upd_ne e]
    unfold Sw.hs
    by_cases h0:0≤w.F r
    ·have hne:(w.F r).toNat ≠ f:=fun e2=>f3 ⟨r,AL5 h h0,by omega⟩
     rw [if_pos h0,if_pos h0,BS4,if_neg hne,hB _ hne]
    ·rw [if_neg h0,if_neg h0]
  ·show (0≤F4 w.F p (f:Nat) r∨0≤F4 w.T p (-1) r) ↔ _
   rw [upd_ne hr,upd_ne hr];exact Iff.rfl
 | full hn hf hs=>exact .inr ⟨(show (5:Int) ≠ 0 by decide),w.s,rfl,rfl,rfl,rfl,rfl⟩
 | swp k v hn hf hk hv =>
  obtain ⟨v1,v2,v3⟩:=(AN7 (w:=w) w.pg).1 v hv
  obtain ⟨k1,k2⟩:=AE0 hk
  have hne:v ≠ p:=fun e=>hn (e▸v2)
  refine .inl ⟨rfl,?_,D9,fun r j hj=>?_,fun r hr=>?_,fun r hr=>upd_ne hr,rfl⟩
  ·show 0≤F4 (F4 w.F v (-1)) p ((w.F v).toNat:Nat) p
   rw [D9];omega
  ·show (if 0≤F4 (F4 w.F v (-1)) p ((w.F v).toNat:Nat) r then (w.s.page (w.F v).toNat (w.got p)).B (F4 (F4 w.F v (-1)) p ((w.F v).toNat:Nat) r).toNat j else if 0≤F4 (F4 w.T v (k:Nat)) p (-1) r then AA7 w.D k (w.s.B (w.F v).toNat) (F4 (F4 w.T v (k:Nat)) p (-1) r).toNat j else 0)=_
   by_cases e:r=p
   ·subst e
    rw [D9,if_pos (by omega),BS4,if_pos (by omega),if_pos hj,got_hs hn]
   ·rw [upd_ne e,upd_ne e]
    by_cases e2:r=v
    ·subst e2
     rw [D9,D9,if_neg (by decide),if_pos (by omega),show ((k:Nat):Int).toNat=k from rfl]
     unfold AA7 Sw.hs
     rw [if_pos rfl,if_pos v2]
    ·rw [upd_ne e2,upd_ne e2]
     unfold Sw.hs
     by_cases h0:0≤w.F r
     ·have hne2:(w.F r).toNat ≠ (w.F v).toNat:=fun e3=>e2 (h.oneF r v h0 (by omega))
      rw [if_pos h0,if_pos h0,BS4,if_neg hne2]
     ·rw [if_neg h0,if_neg h0]
      by_cases h1:0≤w.T r
      ·have hne3:(w.T r).toNat ≠ k:=fun e3=>by
        rcases k2 with k2|k2
        ·exact e (h.oneT r p h1 (by omega))
        ·exact k2 ⟨r,AT7 h h1,by omega⟩
       rw [if_pos h1,if_pos h1]
       unfold AA7
       rw [if_neg hne3]
      ·rw [if_neg h1,if_neg h1]
  ·show (0≤F4 (F4 w.F v (-1)) p ((w.F v).toNat:Nat) r∨0≤F4 (F4 w.T v (k:Nat)) p (-1) r) ↔ (0≤w.F r∨0≤w.T r)
   rw [upd_ne hr,upd_ne hr]
   by_cases e2:r=v
   ·subst e2;rw [D9,D9];omega
   ·rw [upd_ne e2,upd_ne e2]
end
end Go.Pol
namespace Go.Pol
open Go.Am Go.Proofs.YtbhgfoikbkaohaaGreat.Sh
section
variable {w:Sw}
theorem AA3 (h:F5 w) {p:Nat} (h0:0≤w.F p):∃ f:Nat,w.F p=(f:Nat)∧w.a≤f∧f < w.a+w.n∧w.s.K f=2:=by
 rcases h.fr p with h1 | ⟨_,h2⟩
 ·omega
 ·exact h2
theorem good_B (h:F5 w) {s':Sy} (hg:GoodS s') (hK:s'.K=w.s.K) (hM:s'.M=w.s.M):F5 { w with s:=s' }:=by
 refine ⟨hg,h.rng,fun f h1 h2=>?_,h.far,fun p=>?_,h.sl,h.oneF,h.oneT,h.st,h.cnt⟩
 ·show (s'.K f=1∨s'.K f=2)∧s'.M f=false
  rw [hK,hM];exact h.kind f h1 h2
 ·show w.F p = -1∨(w.T p = -1∧∃ f:Nat,w.F p=(f:Nat)∧w.a≤f∧f < w.a+w.n∧s'.K f=2)
  rw [hK];exact h.fr p
theorem BW8 (h:F5 w) {t v:Int} (ht:0≤t) (h0:0≤w.F (t.toNat / 64)):(w.byte t v).1=0∧F5 (w.byte t v).2∧(∀ p j,j < 64→(w.byte t v).2.hs p j=if p=t.toNat / 64∧j=t.toNat % 64 then v else w.hs p j)∧∃ s',(w.byte t v).2={ w with s:=s' }∧s'.K=w.s.K:=by
 obtain ⟨f,f1,f2,f3,f4⟩:=AA3 h h0
 have hr:=h.rng
 have e1:w.F (t.toNat / 64) * 64+t % 64=((f * 64+t.toNat % 64:Nat):Int):=by rw [f1];omega
 have e:w.s.write (w.F (t.toNat / 64) * 64+t % 64) v=(0,{ w.s with B:=AA7 w.s.B f (F4 (w.s.B f) (t.toNat % 64) v) }):=by
  rw [e1]
  unfold Sy.write
  rw [if_neg (by omega),show ((f * 64+t.toNat % 64:Nat):Int).toNat / 64=f by omega,if_pos f4,show ((f * 64+t.toNat % 64:Nat):Int).toNat % 64=t.toNat % 64 by omega]
 have hg:=good_write (a:=w.F (t.toNat / 64) * 64+t % 64) (b:=v) h.good
 rw [e] at hg
 unfold Sw.byte
 rw [e]
 refine ⟨rfl,good_B h hg rfl rfl,fun p j hj=>?_,_,rfl,rfl⟩
 show (if 0≤w.F p then AA7 w.s.B f (F4 (w.s.B f) (t.toNat % 64) v) (w.F p).toNat j else if 0≤w.T p then w.D (w.T p).toNat j else 0)=_
 unfold Sw.hs
 by_cases hp:p=t.toNat / 64
 ·subst hp
  rw [if_pos h0,if_pos h0,show (w.F (t.toNat / 64)).toNat=f by omega]
  unfold AA7 F4
  rw [if_pos rfl]
  by_cases hj2:j=t.toNat % 64
  ·rw [if_pos hj2,if_pos ⟨rfl,hj2⟩]
  ·rw [if_neg hj2,if_neg fun hc=>hj2 hc.2]
 ·rw [if_neg (show ¬ (p=t.toNat / 64∧j=t.toNat % 64) from fun hc=>hp hc.1)]
  by_cases hF:0≤w.F p
  ·rw [if_pos hF,if_pos hF]
   unfold AA7
   rw [if_neg fun e2=>hp (h.oneF p _ hF (by omega))]
  ·rw [if_neg hF,if_neg hF]
theorem write_yes (h:F5 w) {t now v:Int} (he:(w.write t now v).1=0):w.nums t now∧F5 (w.write t now v).2∧(∀ p j,j < 64→(w.write t now v).2.hs p j=if p=t.toNat / 64∧j=t.toNat % 64 then v else w.hs p j):=by
 unfold Sw.write at he ⊢
 split at he
 ·exact absurd he (by decide:¬ (7:Int)=0)
 rename_i hn
 have hn2:w.nums t now:=Classical.not_not.1 hn
 rw [if_neg hn]
 obtain ⟨n1,n2,n3,n4⟩:=hn2
 have hg:=AD9 h (p:=t.toNat / 64) (now:=now) (by omega) ⟨n3,n4⟩
 rcases AY5 h (p:=t.toNat / 64) now with hy|hno
 ·rw [if_pos hy.e]
  obtain ⟨b1,b2,b3,_⟩:=BW8 (v:=v) hg n1 hy.fr
  refine ⟨⟨n1,n2,n3,n4⟩,b2,fun p j hj=>?_⟩
  rw [b3 p j hj,hy.hs p j hj]
 ·rw [if_neg hno.e] at he
  exact absurd he hno.e
theorem BV1 (h:F5 w) {f:Nat} (hf:w.a≤f∧f < w.a+w.n) (hh:¬ w.heldF f) (hk:w.s.K f=2):F5 (w.gone (f:Nat))∧(∀ p j,(w.gone (f:Nat)).hs p j=w.hs p j):=by
 have hr:=h.rng
 have hm:=(h.kind f hf.1 hf.2).2
 have hu:∀ g,w.heldF g→w.s.K g=2:=fun g hg=>by
  obtain ⟨p,_,hp⟩:=hg
  rcases h.fr p with h1 | ⟨_,g',h2,_,_,h3⟩
  ·omega
  ·rw [show g=g' by omega];exact h3
 unfold Sw.gone
 rw [BP0 (by omega) hk hm]
 split
 ·exact ⟨Ai8 h (Aw4 h.good) h.kind hu,fun _ _=>rfl⟩
 ·refine ⟨Ai8 h (BF0 h.good (by omega) (by decide) hk hm) (fun g h1 h2=>⟨?_,(h.kind g h1 h2).2⟩) fun g hg=>?_,fun p j=>?_⟩
  ·rw [AY4];split
   ·exact .inl rfl
   ·exact (h.kind g h1 h2).1
  ·rw [AY4,if_neg (show ¬ g=f from fun e=>hh (e▸hg))];exact hu g hg
  ·show (if 0≤w.F p then (w.s.turn f 1 3).B (w.F p).toNat j else if 0≤w.T p then w.D (w.T p).toNat j else 0)=w.hs p j
   unfold Sw.hs
   by_cases hF:0≤w.F p
   ·rw [if_pos hF,if_pos hF,turn_B,if_neg fun e=>hh ⟨p,AL5 h hF,by omega⟩]
   ·rw [if_neg hF,if_neg hF]
end
end Go.Pol
namespace Go.Pol
open Go.Am Go.Proofs.YtbhgfoikbkaohaaGreat.Sh
section
variable {w:Sw}
theorem put_hs (h:F5 w) {v k:Nat} (h0:0≤w.F v) (hh:¬ w.heldT k) (q j:Nat):(w.put v k).hs q j=w.hs q j:=by
 show (if 0≤F4 w.F v (-1) q then w.s.B (F4 w.F v (-1) q).toNat j else if 0≤F4 w.T v (k:Nat) q then AA7 w.D k (w.s.B (w.F v).toNat) (F4 w.T v (k:Nat) q).toNat j else 0)=_
 unfold Sw.hs
 by_cases e:q=v
 ·subst e
  rw [D9,D9,if_neg (by decide),if_pos (by omega),if_pos h0,show ((k:Nat):Int).toNat=k from rfl]
  unfold AA7
  rw [if_pos rfl]
 ·rw [upd_ne e,upd_ne e]
  by_cases hF:0≤w.F q
  ·rw [if_pos hF,if_pos hF]
  ·rw [if_neg hF,if_neg hF]
   by_cases hT:0≤w.T q
   ·have : (w.T q).toNat ≠ k:=fun e3=>hh ⟨q,AT7 h hT,by omega⟩
    rw [if_pos hT,if_pos hT]
    unfold AA7
    rw [if_neg this]
   ·rw [if_neg hT,if_neg hT]
theorem out_yes (h:F5 w) {p:Int} (he:(w.out p).1=0):F5 (w.out p).2∧∀ q j,(w.out p).2.hs q j=w.hs q j:=by
 unfold Sw.out at he ⊢
 split at he
 ·exact absurd he (by decide:¬ (7:Int)=0)
 rename_i c1;rw [if_neg c1]
 split at he
 ·exact absurd he (by decide:¬ (4:Int)=0)
 rename_i c2;rw [if_neg c2]
 cases hk:w.slot (-1) with
 | none=>rw [hk] at he;exact absurd he (by decide:¬ (5:Int)=0)
 | some k =>
  have c1:0≤p∧p < (w.pg:Nat):=Classical.not_not.1 c1
  have h0:0≤w.F p.toNat:=by omega
  obtain ⟨k1,k2⟩:=AE0 hk
  have k2:¬ w.heldT k:=k2.resolve_left (by omega)
  obtain ⟨f,f1,f2,f3,f4⟩:=AA3 h h0
  have hg:=BF1 h (v:=p.toNat) (by omega) h0 k1 k2
  dsimp only
  rw [f1]
  obtain ⟨g1,g2⟩:=BV1 hg (f:=f) ⟨f2,f3⟩ (by
   rintro ⟨q,hq,e⟩
   have e:F4 w.F p.toNat (-1) q=(f:Nat):=e
   by_cases e2:q=p.toNat
   ·rw [e2,D9] at e;omega
   ·rw [upd_ne e2] at e;exact e2 (h.oneF q _ (by omega) (by omega))) f4
  exact ⟨g1,fun q j=>(g2 q j).trans (put_hs h h0 k2 q j)⟩
theorem out_no (p:Int) (he:(w.out p).1 ≠ 0):(w.out p).2=w:=by
 unfold Sw.out at he ⊢
 split
 ·rfl
 rename_i c1;rw [if_neg c1] at he
 split
 ·rfl
 rename_i c2;rw [if_neg c2] at he
 cases hk:w.slot (-1) with
 | none=>rfl
 | some k=>rw [hk] at he;exact absurd rfl he
def Sw.nowh (w:Sw) (p:Nat):Sw:={ w with F:=F4 w.F p (-1),T:=F4 w.T p (-1),Z:=F4 w.Z p 0 }
theorem good_nowh (h:F5 w) (p:Nat):F5 (w.nowh p)∧∀ q j,(w.nowh p).hs q j=if q=p then 0 else w.hs q j:=by
 refine ⟨⟨h.good,h.rng,h.kind,fun q hq=>?_,fun q=>?_,fun q=>?_,fun q r h1 h2=>?_,fun q r h1 h2=>?_,fun q=>?_,h.cnt⟩,fun q j=>?_⟩
 ·show F4 w.F p (-1) q = -1∧F4 w.T p (-1) q = -1
  by_cases e:q=p
  ·rw [e,D9,D9];exact ⟨rfl,rfl⟩
  ·rw [upd_ne e,upd_ne e];exact h.far q hq
 ·show F4 w.F p (-1) q = -1∨(F4 w.T p (-1) q = -1∧∃ f:Nat,F4 w.F p (-1) q=(f:Nat)∧w.a≤f∧f < w.a+w.n∧w.s.K f=2)
  by_cases e:q=p
  ·exact .inl (by rw [e,D9])
  ·rw [upd_ne e,upd_ne e];exact h.fr q
 ·show F4 w.T p (-1) q = -1∨(F4 w.F p (-1) q = -1∧∃ k:Nat,F4 w.T p (-1) q=(k:Nat)∧k < w.sl)
  by_cases e:q=p
  ·exact .inl (by rw [e,D9])
  ·rw [upd_ne e,upd_ne e];exact h.sl q
 ·have h1:0≤F4 w.F p (-1) q:=h1
  have h2:F4 w.F p (-1) q=F4 w.F p (-1) r:=h2
  by_cases e:q=p
  ·rw [e,D9] at h1;exact absurd h1 (by decide)
  ·rw [upd_ne e] at h1 h2
   by_cases e2:r=p
   ·rw [e2,D9] at h2;omega
   ·rw [upd_ne e2] at h2;exact h.oneF q r h1 h2
 ·have h1:0≤F4 w.T p (-1) q:=h1
  have h2:F4 w.T p (-1) q=F4 w.T p (-1) r:=h2
  by_cases e:q=p
  ·rw [e,D9] at h1;exact absurd h1 (by decide)
  ·rw [upd_ne e] at h1 h2
   by_cases e2:r=p
   ·rw [e2,D9] at h2;omega
   ·rw [upd_ne e2] at h2;exact h.oneT q r h1 h2
 ·show 0≤F4 w.Z p 0 q∧F4 w.Z p 0 q≤1000000000000
  by_cases e:q=p
  ·rw [e,D9];decide
  ·rw [upd_ne e];exact h.st q
 ·show (if 0≤F4 w.F p (-1) q then w.s.B (F4 w.F p (-1) q).toNat j else if 0≤F4 w.T p (-1) q then w.D (F4 w.T p (-1) q).toNat j else 0)=_
  by_cases e:q=p
  ·rw [e,D9,D9,if_pos rfl];rfl
  ·rw [upd_ne e,upd_ne e,if_neg e];rfl
theorem fre_yes (h:F5 w) {p:Int} (he:(w.fre p).1=0):(0≤p∧p < (w.pg:Nat))∧F5 (w.fre p).2∧∀ q j,(w.fre p).2.hs q j=if q=p.toNat then 0 else w.hs q j:=by
 unfold Sw.fre at he ⊢
 split at he
 ·exact absurd he (by decide:¬ (7:Int)=0)
 rename_i c1;rw [if_neg c1]
 split at he
 ·exact absurd he (by decide:¬ (4:Int)=0)
 rename_i c2;rw [if_neg c2]
 have c1:0≤p∧p < (w.pg:Nat):=Classical.not_not.1 c1
 obtain ⟨n1,n2⟩:=good_nowh h p.toNat
 refine ⟨c1,?_⟩
 dsimp only
 split
 ·rename_i h0
  obtain ⟨f,f1,f2,f3,f4⟩:=AA3 h h0
  rw [f1]
  obtain ⟨g1,g2⟩:=BV1 n1 (f:=f) ⟨f2,f3⟩ (by
   rintro ⟨q,hq,e⟩
   have e:F4 w.F p.toNat (-1) q=(f:Nat):=e
   by_cases e2:q=p.toNat
   ·rw [e2,D9] at e;omega
   ·rw [upd_ne e2] at e;exact e2 (h.oneF q _ (by omega) (by omega))) f4
  exact ⟨g1,fun q j=>(g2 q j).trans (n2 q j)⟩
 ·exact ⟨n1,n2⟩
theorem fre_no (p:Int) (he:(w.fre p).1 ≠ 0):(w.fre p).2=w:=by
 unfold Sw.fre at he ⊢
 split
 ·rfl
 rename_i c1;rw [if_neg c1] at he
 split
 ·rfl
 rename_i c2;rw [if_neg c2] at he
 exact absurd rfl he
def Sw.call (w:Sw) (k:Nat) (t now v p:Int) (l:List Rl):Int × Sw :=
 if k < 6 then w.write t now v else if k < 10 then (w.read t now).2 else if k=10 then w.out p else if k=11 then w.fre p else
 if k=13 then ((w.s.plan l).1,{ w with s:=(w.s.plan l).2 }) else (0,w)
end
end Go.Pol
namespace Go.Pol
open Go.Am Go.Proofs.YtbhgfoikbkaohaaGreat.Sh
theorem fil_uniq {α:Type} {p:α→Bool} {l:List α} (hn:l.Nodup) (h:∀ x ∈ l,∀ y ∈ l,p x=true→p y=true→x=y):(l.filter p).length≤1:=by
 have h2:(l.filter p).Nodup:=hn.sublist List.filter_sublist
 have h3:∀ x ∈ l.filter p,∀ y ∈ l.filter p,x=y:=fun x hx y hy=>h x (List.mem_filter.1 hx).1 y (List.mem_filter.1 hy).1 (List.mem_filter.1 hx).2 (List.mem_filter.1 hy).2
 generalize l.filter p=M at *
 match M,h2,h3 with
 | [],_,_=>exact Nat.zero_le _
 | [_],_,_=>exact Nat.le_refl _
 | x::y::M,h2,h3 =>
  have:=h3 x (List.mem_cons_self ..) y (List.mem_cons_of_mem _ (List.mem_cons_self ..))
  rw [List.nodup_cons] at h2
  exact absurd (this▸List.mem_cons_self ..) h2.1
section
variable {w:Sw}
def Sw.outN (w:Sw):Nat:=((List.range w.pg).filter fun p=>decide (0≤w.T p)).length
structure Lru (w:Sw) (now:Int):Prop where
 good:F5 w
 l:w.s.l=[]
 sl:w.sl=256
 up:∀ p q,0≤w.F p→w.is q→w.Z p < w.Z q→0≤w.F q
 dist:∀ p q,w.is p→w.is q→w.Z p=w.Z q→p=q
 fresh:∀ p,w.is p→w.Z p < now
 full:∀ p,w.is p→¬ 0≤w.F p→w.free=none
end
end Go.Pol
namespace Go.Pol
open Go.Am Go.Proofs.YtbhgfoikbkaohaaGreat.Sh
section
variable {t u:Sw} {now:Int}
end
end Go.Pol
namespace Go.Pol
open Go.Am Go.Proofs.YtbhgfoikbkaohaaGreat.Sh
section
variable {w:Sw}
def OutW (w:Sw):Prop:=∀ p,¬ (w.a≤p∧p < w.a+w.n)→w.s.K p=0
theorem heldK (h:F5 w) {f:Nat} (hf:w.heldF f):w.s.K f=2:=by
 obtain ⟨p,_,hp⟩:=hf
 rcases h.fr p with h1 | ⟨_,g',h2,_,_,h3⟩
 ·omega
 ·rw [show f=g' by omega];exact h3
end
end Go.Pol
namespace Go.Pol
open Go.Am Go.Proofs.YtbhgfoikbkaohaaGreat.Sh
section
variable {w:Sw}
theorem fre_good (h:F5 w) (p:Int):F5 (w.fre p).2:=by
 by_cases he:(w.fre p).1=0
 ·exact (fre_yes h he).2.1
 ·rw [fre_no p he];exact h
end
end Go.Pol
namespace Go.Pol
open Go.Am Go.Proofs.YtbhgfoikbkaohaaGreat.Sh
section
variable {w:Sw}
theorem BE2 {l:List Rl} {a n:Int} {pg sl:Nat} (hc:(AK4 l).2=0) (hi:0≤a∧1≤n∧a+n≤1024) (hp:1≤pg∧pg≤256∧sl≤256) (he:((Sy.new l).chg a n 0 1 0).1=0) (b:Sw) (hb:b=⟨a.toNat,n.toNat,pg,sl,fun _=>-1,fun _=>-1,fun _=>0,fun _ _=>0,0,0,((Sy.new l).chg a n 0 1 0).2⟩):F5 b∧OutW b∧(∀ p j,b.hs p j=0)∧(l=[]→sl=256→Lru b 1):=by
 obtain ⟨k1,k2,k3,k4⟩:=new_chg he
 subst hb
 have hg:F5 ⟨a.toNat,n.toNat,pg,sl,fun _=>-1,fun _=>-1,fun _=>0,fun _ _=>0,0,0,((Sy.new l).chg a n 0 1 0).2⟩:=by
  refine ⟨BU9 (Aw5 hc) (by decide),⟨by show 1≤n.toNat;omega,by show a.toNat+n.toNat≤1024;omega,hp.1,hp.2.1,hp.2.2⟩,fun f h1 h2=>⟨.inl ?_,k2 f⟩,fun _ _=>⟨rfl,rfl⟩,fun _=>.inl rfl,fun _=>.inl rfl,fun p q h1=>absurd h1 (show ¬ (0:Int) ≤ -1 by decide),fun p q h1=>absurd h1 (show ¬ (0:Int) ≤ -1 by decide),fun _=>(show (0:Int)≤0∧(0:Int)≤1000000000000 by decide),(show (0:Int)≤0∧(0:Int)≤1000000000∧(0:Int)≤0∧(0:Int)≤1000000000 by decide)⟩
  show ((Sy.new l).chg a n 0 1 0).2.K f=1
  rw [k1,if_pos ⟨h1,h2⟩]
 have hno:∀ p,¬ Sw.is ⟨a.toNat,n.toNat,pg,sl,fun _=>-1,fun _=>-1,fun _=>0,fun _ _=>0,0,0,((Sy.new l).chg a n 0 1 0).2⟩ p:=fun p h=>by
  rcases h with h|h
  ·exact absurd h (show ¬ (0:Int) ≤ -1 by decide)
  ·exact absurd h (show ¬ (0:Int) ≤ -1 by decide)
 refine ⟨hg,fun p hp=>?_,fun p j=>rfl,fun hl hs=>⟨hg,k4.trans hl,hs,fun p q h=>absurd h (show ¬ (0:Int) ≤ -1 by decide),fun p q h=>absurd h (hno p),fun p h=>absurd h (hno p),fun p h=>absurd h (hno p)⟩⟩
 show ((Sy.new l).chg a n 0 1 0).2.K p=0
 rw [k1,if_neg hp]
theorem out_held (h:F5 w):w.outN=((List.range w.sl).filter fun k=>decide (w.heldT k)).length:=by
 have e:w.outN=sumN (fun i=>(((List.range w.pg).filter fun p=>decide (0≤w.T p)).filter fun p=>decide ((w.T p).toNat=i)).length) w.sl:=by
  rw [sum_all]
  ·rfl
  ·intro q hq
   have h0:0≤w.T q:=by simpa using (List.mem_filter.1 hq).2
   rcases h.sl q with h1 | ⟨_,k,h2,h3⟩<;>omega
 rw [e,show List.range w.sl=List.range' 0 w.sl from List.range_eq_range',BC9]
 refine sum_congr fun i hi=>?_
 rw [Nat.zero_add]
 by_cases hh:w.heldT i
 ·rw [if_pos (by simpa using hh)]
  refine Nat.le_antisymm (fil_uniq (List.nodup_range.sublist List.filter_sublist) fun x hx y hy e1 e2=>?_) ?_
  ·have hx0:0≤w.T x:=by simpa using (List.mem_filter.1 hx).2
   have hy0:0≤w.T y:=by simpa using (List.mem_filter.1 hy).2
   have e1:(w.T x).toNat=i:=by simpa using e1
   have e2:(w.T y).toNat=i:=by simpa using e2
   exact h.oneT x y hx0 (by omega)
  ·obtain ⟨p,hp,e⟩:=hh
   refine List.length_pos_of_mem (a:=p) (List.mem_filter.2 ⟨List.mem_filter.2 ⟨?_,?_⟩,?_⟩)
   ·exact List.mem_range.2 hp
   ·simp;omega
   ·simp;omega
 ·rw [if_neg (by simpa using hh)]
  refine BV3 fun p hp=>?_
  rw [List.mem_filter,List.mem_range] at hp
  have h0:0≤w.T p:=by simpa using hp.2
  rw [decide_eq_false_iff_not]
  intro e
  exact hh ⟨p,by omega,by omega⟩
end
end Go.Pol
namespace Go.Pol
open Go.Am Go.Proofs.YtbhgfoikbkaohaaGreat.Sh
def pgE (x:Int × Int × Int):AV:=.agg [.int .i64 x.1,.int .i64 x.2.1,.int .i64 x.2.2]
def byE (b:Nat→Int):AV:=.agg (bcA b)
def nuE (p:Int):AV:=.int .i64 p
theorem N8 (x:Int × Int × Int):Plain (pgE x):=G6 fun y hy=>by
 simp only [List.mem_cons,List.not_mem_nil,or_false] at hy
 rcases hy with rfl|rfl|rfl<;>exact A8
theorem N9 (b:Nat→Int):Plain (byE b):=G6 AB0
theorem M6 (p:Int):Plain (nuE p):=A8
structure WS where
 W:List (Int × Int × Int × Int)
 D:List (Int × (Nat→Int))
 H:List (Int × Int)
structure WOk (w:Sw) (t:WS):Prop where
 ndW:ndI t.W
 ndD:ndI t.D
 ndH:ndI t.H
 gW:∀ p:Int,mgI t.W p=if 0≤p∧w.is p.toNat then some (w.F p.toNat,w.T p.toNat,w.Z p.toNat) else none
 gD:∀ k:Int,mgI t.D k=if 0≤k∧w.heldT k.toNat then some (w.D k.toNat) else none
 gH:∀ f p:Int,mgI t.H f=some p ↔ 0≤p∧0≤f∧w.F p.toNat=f
def stC (s w d h:Nat) (q:Sw):List AV:=[.ptr s 0,.int .i64 (q.a:Nat),.int .i64 (q.n:Nat),.int .i64 (q.pg:Nat),.int .i64 (q.sl:Nat),.mapr w,.mapr d,.mapr h,.int .i64 q.ins,.int .i64 q.outs]
def stN (q:Sw) (t:WS) (o w d h s:Nat):List (Nat × AObj):=[(o,.cells (stC s w d h q)),(w,.maps (encW pgE t.W)),(d,.maps (encW byE t.D)),(h,.maps (encW nuE t.H)),(s,.cells q.s.a)]
end Go.Pol
namespace Go.Proofs.YtbhgfoikbkaohaaGreat.Sh
open Go Go.Am Go.Pol
structure W9 (f:Nat) (avs:List AV) (q:Sw) (t:WS) (r:AV) (q':Sw) (t':WS):Prop where
 out:Ab5 Tryz.prog G0 f (.ptr 0 0::avs) (stN q t 0 1 2 3 4) 5 fun x h1=>x=r∧h1=⟨stN q' t' 0 1 2 3 4,5⟩
 pa:∀ x ∈ avs,Plain x
 pr:Plain r
theorem Al0 {p:Nat→Nat→Prop} {q:Sw} {s w d h s' w' d' h':Nat} (e1:p s s') (e2:p w w') (e3:p d d') (e4:p h h'):RnL p (stC s w d h q) (stC s' w' d' h' q) :=
 ⟨Z9 e1,G5 A8,G5 A8,G5 A8,G5 A8,rn_map e2,rn_map e3,rn_map e4,G5 A8,G5 A8,trivial⟩
theorem wko_st {σ:Nat→Nat} {h h':Hp} {q:Sw} {t:WS} {o w d m s o' w' d' m' s':Nat} (hs:AL9 σ h h') (e0:σ o'=o) (e1:σ w'=w) (e2:σ d'=d) (e3:σ m'=m) (e4:σ s'=s) (hlt:o' < h'.next∧w' < h'.next∧d' < h'.next∧m' < h'.next∧s' < h'.next)
  (g0:lk h.l o=some (.cells (stC s w d m q))) (g1:lk h.l w=some (.maps (encW pgE t.W))) (g2:lk h.l d=some (.maps (encW byE t.D))) (g3:lk h.l m=some (.maps (encW nuE t.H))) (g4:lk h.l s=some (.cells q.s.a)) {r:List (Nat × AObj)} (hr:WkO Tryz.prog σ h h' r):WkO Tryz.prog σ h h' (stN q t o' w' d' m' s'++r):=by
 obtain ⟨l0,l1,l2,l3,l4⟩:=hlt
 refine U6 l0 (by rw [e0];exact g0) (C9 (u7 e4 l4) (C9 (O1 rfl) (C9 (O1 rfl) (C9 (O1 rfl) (C9 (O1 rfl) (C9 (AY1 e1 l1) (C9 (AY1 e2 l2) (C9 (AY1 e3 l3) (C9 (O1 rfl) (C9 (O1 rfl) M4)))))))))) ?_
 exact Q7 hs l1 (by rw [e1];exact g1) rfl (E5 N8) (Q7 hs l2 (by rw [e2];exact g2) rfl (E5 N9) (Q7 hs l3 (by rw [e3];exact g3) rfl (E5 M6) (J2 hs l4 (by rw [e4];exact g4) rfl F7 hr)))
theorem Ab6 {σ:Nat→Nat} {h h':Hp} {i s w d m s' w' d' m':Nat} {q:Sw} {r:List (Nat × AObj)} (h1:i < h'.next) (h2:lk h.l (σ i)=some (.cells (stC s w d m q))) (e1:σ s'=s) (l1:s' < h'.next) (e2:σ w'=w) (l2:w' < h'.next) (e3:σ d'=d) (l3:d' < h'.next) (e4:σ m'=m) (l4:m' < h'.next) (h4:WkO Tryz.prog σ h h' r):WkO Tryz.prog σ h h' ((i,.cells (stC s' w' d' m' q))::r) :=
 U6 h1 h2 (C9 (u7 e1 l1) (C9 (O1 rfl) (C9 (O1 rfl) (C9 (O1 rfl) (C9 (O1 rfl) (C9 (AY1 e2 l2) (C9 (AY1 e3 l3) (C9 (AY1 e4 l4) (C9 (O1 rfl) (C9 (O1 rfl) M4)))))))))) h4
theorem sub_st {h:Hp} {q:Sw} {t:WS} {nx:Nat} (g0:lk h.l 0=some (.cells (stC 4 1 2 3 q))) (g1:lk h.l 1=some (.maps (encW pgE t.W))) (g2:lk h.l 2=some (.maps (encW byE t.D))) (g3:lk h.l 3=some (.maps (encW nuE t.H))) (g4:lk h.l 4=some (.cells q.s.a)):AL9 (rn []) h ⟨stN q t 0 1 2 3 4,nx⟩:=fun i o hi=>by
 simp only [stN,lk] at hi
 show ∃ o',lk h.l i=some o'
 split at hi
 ·rename_i e;subst e;exact ⟨_,g0⟩
 ·split at hi
  ·rename_i e;subst e;exact ⟨_,g1⟩
  ·split at hi
   ·rename_i e;subst e;exact ⟨_,g2⟩
   ·split at hi
    ·rename_i e;subst e;exact ⟨_,g3⟩
    ·split at hi
     ·rename_i e;subst e;exact ⟨_,g4⟩
     ·cases hi
theorem end_WW {top:Bool} {h:Hp} {N0:Nat} {x r:AV} {q:Sw} {t:WS} (hr:AL9 (rn []) h ⟨stN q t 0 1 2 3 4,5⟩→WkV Tryz.prog (rn []) h ⟨stN q t 0 1 2 3 4,5⟩ x r) (g0:lk h.l 0=some (.cells (stC 4 1 2 3 q))) (g1:lk h.l 1=some (.maps (encW pgE t.W))) (g2:lk h.l 2=some (.maps (encW byE t.D))) (g3:lk h.l 3=some (.maps (encW nuE t.H))) (g4:lk h.l 4=some (.cells q.s.a)) (hN0:N0≤5:=by decide) :
  AV3 top Tryz.prog N0 h x (fun r' h'=>r'=r∧h'=⟨stN q t 0 1 2 3 4,5⟩):=by
 have hs:AL9 (rn []) h ⟨stN q t 0 1 2 3 4,5⟩:=sub_st g0 g1 g2 g3 g4
 refine AE8 [] rfl hN0 (R7 rfl) (hr hs) ?_ ⟨rfl,rfl⟩
 have:=wko_st (o':=0) (w':=1) (d':=2) (m':=3) (s':=4) (r:=[]) hs rfl rfl rfl rfl rfl ⟨show 0 < 5 by decide,show 1 < 5 by decide,show 2 < 5 by decide,show 3 < 5 by decide,show 4 < 5 by decide⟩ g0 g1 g2 g3 g4 J5
 exact this
theorem Y5 {top:Bool} {h:Hp} {N0:Nat} {x r:AV} {q:Sw} {t:WS} (hr:x=r) (hp:Plain r) (g0:lk h.l 0=some (.cells (stC 4 1 2 3 q))) (g1:lk h.l 1=some (.maps (encW pgE t.W))) (g2:lk h.l 2=some (.maps (encW byE t.D))) (g3:lk h.l 3=some (.maps (encW nuE t.H))) (g4:lk h.l 4=some (.cells q.s.a)) (hN0:N0≤5:=by decide) :
  AV3 top Tryz.prog N0 h x (fun r' h'=>r'=r∧h'=⟨stN q t 0 1 2 3 4,5⟩):=by
 subst hr
 exact end_WW (fun hs=>X0 hs hp) g0 g1 g2 g3 g4 hN0
theorem Ab0 {f:Nat} {avs:List AV} {q q':Sw} {t t':WS} {o w d m s nx:Nat} {l:List (Nat × AObj)} {r:AV} {K:AV→Hp→Prop} (hc:W9 f avs q t r q' t')
  (g0:lk l o=some (.cells (stC s w d m q))) (g1:lk l w=some (.maps (encW pgE t.W))) (g2:lk l d=some (.maps (encW byE t.D))) (g3:lk l m=some (.maps (encW nuE t.H))) (g4:lk l s=some (.cells q.s.a))
  (hlt:o < nx∧w < nx∧d < nx∧m < nx∧s < nx) (hd:Ad7 [o,w,d,m,s]=true)
  (hk:AP4 [o,w,d,m,s] l fun l2=>K r ⟨([(o,.cells (stC s w d m q')),(w,.maps (encW pgE t'.W)),(d,.maps (encW byE t'.D)),(m,.maps (encW nuE t'.H)),(s,.cells q'.s.a)]:List (Nat × AObj))++l2,nx⟩):AN4 Tryz.prog G0 (.fn f [] []) (.ptr o 0::avs) ⟨l,nx⟩ K:=by
 have e0:enter [o,w,d,m,s] o 0:=rfl
 have e1:enter [o,w,d,m,s] w 1:=rfl
 have e2:enter [o,w,d,m,s] d 2:=rfl
 have e3:enter [o,w,d,m,s] m 3:=rfl
 have e4:enter [o,w,d,m,s] s 4:=rfl
 have k0:back [o,w,d,m,s] nx 0 o:=rfl
 have k1:back [o,w,d,m,s] nx 1 w:=rfl
 have k2:back [o,w,d,m,s] nx 2 d:=rfl
 have k3:back [o,w,d,m,s] nx 3 m:=rfl
 have k4:back [o,w,d,m,s] nx 4 s:=rfl
 refine AS3 (l1:=stN q' t' o w d m s) [o,w,d,m,s] hc.out J3 hd
  (.cons e0 g0 (Al0 e4 e1 e2 e3) (.maps e1 g1 (E5 N8) (.maps e2 g2 (E5 N9) (.maps e3 g3 (E5 M6) (.cons e4 g4 (D8 F7) .nil)))))
  ?_ (by intro x hx;simp only [List.mem_cons,List.not_mem_nil,or_false] at hx;omega) (G5 hc.pr)
  (.cons k0 (Al0 k4 k1 k2 k3) (.maps k1 (E5 N8) (.maps k2 (E5 N9) (.maps k3 (E5 M6) (.cons k4 (D8 F7) .nil))))) hk
 simp only [List.nil_append,List.append_nil]
 exact ⟨Z9 e0,D8 hc.pa⟩
theorem dcx_w {f:Nat} {avs:List AV} {q q':Sw} {t t':WS} {o w d m s:Nat} {h:Hp} {r:AV} {K:AV→Up→List Nat→Prop} (hc:W9 f avs q t r q' t')
  (g0:lk h.l o=some (.cells (stC s w d m q))) (g1:lk h.l w=some (.maps (encW pgE t.W))) (g2:lk h.l d=some (.maps (encW byE t.D))) (g3:lk h.l m=some (.maps (encW nuE t.H))) (g4:lk h.l s=some (.cells q.s.a))
  (hd:Ad7 [o,w,d,m,s]=true) (hnx':[o,w,d,m,s].contains h.next=false)
  (hk:K r [(o,some (.cells (stC s w d m q'))),(w,some (.maps (encW pgE t'.W))),(d,some (.maps (encW byE t'.D))),(m,some (.maps (encW nuE t'.H))),(s,some (.cells q'.s.a))] [o,w,d,m,s]):AP2 Tryz.prog G0 f (.ptr o 0::avs) h K:=by
 have hnx:h.next ∉ [o,w,d,m,s]:=fun hm=>by rw [List.contains_eq_mem,decide_eq_false_iff_not] at hnx';exact hnx' hm
 have e0:enter [o,w,d,m,s] o 0:=rfl
 have e1:enter [o,w,d,m,s] w 1:=rfl
 have e2:enter [o,w,d,m,s] d 2:=rfl
 have e3:enter [o,w,d,m,s] m 3:=rfl
 have e4:enter [o,w,d,m,s] s 4:=rfl
 have k0:j4 [o,w,d,m,s] 0 o:=rfl
 have k1:j4 [o,w,d,m,s] 1 w:=rfl
 have k2:j4 [o,w,d,m,s] 2 d:=rfl
 have k3:j4 [o,w,d,m,s] 3 m:=rfl
 have k4:j4 [o,w,d,m,s] 4 s:=rfl
 refine Ay2 (l1:=stN q' t' o w d m s) [o,w,d,m,s] hc.out J3 hd
  (.cons e0 g0 (Al0 e4 e1 e2 e3) (.maps e1 g1 (E5 N8) (.maps e2 g2 (E5 N9) (.maps e3 g3 (E5 M6) (.cons e4 g4 (D8 F7) .nil)))))
  hnx ?_ ?_ ⟨Z9 e0,D8 hc.pa⟩ (G5 hc.pr)
  (.cons k0 (Al0 k4 k1 k2 k3) (.maps k1 (E5 N8) (.maps k2 (E5 N9) (.maps k3 (E5 M6) (.cons k4 (D8 F7) .nil))))) hk
 ·intro x hx
  simp only [stN,lk]
  repeat' split
  all_goals first|exact ⟨_,rfl⟩|(exfalso;simp only [List.mem_cons,List.not_mem_nil,or_false] at hx;omega)
 ·intro j x hx
  have : j < 5:=(List.getElem?_eq_some_iff.1 hx).1
  simp only [stN,lk]
  repeat' split
  all_goals first|exact ⟨_,rfl⟩|(exfalso;omega)
end Go.Proofs.YtbhgfoikbkaohaaGreat.Sh
