/-
 The maps of a store that is loaded: its lists,in their order.
 SwapFits,plain: what holds after each call;all pages freed.
 A store is loaded.
 SwapFits.
 What a row's reading of an argument is,as abstract values,by the shape of its type. No program in sight.
 The arguments of the rows: calls and plays.
-/
import Derived.Test.YtbhgfoikbkaohaaQaq
import Derived.Carry
import Derived.OpenShut
import Derived.Test.YtbhgfoikbkaohaaRows
import Derived.KernelRfl
set_option linter.unusedSimpArgs false
set_option linter.unusedVariables false
set_option maxHeartbeats 12800000
namespace Go.Pol
open Go.Am Go.Proofs.Ytbhgfoikbkaohaa.Sh
section
variable {β:Type}
theorem Ab5 {k:Int} {v:β}:∀ {L:List (Int × β)},mgI L k=none→mpI L k v=L++[(k,v)]
 | [],_=>rfl
 | e::L,h=>by
  unfold mgI at h
  split at h
  ·cases h
  ·rename_i hne
   unfold mpI
   rw [if_neg hne,Ab5 h];rfl
theorem BV5 {d:Int × β} {L:List (Int × β)} (hn:ndI L) {j:Nat} (hj:j < L.length):mgI (L.take j) (nth d L j).1=none:=by
 refine AG1.2 fun hm=>?_
 obtain ⟨e,he,hk⟩:=List.mem_map.1 hm
 obtain ⟨i,hi,rfl⟩:=List.getElem_of_mem he
 rw [List.length_take] at hi
 rw [List.getElem_take,J8 hj] at hk
 have:=List.pairwise_iff_getElem.1 hn i j (by rw [List.length_map];omega) (by rw [List.length_map];exact hj) (by omega)
 rw [List.getElem_map,List.getElem_map] at this
 exact this hk
theorem BF6 {d:Int × β}:∀ {L:List (Int × β)} (_:ndI L) {j:Nat} (_:j < L.length),mgI L (nth d L j).1=some (nth d L j).2
 | e::L,hn,0,_=>by
  show (if e.1=e.1 then some e.2 else mgI L e.1)=_
  rw [if_pos rfl];rfl
 | e::L,hn,j+1,hj=>by
  have hn':=List.nodup_cons.1 hn
  have hj':j < L.length:=by simpa using hj
  have ih:=BF6 (d:=d) (L:=L) hn'.2 hj'
  have en:nth d (e::L) (j+1)=nth d L j:=rfl
  rw [en]
  show (if (nth d L j).1=e.1 then some e.2 else mgI L (nth d L j).1)=_
  rw [if_neg,ih]
  intro he
  exact hn'.1 (List.mem_map.2 ⟨nth d L j,AG0 hj',he⟩)
end
section
variable {q:Sw}
theorem dsk_nd:ndI q.dsk:=by
 unfold ndI Sw.dsk
 rw [List.map_map]
 exact List.Pairwise.map (R:=fun a b=>a ≠ b) _ (fun a b hab e=>hab (by have : ((a:Nat):Int)=b:=e;omega)) (List.nodup_range.filter _)
theorem BP2:ndI q.whr:=by
 unfold ndI Sw.whr
 rw [List.map_map]
 exact List.Pairwise.map (R:=fun a b=>a ≠ b) _ (fun a b hab e=>hab (by have : ((a:Nat):Int)=b:=e;omega)) BE8
theorem dsk_nth {j:Nat} (h:j < q.slots.length):nth d5 q.dsk j=dkE q (nth 0 q.slots j):=by
 unfold Sw.dsk
 rw [J8 (by rw [List.length_map];exact h),J8 h,List.getElem_map]
def helE (e:Int × Int × Int × Int):Option (Int × Int):=if 0≤e.2.1 then some (e.2.1,e.1) else none
def useE (e:Int × Int × Int × Int):Option (Int × Bool):=if 0≤e.2.1 then none else some (e.2.2.1,true)
def AT9 (q:Sw) (j:Nat):List (Int × Int):=(q.whr.take j).filterMap helE
def Ao2 (q:Sw) (j:Nat):List (Int × Bool):=(q.whr.take j).filterMap useE
theorem hel_0:AT9 q 0=[]:=rfl
theorem use_0:Ao2 q 0=[]:=rfl
theorem hel_s {j:Nat} (h:j < q.pages.length):AT9 q (j+1)=AT9 q j++if 0≤q.F (nth 0 q.pages j) then [(q.F (nth 0 q.pages j),((nth 0 q.pages j:Nat):Int))] else []:=by
 unfold AT9
 rw [whr_s h,List.filterMap_append]
 congr 1
 unfold helE whE
 by_cases c:0≤q.F (nth 0 q.pages j)
 ·rw [if_pos c];simp [c]
 ·rw [if_neg c];simp [c]
theorem use_s {j:Nat} (h:j < q.pages.length):Ao2 q (j+1)=Ao2 q j++if 0≤q.F (nth 0 q.pages j) then [] else [(q.T (nth 0 q.pages j),true)]:=by
 unfold Ao2
 rw [whr_s h,List.filterMap_append]
 congr 1
 unfold useE whE
 by_cases c:0≤q.F (nth 0 q.pages j)
 ·rw [if_pos c];simp [c]
 ·rw [if_neg c];simp [c]
theorem Az9 {j:Nat} {f p:Int} (h:(f,p) ∈ AT9 q j):∃ i:Nat,i < j∧i < q.pages.length∧p=(nth 0 q.pages i:Nat)∧f=q.F (nth 0 q.pages i)∧0≤f:=by
 unfold AT9 at h
 obtain ⟨e,he,hh⟩:=List.mem_filterMap.1 h
 obtain ⟨i,hi,rfl⟩:=List.getElem_of_mem he
 rw [List.length_take,AD3] at hi
 rw [List.getElem_take,← J8 (d:=d4) (by rw [AD3];omega),AZ6 (by omega)] at hh
 unfold helE whE at hh
 split at hh
 ·rename_i c
  cases hh
  exact ⟨i,by omega,by omega,rfl,rfl,c⟩
 ·cases hh
theorem use_mem {j:Nat} {k:Int} {b:Bool} (h:(k,b) ∈ Ao2 q j):∃ i:Nat,i < j∧i < q.pages.length∧k=q.T (nth 0 q.pages i)∧¬ 0≤q.F (nth 0 q.pages i)∧b=true:=by
 unfold Ao2 at h
 obtain ⟨e,he,hh⟩:=List.mem_filterMap.1 h
 obtain ⟨i,hi,rfl⟩:=List.getElem_of_mem he
 rw [List.length_take,AD3] at hi
 rw [List.getElem_take,← J8 (d:=d4) (by rw [AD3];omega),AZ6 (by omega)] at hh
 unfold useE whE at hh
 split at hh
 ·cases hh
 ·rename_i c
  cases hh
  exact ⟨i,by omega,by omega,rfl,c,rfl⟩
theorem Ar2 {i j:Nat} (hi:i < q.pages.length) (hj:j < q.pages.length) (h:nth 0 q.pages i=nth 0 q.pages j):i=j:=by
 rw [J8 hi,J8 hj] at h
 have hp:=Ak3 (w:=q)
 rcases Nat.lt_trichotomy i j with h1|h1|h1
 ·have:=List.pairwise_iff_getElem.1 hp i j hi hj h1;omega
 ·exact h1
 ·have:=List.pairwise_iff_getElem.1 hp j i hj hi h1;omega
theorem hel_new (hg:D7 q) {j:Nat} (h:j < q.pages.length) (h0:0≤q.F (nth 0 q.pages j)):mgI (AT9 q j) (q.F (nth 0 q.pages j))=none:=AG1.2 fun hm=>by
 obtain ⟨⟨f,p⟩,he,hk⟩:=List.mem_map.1 hm
 obtain ⟨i,h1,h2,_,h4,h5⟩:=Az9 he
 have hk:f=q.F (nth 0 q.pages j):=hk
 have:=hg.oneF (nth 0 q.pages i) (nth 0 q.pages j) (by omega) (by omega)
 have:=Ar2 h2 h this
 omega
theorem hel_neg {j:Nat}:mgI (AT9 q j) (-1)=none:=AG1.2 fun hm=>by
 obtain ⟨⟨f,p⟩,he,hk⟩:=List.mem_map.1 hm
 obtain ⟨i,_,_,_,_,h5⟩:=Az9 he
 have hk:f = -1:=hk
 omega
theorem use_new (hg:D7 q) {j:Nat} (h:j < q.pages.length) (h0:¬ 0≤q.F (nth 0 q.pages j)):mgI (Ao2 q j) (q.T (nth 0 q.pages j))=none:=AG1.2 fun hm=>by
 obtain ⟨⟨k,b⟩,he,hk⟩:=List.mem_map.1 hm
 obtain ⟨i,h1,h2,h3,_,_⟩:=use_mem he
 have hk:k=q.T (nth 0 q.pages j):=hk
 have h6:0≤q.T (nth 0 q.pages j):=(BF4 hg h).resolve_left h0
 have:=hg.oneT (nth 0 q.pages i) (nth 0 q.pages j) (by omega) (by omega)
 have:=Ar2 h2 h this
 omega
theorem BV7 {β:Type} {k:Int} {v:β}:∀ {L:List (Int × β)},mgI L k=some v→(k,v) ∈ L
 | [],h=>by cases h
 | e::L,h=>by
  unfold mgI at h
  split at h
  ·rename_i hk;cases h;subst hk;exact List.mem_cons_self ..
  ·exact List.mem_cons_of_mem _ (BV7 h)
theorem mem_mgI {β:Type} {k:Int} {v:β} {L:List (Int × β)} (hn:ndI L) (h:(k,v) ∈ L):mgI L k=some v:=by
 obtain ⟨j,hj,e⟩:=List.getElem_of_mem h
 have:=BF6 (d:=(k,v)) hn hj
 rw [J8 hj,e] at this
 exact this
theorem nd_app {β:Type} {k:Int} {v:β} {L:List (Int × β)} (hn:ndI L) (h:mgI L k=none):ndI (L++[(k,v)]):=by
 rw [← Ab5 h];exact Ab4 hn
theorem hel_nd (hg:D7 q):∀ j,j≤q.pages.length→ndI (AT9 q j)
 | 0,_=>List.nodup_nil
 | j+1,h=>by
  have ih:=hel_nd hg j (by omega)
  rw [hel_s (by omega)]
  split
  ·rename_i c;exact nd_app ih (hel_new hg (by omega) c)
  ·rw [List.append_nil];exact ih
theorem BU9 {p:Nat} (hg:D7 q) (h:q.is p):∃ j,j < q.pages.length∧nth 0 q.pages j=p:=by
 obtain ⟨j,hj,e⟩:=List.getElem_of_mem ((AE9 hg).2 h)
 exact ⟨j,hj,by rw [J8 hj,e]⟩
theorem hel_in {j:Nat} (h:j < q.pages.length) (h0:0≤q.F (nth 0 q.pages j)):(q.F (nth 0 q.pages j),((nth 0 q.pages j:Nat):Int)) ∈ AT9 q q.pages.length:=by
 unfold AT9
 rw [Ai8]
 refine List.mem_filterMap.2 ⟨whE q (nth 0 q.pages j),?_,?_⟩
 ·rw [← AZ6 h];exact AG0 (by rw [AD3];exact h)
 ·unfold helE whE;rw [if_pos h0]
theorem Ai3 (hg:D7 q):WOk q ⟨q.whr,q.dsk,AT9 q q.pages.length⟩:=by
 refine ⟨BP2,dsk_nd,hel_nd hg _ (Nat.le_refl _),fun p=>?_,fun k=>?_,fun f p=>?_⟩
 ·show mgI q.whr p=_
  by_cases hp:0≤p∧q.is p.toNat
  ·rw [if_pos hp]
   obtain ⟨j,hj,e⟩:=BU9 hg hp.2
   have h1:=BF6 (d:=d4) (BP2 (q:=q)) (j:=j) (by rw [AD3];exact hj)
   rw [AZ6 hj,e] at h1
   have h2:(whE q p.toNat).1=p:=by show ((p.toNat:Nat):Int)=p;omega
   rw [h2] at h1;exact h1
  ·rw [if_neg hp]
   refine AG1.2 fun hm=>hp ?_
   obtain ⟨e,he,hk⟩:=List.mem_map.1 hm
   unfold Sw.whr at he
   obtain ⟨r,hr,rfl⟩:=List.mem_map.1 he
   have hk:((r:Nat):Int)=p:=hk
   exact ⟨by omega,by rw [← hk,Int.toNat_natCast];exact (AE9 hg).1 hr⟩
 ·show mgI q.dsk k=_
  by_cases hp:0≤k∧q.heldT k.toNat
  ·rw [if_pos hp]
   obtain ⟨j,hj,e⟩:=List.getElem_of_mem ((AI0 hg).2 hp.2)
   have h1:=BF6 (d:=d5) (dsk_nd (q:=q)) (j:=j) (by rw [AU4];exact hj)
   rw [dsk_nth hj,J8 hj,e] at h1
   have h2:(dkE q k.toNat).1=k:=by show ((k.toNat:Nat):Int)=k;omega
   rw [h2] at h1;exact h1
  ·rw [if_neg hp]
   refine AG1.2 fun hm=>hp ?_
   obtain ⟨e,he,hk⟩:=List.mem_map.1 hm
   unfold Sw.dsk at he
   obtain ⟨r,hr,rfl⟩:=List.mem_map.1 he
   have hk:((r:Nat):Int)=k:=hk
   exact ⟨by omega,by rw [← hk,Int.toNat_natCast];exact (AI0 hg).1 hr⟩
 ·show mgI (AT9 q q.pages.length) f=some p ↔ _
  constructor
  ·intro h
   obtain ⟨i,_,h2,h3,h4,h5⟩:=Az9 (BV7 h)
   exact ⟨by omega,h5,by rw [h3,Int.toNat_natCast];exact h4.symm⟩
  ·rintro ⟨h1,h2,h3⟩
   obtain ⟨j,hj,e⟩:=BU9 hg (p:=p.toNat) (.inl (by omega))
   have h4:=hel_in (q:=q) hj (by rw [e,h3];exact h2)
   rw [e,h3] at h4
   have h5:((p.toNat:Nat):Int)=p:=by omega
   rw [h5] at h4
   exact mem_mgI (hel_nd hg _ (Nat.le_refl _)) h4
end
end Go.Pol
namespace Go.Pol
open Go.Am Go.Proofs.Ytbhgfoikbkaohaa.Sh
section
variable {q:Sw} {t t':WS} {p:SPy}
theorem AX4 (p:Nat) (now:Int):(q.touch p now).2.pg=q.pg:=by
 have hsp:=AK9 (w:=q) p now
 generalize q.touch p now=r at hsp
 cases hsp<;>rfl
theorem al_pg (x:SAc):(q.al x).2.pg=q.pg:=by
 unfold Sw.al Sw.call
 split
 ·unfold Sw.write
  split
  ·rfl
  ·split
   ·exact AX4 (q:=q) (x.t.toNat / 64) x.n
   ·exact AX4 (q:=q) (x.t.toNat / 64) x.n
 split
 ·unfold Sw.read
  split
  ·rfl
  split
  ·rfl
  split
  ·exact AX4 (q:=q) (x.t.toNat / 64) x.n
  ·exact AX4 (q:=q) (x.t.toNat / 64) x.n
 split
 ·unfold Sw.out
  split
  ·rfl
  split
  ·rfl
  split<;>rfl
 split
 ·unfold Sw.fre
  split
  ·rfl
  split
  ·rfl
  dsimp only
  split<;>rfl
 split<;>rfl
theorem BU8 (hg:D7 q):q.pages.length=q.inN+q.outN:=by
 unfold Sw.pages Sw.inN Sw.outN
 refine Ac8 fun p _=>?_
 simp only [decide_eq_true_eq]
 refine ⟨Iff.rfl,fun ⟨h1,h2⟩=>?_⟩
 rcases hg.fr p with h3 | ⟨h3,_⟩<;>omega
theorem Ap5 (hg:D7 q):q.slots.length=q.outN:=(BF3 hg).symm
theorem use_all (hg:D7 q):(Ao2 q q.pages.length).length=q.slots.length:=by
 have e:∀ l:List Nat,(∀ p ∈ l,q.is p)→((l.map (whE q)).filterMap useE).length=(l.filter fun p=>decide (0≤q.T p)).length:=by
  intro l
  induction l with
  | nil=>intro _;rfl
  | cons p l ih =>
   intro h
   have ih:=ih fun p hp=>h p (List.mem_cons_of_mem _ hp)
   rw [List.map_cons,List.filterMap_cons,List.filter_cons]
   unfold useE whE at *
   by_cases c:0≤q.F p
   ·have h2:¬ 0≤q.T p:=by rcases hg.fr p with h3 | ⟨h3,_⟩<;>omega
    rw [if_pos c,if_neg (by simpa using h2)];exact ih
   ·have h2:0≤q.T p:=(h p (List.mem_cons_self ..)).resolve_left c
    rw [if_neg c,if_pos (by simpa using h2)]
    dsimp only
    rw [List.length_cons,List.length_cons,ih]
 unfold Ao2
 rw [Ai8]
 unfold Sw.whr
 rw [e _ fun p hp=>(AE9 hg).1 hp,Ap5 hg]
 unfold Sw.pages Sw.outN
 rw [List.filter_filter]
 congr 1
 refine List.filter_congr fun p _=>?_
 unfold Sw.is
 by_cases c:0≤q.T p
 ·simp [c]
 ·simp [c]
structure FitQ (p:SPy) (q:Sw) (t:WS):Prop where
 good:D7 q
 ok:WOk q t
 out:OutW q
 n:((q.n:Nat):Int)=p.n
 pg:((q.pg:Nat):Int)=p.pg
theorem fit_new (hc:(AF3 p.l).2=0) (hst:U3 p.a p.n p.pg p.sl) (he:((Sy.new p.l).chg p.a p.n 0 1 0).1=0):FitQ p p.b T0:=by
 obtain ⟨n1,n2,n3,n4,n5,n6,n7,n8⟩:=hst
 obtain ⟨hg,ho,_⟩:=Ar8 (l:=p.l) (a:=p.a) (n:=p.n) (pg:=p.pg.toNat) (sl:=p.sl.toNat) hc ⟨n1,n3,by omega⟩ ⟨by omega,by omega,by omega⟩ he p.b rfl
 exact ⟨hg,BO2,ho,(show ((p.n.toNat:Nat):Int)=p.n by omega),(show ((p.pg.toNat:Nat):Int)=p.pg by omega)⟩
theorem fit_al (h:FitQ p q t) (x:SAc) (ho:WOk (q.al x).2 t'):FitQ p (q.al x).2 t':=by
 have hk:KinW q (q.al x).2:=callW_kin h.good _ _ _ _ _ _
 exact ⟨good_al h.good x,ho,BW7 hk h.out,by rw [hk.2.1];exact h.n,by rw [al_pg];exact h.pg⟩
theorem fit_nums (h:FitQ p q t):AA2 q.s.K 2 1024=q.inN+q.idle∧((AA2 q.s.K 1 1024:Nat):Int)=p.n - (q.inN:Nat) - (q.idle:Nat)∧q.whr.length=q.inN+q.outN∧q.dsk.length=q.outN∧q.inN+q.idle≤1024∧q.outN≤256∧p.n≤1024∧1≤p.n:=by
 obtain ⟨h1,h2⟩:=fitsW h.good h.out
 have h3:=h.n
 have h4:=BU8 h.good
 have h5:=Ap5 h.good
 have h6:=Aa6 h.good
 have h7:=h.good.rng
 rw [AD3,AU4]
 exact ⟨h1,by omega,h4,h5,by omega,by omega,by omega,by omega⟩
theorem plan_ok:(q.s.plan []).1=0:=rfl
theorem fit_plan (h:FitQ p q t):FitQ p { q with s:=(q.s.plan []).2 } t:=by
 refine ⟨AR0 h.good (At0 h.good.good) (fun f h1 h2=>?_) (fun f hf=>?_),AO0 h.ok _,fun f hf=>?_,h.n,h.pg⟩
 ·exact h.good.kind f h1 h2
 ·exact heldK h.good hf
 ·exact h.out f hf
theorem BG7 (h:D7 q) (hl:q.s.l=[]) (ho:OutW q):∀ m,m≤q.pg→OutW (q.fres m)
 | 0,_=>ho
 | m+1,hm=>BW7 (BW8 (AY6 h hl m (by omega)).1 (m:Nat)) (BG7 h hl ho m (by omega))
theorem fres_end (h:D7 q) (hl:q.s.l=[]) (ho:OutW q):(q.fres q.pg).inN=0∧(q.fres q.pg).outN=0∧(q.fres q.pg).idle=q.idle∧AA2 (q.fres q.pg).s.K 2 1024=q.idle:=by
 obtain ⟨g1,g2,g3,g4,g5,g6,g7,g8⟩:=AY6 h hl q.pg (Nat.le_refl _)
 have e1:(q.fres q.pg).inN=0:=by
  unfold Sw.inN
  refine AG6 fun p hp=>?_
  rw [g5,List.mem_range] at hp
  have:=(g6 p hp).1
  rw [decide_eq_false_iff_not];omega
 have e2:(q.fres q.pg).outN=0:=by
  unfold Sw.outN
  refine AG6 fun p hp=>?_
  rw [g5,List.mem_range] at hp
  have:=(g6 p hp).2
  rw [decide_eq_false_iff_not];omega
 have e3:(q.fres q.pg).idle=q.idle:=by
  unfold Sw.idle
  rw [g3,g4]
  congr 1
  refine List.filter_congr fun f _=>?_
  rw [g8]
  have hno:¬ (q.fres q.pg).heldF f:=by
   rintro ⟨p,hp,he⟩
   rw [g5] at hp
   have:=(g6 p hp).1
   omega
  by_cases c:q.heldF f
  ·rw [if_pos (show ∃ p,p < q.pg∧q.F p=((f:Nat):Int) from c)]
   simp [c]
  ·rw [if_neg (show ¬ ∃ p,p < q.pg∧q.F p=((f:Nat):Int) from c)]
   simp [c,hno]
 refine ⟨e1,e2,e3,?_⟩
 have:=(fitsW g1 (BG7 h hl ho _ (Nat.le_refl _))).1
 omega
end
end Go.Pol
namespace Go.Pol
open Go.Am Go.Proofs.Ytbhgfoikbkaohaa.Sh
def lastS (q:Sw):Nat→Int
 | 0 => -1
 | j+1=>((nth 0 q.slots j:Nat):Int)
theorem last_0 {q:Sw}:lastS q 0 = -1:=rfl
theorem mapP_nil:MapP []:=by have:=A9 (L:=[]) G5;rwa [U7] at this
theorem last_lt {q:Sw}:∀ {j:Nat},j < q.slots.length→lastS q j < ((nth 0 q.slots j:Nat):Int)
 | 0,_=>by show (-1:Int) < _;omega
 | j+1,h=>by
  have:=List.pairwise_iff_getElem.1 (BD3 (w:=q)) j (j+1) (by omega) h (by omega)
  show ((nth 0 q.slots j:Nat):Int) < _
  rw [J8 (by omega:j < q.slots.length),J8 h]
  omega
def boE (b:Bool):AV:=.bool b
theorem Aq9 (b:Bool):Plain (boE b):=D9
def As3 (q:Sw):Nat→Int
 | 0 => -1
 | j+1=>((nth 0 q.pages j:Nat):Int)
theorem lastP_0 {q:Sw}:As3 q 0 = -1:=rfl
theorem lastP_lt {q:Sw}:∀ {j:Nat},j < q.pages.length→As3 q j < ((nth 0 q.pages j:Nat):Int)
 | 0,_=>by show (-1:Int) < _;omega
 | j+1,h=>by
  have:=List.pairwise_iff_getElem.1 (Ak3 (w:=q)) j (j+1) (by omega) h (by omega)
  show ((nth 0 q.pages j:Nat):Int) < _
  rw [J8 (by omega:j < q.pages.length),J8 h]
  omega
theorem page_lt {q:Sw} {j:Nat} (h:j < q.pages.length):nth 0 q.pages j < q.pg:=by
 have:=AG0 (d:=0) h
 unfold Sw.pages at this
 exact List.mem_range.1 (List.mem_filter.1 this).1
theorem useL_len {q:Sw} (hg:D7 q):(Ao2 q q.pages.length).length=q.dsk.length:=by rw [use_all hg,AU4]
structure LdF (q:Sw) (j:Nat) (e:Int × Int × Int × Int):Prop where
 nt:nth d4 q.whr j=e
 hp:0≤e.1∧e.1 < (q.pg:Nat)
 hl:As3 q j < e.1
 hz:0≤e.2.2.2∧e.2.2.2≤1000000000000
 ha:((q.a:Nat):Int)≤e.2.1∧e.2.1 < (q.a:Nat)+(q.n:Nat)
 hs:e.2.2.1 = -1
 hH:mgI (AT9 q j) e.2.1=none
 hD:mgI q.dsk e.2.2.1=none
 mH:mpI (AT9 q j) e.2.1 e.1=AT9 q j++[(e.2.1,e.1)]
 sH:AT9 q (j+1)=AT9 q j++[(e.2.1,e.1)]
 sU:Ao2 q (j+1)=Ao2 q j
 mW:mpI (q.whr.take j) e.1 e.2=q.whr.take j++[e]
 sW:q.whr.take (j+1)=q.whr.take j++[e]
 nx:As3 q (j+1)=e.1
structure LdT (q:Sw) (j:Nat) (e:Int × Int × Int × Int) (x:Nat→Int):Prop where
 nt:nth d4 q.whr j=e
 hp:0≤e.1∧e.1 < (q.pg:Nat)
 hl:As3 q j < e.1
 hz:0≤e.2.2.2∧e.2.2.2≤1000000000000
 hf:e.2.1 = -1
 ht:0≤e.2.2.1
 hH:mgI (AT9 q j) e.2.1=none
 hD:mgI q.dsk e.2.2.1=some x
 hU:mgI (Ao2 q j) e.2.2.1=none
 mU:mpI (Ao2 q j) e.2.2.1 true=Ao2 q j++[(e.2.2.1,true)]
 sU:Ao2 q (j+1)=Ao2 q j++[(e.2.2.1,true)]
 sH:AT9 q (j+1)=AT9 q j
 mW:mpI (q.whr.take j) e.1 e.2=q.whr.take j++[e]
 sW:q.whr.take (j+1)=q.whr.take j++[e]
 nx:As3 q (j+1)=e.1
theorem ld_cases {q:Sw} (hg:D7 q) {j:Nat} (h:j < q.pages.length):(∃ e,LdF q j e)∨∃ e x,LdT q j e x:=by
 have h1:=page_lt h
 have h2:=lastP_lt h
 have h3:=hg.st (nth 0 q.pages j)
 have h4:=AZ6 h
 have h5:=whr_s h
 have h6:=hel_s h
 have h7:=use_s h
 have h8:As3 q (j+1)=((nth 0 q.pages j:Nat):Int):=rfl
 have h9:=BV5 (d:=d4) (BP2 (q:=q)) (j:=j) (by rw [AD3];exact h)
 have hD0:mgI q.dsk (-1)=none:=AW8 (Ai3 hg) (by omega)
 rw [h4] at h9
 unfold whE at h4 h5 h9
 by_cases c:0≤q.F (nth 0 q.pages j)
 ·have hn:=hel_new hg h c
  obtain ⟨f,f1,f2,f3,_⟩:=O8 hg c
  have hT:q.T (nth 0 q.pages j) = -1:=by rcases AU9 hg (nth 0 q.pages j) with e|e<;>omega
  rw [if_pos c] at h6 h7
  rw [List.append_nil] at h7
  rw [f1] at h4 h5 h6 h9 hn
  rw [hT] at h4 h5 h9
  exact .inl ⟨_,h4,⟨Int.natCast_nonneg _,Int.ofNat_lt.2 h1⟩,h2,h3,⟨Int.ofNat_le.2 f2,by show ((f:Nat):Int) < _;omega⟩,rfl,hn,hD0,Ab5 hn,h6,h7,Ab5 h9,h5,h8⟩
 ·have hF:q.F (nth 0 q.pages j) = -1:=by rcases Ao0 hg (nth 0 q.pages j) with e|e<;>omega
  have hn:=use_new hg h c
  have ht:0≤q.T (nth 0 q.pages j):=(BF4 hg h).resolve_left c
  obtain ⟨k,hk⟩:=Int.eq_ofNat_of_zero_le ht
  have hD:=AN4 hg (Ai3 hg) hk
  rw [if_neg c] at h6 h7
  rw [List.append_nil] at h6
  rw [hk] at h4 h5 h7 h9 hn ht
  rw [hF] at h4 h5 h9
  exact .inr ⟨_,_,h4,⟨Int.natCast_nonneg _,Int.ofNat_lt.2 h1⟩,h2,h3,rfl,ht,hel_neg,hD,hn,Ab5 hn,h7,h6,Ab5 h9,h5,h8⟩
theorem slot_lt {q:Sw} {j:Nat} (h:j < q.slots.length):nth 0 q.slots j < q.sl:=by
 have:=AG0 (d:=0) h
 unfold Sw.slots at this
 exact List.mem_range.1 (List.mem_filter.1 this).1
end Go.Pol
namespace Go.Proofs.Ytbhgfoikbkaohaa.Sh
open Go Go.Am Go.Pol
theorem plx_Syh {p:Prop} (h:p:=by ((first|exact plw|(with_reducible first|apply P7|apply G6 _|apply G7 _|apply G5 _|apply Aq9 _|apply u6|apply K6|apply L6|apply M4|apply AI4 _|apply W9 _|apply AE7|apply V4|apply F9 Q7|apply F9 AB2|apply AQ3 _|apply H9 V3|apply Ak0|apply Aq4|fail)|fail);first|done|fail)):p:=h
theorem ppx_Syh {p:Prop} (h:p:=by ((first|with_reducible assumption|(with_reducible first|apply F3|apply AK6|apply AI3|apply AD2|apply AJ0|apply AE0 _|apply AB3 _|apply hpy|apply hy|apply Aa8 _|fail)|exact ppw|fail);first|done|fail)):p:=h
open Go.Proofs.Ytbhgfoikbkaohaa.Sh renaming plx_Syh → plx
open Go.Proofs.Ytbhgfoikbkaohaa.Sh renaming ppx_Syh → ppx
theorem wx_Syh {p q:Prop} (hq:q) (h:Z7 q→p:=by (intro hQz;((repeat' ((try (conv=>whnf));first|refine sxA ?_|refine x9 hp rfl ?_|refine AC6 hp rfl ?_|refine sxF ?_|refine M0 hc rfl (by decide) ?_|refine N9 hst ?_|refine M0 hkd rfl (by decide) ?_|refine sxH ?_|((with_reducible first|apply U8 hQz|apply U9 hQz)<;>(try intro hsp hQz))|exact hQz.out))<;>(try (conv=>whnf))))):p:=h ⟨hq⟩
theorem wx_Syhn {p q:Prop} (hq:q) (h:Z7 q→p:=by (intro hQz;((repeat' ((try (conv=>whnf));first|(with_reducible first|refine M7 ?_|refine I8 ?_|refine O1 ?_|refine O5 ?_|refine J5 ?_|refine R3 ?_|refine M5 ?_|refine Q9 rfl ?_|refine M6 ?_|refine G9 ?_|refine J3 ?_|refine J4 ?_|refine O4 ?_|refine G8 ?_|refine I9 (by decide +kernel) ?_|refine I6 (by decide +kernel) ?_|refine AH0 ?_|refine AH1 ?_|refine Av0 ?_|refine l6 ?_|refine AK3 ?_|refine An2 (by assumption) ?_|refine An3 (by assumption) ?_|refine l5 (by omega) ?_|refine AK1 ?_)|((with_reducible refine AK4 ?_ ?_);focus omega)|((with_reducible refine AK5 ?_ ?_);focus omega)|((with_reducible apply U8 hQz)<;>(try intro hsp hQz))|((with_reducible refine Au7 ?_ ?_);focus (first|omega|rfl|assumption|decide|(simp only [List.length_map,List.length_cons,List.length_nil];omega)|(simp only [List.length_cons];omega)))|(with_reducible first|refine AJ7 ?_|refine j6 ?_|refine j5 ?_|refine AJ9 ?_|refine AJ8 ?_|refine AJ5 ?_|refine At7 ?_|refine H7 ?_|refine d9 ?_|refine N7 ?_|refine M9 ?_|refine H8 ?_|refine AJ6 (by omega) ?_|refine j4 (by omega) ?_)|refine AG9 (d:=d5) AO4 (by first|assumption|omega) hnt ?_|refine AA1 (by rw [AO4];omega) List.drop_zero (Z4 (by rw [AO4];omega) (List.take_of_length_le (by rw [AO4];omega)) ?_)|refine Z4 (cs:=bcA (q.D k)) (m:=64) (Nat.le_of_eq X7.symm) An4 ?_|refine AA1 (cs:=bcA (q.D k)) (Nat.zero_le _) List.drop_zero (Z4 (cs:=bcA (q.D k)) (m:=64) (Nat.le_of_eq X7.symm) An4 ?_)|refine u7 (by first|(simp only [List.length_cons,List.length_nil];omega)|fail) (BV3 hyl) ?_|refine AQ7 rfl (q.D k) rfl ?_|refine AG9 (d:=d4) Aj2 (by first|assumption|omega) hnt ?_|refine AC6 hH rfl ?_|refine Ar9 hD Aw4 rfl ?_|refine ⟨X7,?_⟩|refine u7 (by simp only [List.length_replicate,X7];omega) hov ?_|refine AQ7 rfl e.1 rfl ?_|refine AQ7 rfl e.2 rfl ?_|refine x9 hD rfl ?_|refine As0 hU rfl ?_|refine AQ7 rfl true rfl ?_|refine BF7 rfl ?_|refine sxN ?_|refine sxH ?_|((with_reducible apply U9 hQz)<;>(try intro hsp hQz))|exact hQz.out))<;>(try (conv=>whnf))))):p:=h ⟨hq⟩
set_option maxRecDepth 20000 in
theorem w_Load {q:Sw} (hg:D7 q):BN7 23 [.agg q.save] q.s q ⟨q.whr,q.dsk,AT9 q q.pages.length⟩:=by
 have hrng:=hg.rng
 have hcnt:=hg.cnt
 have hpl1:=Ar1 hg
 have hpl2:=Aa6 hg
 have hc:=AL6 hg.good
 have hst:=AY5 (q.a:Nat) (q.n:Nat) (q.pg:Nat) (q.sl:Nat)
 rw [decide_eq_true (show U3 (q.a:Nat) (q.n:Nat) (q.pg:Nat) (q.sl:Nat) by unfold U3;omega)] at hst
 unfold Sy.counts at hc
 refine BN7.mk (H6 F6 b23 rfl ?_) (R5 (H9 V3))
 unfold c23
 unfold Sw.save BK2
 generalize AA2 q.s.K 0 1024=n0 at *
 generalize AA2 q.s.K 1 1024=n1 at *
 generalize AA2 q.s.K 2 1024=n2 at *
 generalize AA2 q.s.K 3 1024=n3 at *
 generalize cntG q.s.G 64=n4 at *
 have hd0:=dsk_0 (w:=q)
 have hz0:=last_0 (q:=q)
 (refine wx_Syh ?_;repeat' (first|with_reducible refine And.intro ?_ ?_|intro hsp))
 (refine Q5 [0,3,8,62,63] (fun (j:Nat)=>[(9,.int .i64 (lastS q j)),(64,.int .i64 (j:Nat))]) (fun (j:Nat)=>⟨[(6,.cells (stC 0 3 4 5 q)),(3,.maps (encW pgE [])),(4,.maps (encW byE (q.dsk.take j))),(5,.maps (encW nuE [])),(0,.cells q.s.a),(1,.cells [.int .i64 (q.a:Nat),.int .i64 (q.n:Nat),.int .i64 (q.pg:Nat),.int .i64 (q.sl:Nat),.isl (q.whr.map swA),.isl (q.dsk.map swD),.int .i64 q.ins,.int .i64 q.outs])],7⟩) (fun (j:Nat)=>j≤q.slots.length) (fun (j:Nat)=>q.slots.length - j) (0) [] rfl (fun _=>by first|exact Nat.zero_le _|(dsimp only;omega)) ?_ (by ((try (conv=>whnf));(rw [hd0,hz0,U7,U7,U7]);exact Ai4)) ?_)
 ·exact Nat.zero_le _
 intro j hj
 have hdl:=AU4 (w:=q)
 by_cases hjl:j < q.slots.length
 ·have hnt:=dsk_nth (q:=q) hjl
  have hlt:=last_lt (q:=q) hjl
  have hsl:=slot_lt (q:=q) hjl
  have hws:=dsk_s hjl
  have hnx:lastS q (j+1)=((nth 0 q.slots j:Nat):Int):=rfl
  have hmn:=BV5 (d:=d5) (dsk_nd (q:=q)) (j:=j) (by rw [hdl];exact hjl)
  rw [hnt] at hmn
  unfold dkE at hnt hws hmn
  generalize nth 0 q.slots j=k at *
  have hmp:=Ab5 (v:=q.D k) hmn
  dsimp only at hmp
  have hyl:(bcA (q.D k)).length=64:=X7
  unfold stC
  (refine wx_Syhn ?_;repeat' (first|with_reducible refine And.intro ?_ ?_|intro hsp))
  all_goals first|(exfalso;omega)|(exfalso;dsimp only at hsp;omega)|exact I4 (j+1) [] (by (try dsimp only);omega) (by first|omega|(dsimp only;omega)) rfl (by ((try dsimp only);rw [hws,hmp,hnx]);exact Ai4)
 ·obtain rfl:j=q.slots.length:=by omega
  rw [dsk_all]
  have hw0:=whr_0 (w:=q)
  have hl0:=lastP_0 (q:=q)
  have hh0:=hel_0 (q:=q)
  have hu0:=use_0 (q:=q)
  clear hd0 hz0
  unfold stC
  (refine wx_Syh ?_;repeat' (first|with_reducible refine And.intro ?_ ?_|intro hsp))
  all_goals first|(exfalso;omega)|skip
  (refine Q5 [0,3,8,12,92,93] (fun (j:Nat)=>[(9,.int .i64 (As3 q j)),(94,.int .i64 (j:Nat))]) (fun (j:Nat)=>⟨[(6,.cells (stC 0 3 4 5 q)),(3,.maps (encW pgE (q.whr.take j))),(4,.maps (encW byE q.dsk)),(5,.maps (encW nuE (AT9 q j))),(7,.maps (encW boE (Ao2 q j))),(0,.cells q.s.a),(1,.cells [.int .i64 (q.a:Nat),.int .i64 (q.n:Nat),.int .i64 (q.pg:Nat),.int .i64 (q.sl:Nat),.isl (q.whr.map swA),.isl (q.dsk.map swD),.int .i64 q.ins,.int .i64 q.outs])],8⟩) (fun (j:Nat)=>j≤q.pages.length) (fun (j:Nat)=>q.pages.length - j) (0) [] rfl (fun _=>by first|exact Nat.zero_le _|(dsimp only;omega)) ?_ (by ((try (conv=>whnf));(rw [hw0,hl0,hh0,hu0,U7,U7,U7]);exact Ai4)) ?_)
  ·exact Nat.zero_le _
  intro j hj
  clear hw0 hl0 hh0 hu0
  have hwl:=AD3 (w:=q)
  by_cases hjl:j < q.pages.length
  ·rcases ld_cases hg hjl with ⟨e,hL⟩ | ⟨e,x,hL⟩
   ·obtain ⟨hnt,hp,hl,hz,ha,hs,hH,hD,mH,sH,sU,mW,sW,hnx⟩:=hL
    have hov:=AF9 (x:=fun _=>0)
    unfold stC
    (refine wx_Syhn ?_;repeat' (first|with_reducible refine And.intro ?_ ?_|intro hsp))
    all_goals first|(exfalso;omega)|exact I4 (j+1) [] (by (try dsimp only);omega) (by first|omega|(dsimp only;omega)) rfl (by ((try dsimp only);rw [sW,mW,sH,mH,sU,hnx]);exact Ai4)
   ·obtain ⟨hnt,hp,hl,hz,hf,ht,hH,hD,hU,mU,sU,sH,mW,sW,hnx⟩:=hL
    have hov:=AF9 (x:=x)
    unfold stC
    (refine wx_Syhn ?_;repeat' (first|with_reducible refine And.intro ?_ ?_|intro hsp))
    all_goals first|(exfalso;omega)|exact I4 (j+1) [] (by (try dsimp only);omega) (by first|omega|(dsimp only;omega)) rfl (by ((try dsimp only);rw [sW,mW,sH,sU,mU,hnx]);exact Ai4)
  ·obtain rfl:j=q.pages.length:=by omega
   rw [Ai8]
   have huL:=useL_len hg
   have hWO:=Ai3 hg
   have hdl:=AU4 (w:=q)
   unfold stC
   (refine wx_Syhn ?_;repeat' (first|with_reducible refine And.intro ?_ ?_|intro hsp))
   all_goals first|(exfalso;omega)|skip
   (refine Q5 [0,3,8] (fun (i:Nat)=>[(19,.int .i64 ((q.a+i:Nat):Int))]) (fun (i:Nat)=>⟨[(6,.cells (stC 0 3 4 5 q)),(3,.maps (encW pgE q.whr)),(4,.maps (encW byE q.dsk)),(5,.maps (encW nuE (AT9 q q.pages.length))),(0,.cells q.s.a),(1,.cells [.int .i64 (q.a:Nat),.int .i64 (q.n:Nat),.int .i64 (q.pg:Nat),.int .i64 (q.sl:Nat),.isl (q.whr.map swA),.isl (q.dsk.map swD),.int .i64 q.ins,.int .i64 q.outs])],7⟩) (fun (i:Nat)=>i≤q.n) (fun (i:Nat)=>q.n - i) (0) [] rfl (fun _=>by first|exact Nat.zero_le _|(dsimp only;omega)) ?_ (by ((try (conv=>whnf));exact Ai4)) ?_)
   ·exact Nat.zero_le _
   intro i hi
   by_cases hil:i < q.n
   ·have hkd:=BF0 (s:=q.s) (a:=(q.a+i:Nat))
    have hhd:=held_H hWO hg (f:=q.a+i)
    have hM:=(hg.kind (q.a+i) (by omega) (by omega)).2
    dsimp only at hhd
    by_cases hh:q.heldF (q.a+i)
    ·rw [AC7 (by omega) (heldK hg hh),hM] at hkd
     rw [decide_eq_true hh] at hhd
     obtain ⟨p,hp⟩:=Option.isSome_iff_exists.1 hhd
     unfold stC
     (refine wx_Syh ?_;repeat' (first|with_reducible refine And.intro ?_ ?_|intro hsp))
     all_goals first|(exfalso;omega)|exact I4 (i+1) [] (by (try dsimp only);omega) (by first|omega|(dsimp only;omega)) rfl (by exact Ai4)
    ·rw [decide_eq_false hh] at hhd
     have hp:mgI (AT9 q q.pages.length) ((q.a+i:Nat):Int)=none:=Option.not_isSome_iff_eq_none.1 (by rw [hhd];exact Bool.false_ne_true)
     rcases (hg.kind (q.a+i) (by omega) (by omega)).1 with hk|hk
     ·rw [AC7 (by omega) hk,hM] at hkd
      unfold stC
      (refine wx_Syh ?_;repeat' (first|with_reducible refine And.intro ?_ ?_|intro hsp))
      all_goals first|(exfalso;omega)|exact I4 (i+1) [] (by (try dsimp only);omega) (by first|omega|(dsimp only;omega)) rfl (by exact Ai4)
     ·rw [AC7 (by omega) hk,hM] at hkd
      unfold stC
      (refine wx_Syh ?_;repeat' (first|with_reducible refine And.intro ?_ ?_|intro hsp))
      all_goals first|(exfalso;omega)|exact I4 (i+1) [] (by (try dsimp only);omega) (by first|omega|(dsimp only;omega)) rfl (by exact Ai4)
   ·obtain rfl:i=q.n:=by omega
    unfold stC
    (refine wx_Syh ?_;repeat' (first|with_reducible refine And.intro ?_ ?_|intro hsp))
    all_goals first|(exfalso;omega)|exact end_Wg (q:=q) (t:=⟨q.whr,q.dsk,AT9 q q.pages.length⟩) [(1,6),(2,3),(3,4),(4,5)] 1 2 3 4 0 rfl (by decide) rfl (by decide) (fun hs=>AZ5 (D6 (Z8 (i:=1) rfl (show 1 < 5 by decide)) (D6 (K5 rfl) K4))) rfl rfl rfl rfl rfl
end Go.Proofs.Ytbhgfoikbkaohaa.Sh
namespace Go.Proofs.Ytbhgfoikbkaohaa.Sh
open Go Go.Am Go.Pol
open Go.Proofs.Ytbhgfoikbkaohaa.Sh renaming plx_Syd → plx
open Go.Proofs.Ytbhgfoikbkaohaa.Sh renaming ppx_Syd → ppx
theorem wx_Syj {p q:Prop} (hq:q) (h:Z7 q→p:=by (intro hQz;((repeat' ((try (conv=>whnf));first|refine sxA ?_|refine AG9 (d:=dSA) BD6 (by first|assumption|omega) (by with_reducible assumption) ?_|refine sxF ?_|refine N9 hf ?_|refine N9 hsh ?_|refine N9 hb ?_|refine cx_BE hb ?_|refine cx_WB hb ?_|refine cx_A hA rfl rfl rfl rfl rfl (by decide) rfl ?_|refine AM8 hC rfl rfl rfl rfl rfl (by decide) rfl ?_|refine M0 hP rfl (by decide) ?_|refine AM8 hS rfl rfl rfl rfl rfl (by decide) rfl ?_|refine cx_WN hL rfl (by decide) ?_|refine M0 hPl rfl (by decide) ?_|refine AM8 hF rfl rfl rfl rfl rfl (by decide) rfl ?_|refine sxH ?_|((with_reducible first|apply U8 hQz|apply U9 hQz)<;>(try intro hsp hQz))|exact hQz.out))<;>(try (conv=>whnf))))):p:=h ⟨hq⟩
set_option maxRecDepth 20000 in
theorem k_fits (p:SPy) (hl:p.X.length≤maxLen) (hwf:∀ x ∈ p.X,0≤x.w):K9 7 [.agg (Aa5 p)] (.bool true):=by
 have hl:p.X.length≤9223372036854775807:=hl
 obtain ⟨b,hf,hfb⟩:=k_far p hl
 have hsh:=k_shown
 have hpp:=AB3 p
 refine K9.mk (U2 F6 b7 I7 ⟨W9 p,trivial⟩ D9 rfl ?_)
 unfold c7
 have hbg:=l_begun p
 cases b with
 | true =>
  unfold Aa5 at *
  (refine wx_Syj ?_;repeat' (first|with_reducible refine And.intro ?_ ?_|intro hsp))
  all_goals first|exact X5 rfl|(exfalso;omega)
 | false =>
 clear hfb
 rcases hbg with ⟨e,he,-,hb⟩ | ⟨e,ds,he,hb⟩ | ⟨hc,hst,he,hb⟩
 ·unfold Aa5 at *
  (refine wx_Syj ?_;repeat' (first|with_reducible refine And.intro ?_ ?_|intro hsp))
  all_goals first|exact X5 rfl|(exfalso;omega)
 ·unfold Aa5 at *
  (refine wx_Syj ?_;repeat' (first|with_reducible refine And.intro ?_ ?_|intro hsp))
  all_goals first|exact X5 rfl|(exfalso;omega)
 have h0:=fit_new hc hst he
 clear hc hst he
 generalize p.b=b0 at *
 generalize T0=t0 at *
 unfold Aa5 at *
 (refine wx_Syj ?_;repeat' (first|with_reducible refine And.intro ?_ ?_|intro hsp))
 all_goals first|(exfalso;omega)|skip
 (refine Q5 [1,3,4] (fun (z:Nat × Sw × WS)=>[(6,.int .i64 (z.1:Nat))]) (fun (z:Nat × Sw × WS)=>⟨[(0,.cells [.int .i64 p.a,.int .i64 p.n,.int .i64 p.pg,.int .i64 p.sl,.isl (p.l.map rlA),.isl (p.X.map Af7)])]++stN z.2.1 z.2.2 1 2 3 4 5,6⟩) (fun (z:Nat × Sw × WS)=>z.1≤p.X.length∧FitQ p z.2.1 z.2.2) (fun (z:Nat × Sw × WS)=>p.X.length - z.1) ((0,b0,t0)) [] rfl (fun _=>by first|exact Nat.zero_le _|(dsimp only;omega)) ?_ (by ((try (conv=>whnf));exact Y4)) ?_)
 ·exact ⟨Nat.zero_le _,h0⟩
 rintro ⟨i,q,t⟩ ⟨hi,hG⟩
 dsimp only at hi hG ⊢
 clear h0 hb
 by_cases hil:i < p.X.length
 ·have hw0:=hwf _ (AG0 (d:=dSA) hil)
  generalize hx:nth dSA p.X i=x at *
  obtain ⟨t',hO',hA⟩:=l_alone hG.good hG.ok x hw0
  have hG':=fit_al hG x hO'
  generalize q.al x=r at *
  obtain ⟨e,q'⟩:=r
  dsimp only at hA hO' hG'
  have hC:=Aj0 hG'.good hG'.ok
  have hP:=AL6 hG'.good.good
  have hS:=w_Save hG'.good hG'.ok
  have hL:=w_Load hG'.good
  obtain ⟨n1,n2,n3,n4,n5,n6,n7,n8⟩:=fit_nums hG'
  unfold Sw.save BK2 at hS hL
  unfold Sy.counts at hP
  generalize (⟨q'.whr,q'.dsk,AT9 q' q'.pages.length⟩:WS)=tl at hL
  generalize q'.inN=c1 at *
  generalize q'.outN=c2 at *
  generalize q'.idle=c3 at *
  generalize AA2 q'.s.K 0 1024=m0 at *
  generalize AA2 q'.s.K 1 1024=m1 at *
  generalize AA2 q'.s.K 2 1024=m2 at *
  generalize AA2 q'.s.K 3 1024=m3 at *
  generalize cntG q'.s.G 64=m4 at *
  clear hwf hO'
  unfold stN stC
  (refine wx_Syj ?_;repeat' (first|with_reducible refine And.intro ?_ ?_|intro hsp))
  all_goals first|(exfalso;omega)|exact I4 ((i+1,q',t')) [] ⟨hil,hG'⟩ (by first|omega|(dsimp only;omega)) rfl (by exact Y4)
 ·have hC:=Aj0 hG.good hG.ok
  have hPl:=n_plan q.s
  have hG1:=fit_plan hG
  have hpg:=hG.pg
  have hrg:=hG.good.rng
  have hid:({ q with s:=(q.s.plan []).2 }:Sw).idle=q.idle:=rfl
  have hp1:({ q with s:=(q.s.plan []).2 }:Sw).pg=q.pg:=rfl
  have hl1:({ q with s:=(q.s.plan []).2 }:Sw).s.l=[]:=rfl
  have hQ0:({ q with s:=(q.s.plan []).2 }:Sw).fres 0={ q with s:=(q.s.plan []).2 }:=rfl
  have hQs:∀ m:Nat,({ q with s:=(q.s.plan []).2 }:Sw).fres (m+1)=((({ q with s:=(q.s.plan []).2 }:Sw).fres m).fre (m:Nat)).2:=fun _=>rfl
  have hQg:∀ m,m≤q.pg→D7 (({ q with s:=(q.s.plan []).2 }:Sw).fres m):=fun m hm=>(AY6 hG1.good hl1 m hm).1
  obtain ⟨g1,g2,g3,g4⟩:=fres_end hG1.good hl1 hG1.out
  rw [hp1] at g1 g2 g3 g4
  rw [hid] at g3 g4
  have hO1:=hG1.ok
  rw [plan_ok] at hPl
  generalize ({ q with s:=(q.s.plan []).2 }:Sw).fres=Q at *
  generalize (q.s.plan []).2=s1 at *
  generalize q.inN=c1 at *
  generalize q.outN=c2 at *
  generalize q.idle=c3 at *
  clear hG1 hid hp1 hl1 hwf
  unfold stN stC
  (refine wx_Syj ?_;repeat' (first|with_reducible refine And.intro ?_ ?_|intro hsp))
  all_goals first|(exfalso;omega)|skip
  (refine Q5 [1,3,4,17] (fun (m:Nat × WS)=>[(19,.int .i64 (m.1:Nat))]) (fun (m:Nat × WS)=>⟨[(0,.cells [.int .i64 p.a,.int .i64 p.n,.int .i64 p.pg,.int .i64 p.sl,.isl (p.l.map rlA),.isl (p.X.map Af7)])]++stN (Q m.1) m.2 1 2 3 4 5,6⟩) (fun (m:Nat × WS)=>m.1≤q.pg∧WOk (Q m.1) m.2) (fun (m:Nat × WS)=>q.pg - m.1) ((0,t)) [] rfl (fun _=>by first|exact Nat.zero_le _|(dsimp only;omega)) ?_ (by ((try (conv=>whnf));(rw [hQ0]);exact Y4)) ?_)
  ·exact ⟨Nat.zero_le _,by rw [hQ0];exact hO1⟩
  rintro ⟨m,t⟩ ⟨hm,hO⟩
  dsimp only at hm hO ⊢
  clear hC hPl hO1 hQ0
  by_cases hml:m < q.pg
  ·obtain ⟨t',hF,hO'⟩:=BP6 (hQg m hm) hO (m:Nat)
   have hQ1:=hQs m
   rw [← hQ1] at hF hO'
   clear hQ1 hQs
   unfold stN stC
   (refine wx_Syj ?_;repeat' (first|with_reducible refine And.intro ?_ ?_|intro hsp))
   all_goals first|(exfalso;omega)|exact I4 ((m+1,t')) [] ⟨hml,hO'⟩ (by first|omega|(dsimp only;omega)) rfl (by exact Y4)
  ·obtain rfl:m=q.pg:=by omega
   have hC:=Aj0 (hQg _ (Nat.le_refl _)) hO
   have hP:=AL6 (hQg _ (Nat.le_refl _)).good
   unfold Sy.counts at hP
   rw [g1,g2,g3] at hC
   rw [g4] at hP
   clear hQs hQg hO
   generalize Q q.pg=q1 at *
   generalize AA2 q1.s.K 0 1024=m0 at *
   generalize AA2 q1.s.K 1 1024=m1 at *
   generalize AA2 q1.s.K 3 1024=m3 at *
   generalize cntG q1.s.G 64=m4 at *
   unfold stN stC
   (refine wx_Syj ?_;repeat' (first|with_reducible refine And.intro ?_ ?_|intro hsp))
   all_goals first|(exfalso;omega)|exact X5 rfl
end Go.Proofs.Ytbhgfoikbkaohaa.Sh
namespace Go.Am
open Go.ChangeShapes Go.WideShapes Go.ChangeAt Go.RowKit
inductive Ty where
 | bool|int (k:IntKind)|str|slice (e:Ty)|nil|cons (a b:Ty)|struct (T:Ty)|arr (k:IntKind) (n:Nat)
def Ty.size:Ty→Nat
 | .bool=>1
 | .int _=>1
 | .str=>1
 | .slice _=>1
 | .nil=>0
 | .cons a b=>a.size+b.size
 | .struct T=>T.size
 | .arr _ n=>n
def Ae7 (P:Program):Ty→(TypeId→Bool) × (Nat→List Field→Bool)
 | .bool=>(fun t=>match P.underlying t with|some .bool=>true|_=>false,fun _ _=>false)
 | .int k=>(fun t=>match P.underlying t with|some (.int k')=>decide (k=k')|_=>false,fun _ _=>false)
 | .str=>(fun t=>match P.underlying t with|some .string=>true|_=>false,fun _ _=>false)
 | .slice e=>(fun t=>match P.underlying t with|some (.slice e')=>(Ae7 P e).1 e' && decide (P.cellsOf e'=e.size) && decide (0 < e.size)|_=>false,fun _ _=>false)
 | .nil=>(fun _=>false,fun _ fs=>match fs with | []=>true|_::_=>false)
 | .cons a b=>(fun _=>false,fun off fs=>match fs with | []=>false|f::r=>decide (f.offset=off) && decide (P.cellsOf f.type=a.size) && (Ae7 P a).1 f.type && (Ae7 P b).2 (off+a.size) r)
 | .struct T=>(fun t=>match P.underlying t with|some (.struct fs)=>decide (P.cellsOf t=T.size) && (Ae7 P T).2 0 fs.toList|_=>false,fun _ _=>false)
 | .arr k n=>(fun t=>match P.underlying t with|some (.array n' e)=>decide (n'=n) && decide (P.cellsOf t=n) && decide (P.cellsOf e=1) && (match P.underlying e with|some (.int k')=>decide (k=k')|_=>false)|_=>false,fun _ _=>false)
def Shp:Ty→List AV→Prop
 | .bool,xs=>∃ b,xs=[.bool b]
 | .int k,xs=>∃ n,xs=[.int k n]∧(Lit.int k n).wf=true
 | .str,xs=>∃ s,xs=[.str s]∧s.size≤maxLen
 | .slice e,xs=>∃ els:List (List AV),xs=[.isl els]∧els.length≤maxLen∧∀ el ∈ els,Shp e el
 | .nil,xs=>xs=[]
 | .cons a b,xs=>∃ ys zs,xs=ys++zs∧Shp a ys∧Shp b zs
 | .struct T,xs=>Shp T xs
 | .arr k n,xs=>∃ l:List Int,xs=l.map (AV.int k)∧l.length=n∧∀ x ∈ l,(Lit.int k x).wf=true
theorem AP2 {α:Type} {p:Nat→α→Prop}:∀ n:Nat,(∀ i,i < n→∃ x,p i x)→∃ l:List α,l.length=n∧∀ i x,l[i]? = some x→p i x
 | 0,_=>⟨[],rfl,fun i x h=>by simp at h⟩
 | n+1,h=>by
  obtain ⟨l,hl,hp⟩:=AP2 n fun i hi=>h i (by omega)
  obtain ⟨x,hx⟩:=h n (by omega)
  refine ⟨l++[x],by simp [hl],fun i y hy=>?_⟩
  rcases Nat.lt_trichotomy i n with hi|rfl|hi
  ·rw [List.getElem?_append_left (by omega)] at hy;exact hp i y hy
  ·rw [List.getElem?_append_right (by omega),hl,Nat.sub_self] at hy;cases hy;exact hx
  ·rw [List.getElem?_eq_none (by simp [hl];omega)] at hy;cases hy
theorem BV4 {k:IntKind} {n:Int}:One (.int k n):=⟨fun _ e=>(by cases e),fun _ e=>(by cases e)⟩
theorem one_bool {b:Bool}:One (.bool b):=⟨fun _ e=>(by cases e),fun _ e=>(by cases e)⟩
theorem one_str {b:ByteArray}:One (.string b):=⟨fun _ e=>(by cases e),fun _ e=>(by cases e)⟩
theorem Ab2 {A:Option Addr} {n m:Nat}:One (.slice A n m):=⟨fun _ e=>(by cases e),fun _ e=>(by cases e)⟩
theorem AS6 {c:Cx} {x:AV} {v:Value} {look:Nat→Option Value} (h:RR c x v) (ho:One v) (hl:look 0=some v):RC1 (RR c) [x] look:=fun j y hy=>by
 cases j with
 | zero=>cases hy;exact ⟨v,hl,h,ho⟩
 | succ j=>cases hy
theorem rc1_app {c:Cx} {xs ys:List AV} {look:Nat→Option Value} (h:RC1 (RR c) xs look) (h':RC1 (RR c) ys fun j=>look (xs.length+j)):RC1 (RR c) (xs++ys) look:=fun j y hy=>by
 by_cases hj:j < xs.length
 ·rw [List.getElem?_append_left hj] at hy;exact h j y hy
 ·rw [List.getElem?_append_right (by omega)] at hy
  obtain ⟨u,hu,hr⟩:=h' _ _ hy
  exact ⟨u,by rw [← hu];congr 1;omega,hr⟩
section
variable {P:Program} {H:Type} {enc:TypeId × Value→H} {spare:Nat→Bool} {held:Bool} {W:World}
def Rd1 (P:Program) (enc:TypeId × Value→H) (spare:Nat→Bool) (held:Bool) (W:World) (T:Ty):Prop:=∀ t,(Ae7 P T).1 t=true→∀ (fuel:Nat) (cs:List Value) (x:DataW H × List MemPlace),DataW.trod enc P W 0 spare held fuel t cs=some x →
  ∃ xs,Shp T xs∧xs.length=T.size∧cs.length=xs.length∧RC1 (RR (AC1 W)) xs fun j=>cs[j]?
def Rd2 (P:Program) (enc:TypeId × Value→H) (spare:Nat→Bool) (held:Bool) (W:World) (T:Ty):Prop:=∀ (off:Nat) (fs:List Field),(Ae7 P T).2 off fs=true→∀ (n:Nat) (cs:List Value),
  (∀ (i:Nat) (f:Field),fs[i]? = some f→∃ x,DataW.trod enc P W 0 spare held n f.type ((cs.drop f.offset).take (P.cellsOf f.type))=some x) →
  ∃ xs,Shp T xs∧xs.length=T.size∧RC1 (RR (AC1 W)) xs fun j=>cs[off+j]?
theorem BL3 {e:Ty} (ih:Rd1 P enc spare held W e):Rd1 P enc spare held W (.slice e):=fun t ht fuel cs x hx=>by
 simp only [Ae7] at ht
 split at ht
 case h_2=>cases ht
 case h_1 e' he' =>
 simp only [Bool.and_eq_true,decide_eq_true_eq] at ht
 obtain ⟨⟨h1,h2⟩,h3⟩:=ht
 rcases DataW.trod_slice he' hx with ⟨rfl,-⟩ | ⟨a,len,cap,elems,rest,n,-,rfl,-,-,hlc,hcm,hel,hE,-,-⟩
 ·refine ⟨[.isl []],⟨[],rfl,Nat.zero_le _,fun el h=>(by cases h)⟩,rfl,rfl,AS6 (Y3.2 ⟨none,0,rfl,Nat.le_refl _,Nat.zero_le _,fun h=>absurd rfl h⟩) Ab2 rfl⟩
 ·rw [h2] at hE
  have hget:∀ i,i < len→∃ ds y,W.cells? 0 (a.add (i * e.size)) e.size=some ds∧DataW.trod enc P W 0 spare held n e' ds=some y:=fun i hi=>by
   have hEi:=hE i hi
   obtain ⟨y,hy⟩:∃ y,elems[i]? = some y:=⟨elems[i]'(by omega),List.getElem?_eq_getElem _⟩
   rw [hy] at hEi
   obtain ⟨ds,hds,hd⟩:=Option.bind_eq_some_iff.1 hEi
   exact ⟨ds,y,hds,hd⟩
  rcases Nat.eq_zero_or_pos len with rfl|hpos
  ·exact ⟨[.isl []],⟨[],rfl,Nat.zero_le _,fun el h=>(by cases h)⟩,rfl,rfl,AS6 (Y3.2 ⟨some a,cap,rfl,Nat.zero_le _,hcm,fun h=>absurd rfl h⟩) Ab2 rfl⟩
  obtain ⟨ab,ao,asp⟩:=a
  have hsp:asp=none:=by
   obtain ⟨ds,y,hds,-⟩:=hget 0 hpos
   obtain ⟨-,hlen,hcell⟩:=World.cells?_some hds
   have hc0:=hcell 0 h3
   rw [List.getElem?_eq_getElem (by omega:0 < ds.length),Nat.zero_mul] at hc0
   have h8:=World.cell?_spot hc0
   simpa [Addr.add] using h8
  subst hsp
  have hx':∀ i,i < len→∃ el,Shp e el∧el.length=e.size∧ab < W.heap.size∧RC1 (RR (AC1 W)) el fun j=>W.cell? ⟨ab,ao+i * e.size+j,none⟩:=fun i hi=>by
   obtain ⟨ds,y,hds,hd⟩:=hget i hi
   obtain ⟨-,hlen,hcell⟩:=World.cells?_some hds
   obtain ⟨el,s1,s2,s3,s4⟩:=ih e' h1 n ds y hd
   have hcell':∀ j,j < e.size→W.cell? ⟨ab,ao+i * e.size+j,none⟩=ds[j]?:=fun j hj=>by
    have:=hcell j hj
    rwa [add_plain,add_plain] at this
   have hc0:=hcell' 0 h3
   rw [List.getElem?_eq_getElem (by omega:0 < ds.length)] at hc0
   have hbl:ab < W.heap.size:=by
    refine Classical.byContradiction fun hlt=>?_
    have hn:W.heap[ab]? = none:=by simp;omega
    simp [World.cell?,hn] at hc0
   refine ⟨el,s1,s2,hbl,s4.imp (fun _ _ h=>h) fun j u hu=>?_⟩
   have hj:j < ds.length:=(List.getElem?_eq_some_iff.1 hu).1
   rw [hcell' j (by omega)]
   exact hu
  obtain ⟨els,hl,hp⟩:=AP2 len hx'
  refine ⟨[.isl els],⟨els,rfl,by omega,fun el h=>?_⟩,rfl,rfl,AS6 (Y3.2 ⟨some ⟨ab,ao,none⟩,cap,by rw [hl],by omega,hcm,fun hne=>?_⟩) Ab2 rfl⟩
  ·obtain ⟨i,hi⟩:=List.mem_iff_getElem?.1 h
   exact (hp i el hi).1
  ·obtain ⟨e0,he0⟩:∃ e0,els[0]? = some e0:=by
    cases els with
    | nil=>exact absurd rfl hne
    | cons y ys=>exact ⟨y,rfl⟩
   exact ⟨ab,ao,e.size,rfl,Av4 (hp 0 e0 he0).2.2.1,fun k el hk=>⟨(hp k el hk).2.1,(hp k el hk).2.2.2⟩⟩
theorem read_all (T:Ty):Rd1 P enc spare held W T∧Rd2 P enc spare held W T:=by
 induction T with
 | bool =>
  refine ⟨fun t ht fuel cs x hx=>?_,fun off fs h=>by cases h⟩
  simp only [Ae7] at ht
  split at ht
  case h_2=>cases ht
  case h_1 he =>
  obtain ⟨b,rfl,-⟩:=DataW.trod_bool he hx
  exact ⟨[.bool b],⟨b,rfl⟩,rfl,rfl,AS6 (RR_bool.2 rfl) one_bool rfl⟩
 | int k =>
  refine ⟨fun t ht fuel cs x hx=>?_,fun off fs h=>by cases h⟩
  simp only [Ae7] at ht
  split at ht
  case h_2=>cases ht
  case h_1 k' he =>
  obtain rfl:=of_decide_eq_true ht
  obtain ⟨n,rfl,-,hw⟩:=DataW.trod_int he hx
  exact ⟨[.int k n],⟨n,rfl,hw⟩,rfl,rfl,AS6 (RR_int.2 rfl) BV4 rfl⟩
 | str =>
  refine ⟨fun t ht fuel cs x hx=>?_,fun off fs h=>by cases h⟩
  simp only [Ae7] at ht
  split at ht
  case h_2=>cases ht
  case h_1 he =>
  obtain ⟨s,rfl,-,hw⟩:=DataW.trod_string he hx
  exact ⟨[.str s],⟨s,rfl,hw⟩,rfl,rfl,AS6 (RR_str.2 rfl) one_str rfl⟩
 | slice e ih=>exact ⟨BL3 ih.1,fun off fs h=>by cases h⟩
 | nil =>
  refine ⟨fun t ht=>(by cases ht),fun off fs h n cs hcs=>?_⟩
  exact ⟨[],rfl,rfl,fun j x hx=>by simp at hx⟩
 | cons a b iha ihb =>
  refine ⟨fun t ht=>(by cases ht),fun off fs h n cs hcs=>?_⟩
  cases fs with
  | nil=>cases h
  | cons f r =>
   simp only [Ae7,Bool.and_eq_true,decide_eq_true_eq] at h
   obtain ⟨⟨⟨h1,h2⟩,h3⟩,h4⟩:=h
   obtain ⟨x,hx⟩:=hcs 0 f rfl
   obtain ⟨ys,s1,s2,s3,s4⟩:=iha.1 f.type h3 n _ x hx
   obtain ⟨zs,r1,r2,r3⟩:=ihb.2 _ r h4 n cs fun i g hg=>hcs (i+1) g hg
   refine ⟨ys++zs,⟨ys,zs,rfl,s1,r1⟩,by simp [s2,r2,Ty.size],rc1_app (s4.imp (fun _ _ h=>h) fun j u hu=>?_) (r3.imp (fun _ _ h=>h) fun j u hu=>?_)⟩
   ·rw [List.getElem?_take] at hu
    split at hu
    ·rw [List.getElem?_drop,h1] at hu;exact hu
    ·cases hu
   ·rw [s2,← hu];congr 1;omega
 | struct T ih =>
  refine ⟨fun t ht fuel cs x hx=>?_,fun off fs h=>by cases h⟩
  simp only [Ae7] at ht
  split at ht
  case h_2=>cases ht
  case h_1 fs he =>
  simp only [Bool.and_eq_true,decide_eq_true_eq] at ht
  obtain ⟨h1,h2⟩:=ht
  obtain ⟨xs,n,-,-,hl,hxl,hf⟩:=DataW.trod_struct he hx
  obtain ⟨ys,s1,s2,s3⟩:=ih.2 0 fs.toList h2 n cs fun i f hfi=>by
   have hfi':fs[i]? = some f:=by simpa using hfi
   have hi:i < fs.size:=(Array.getElem?_eq_some_iff.1 hfi').1
   exact ⟨xs[i]'(by omega),by rw [hf i f hfi'];exact List.getElem?_eq_getElem _⟩
  exact ⟨ys,s1,s2,by rw [hl,h1,s2],s3.imp (fun _ _ h=>h) fun j u hu=>by simpa using hu⟩
 | arr k n =>
  refine ⟨fun t ht fuel cs x hx=>?_,fun off fs h=>by cases h⟩
  simp only [Ae7] at ht
  split at ht
  case h_2=>cases ht
  case h_1 n' e he =>
  simp only [Bool.and_eq_true,decide_eq_true_eq] at ht
  obtain ⟨⟨⟨h1,h2⟩,h3⟩,h4⟩:=ht
  subst h1
  split at h4
  case h_2=>cases h4
  case h_1 k' hk' =>
  obtain rfl:=of_decide_eq_true h4
  obtain ⟨xs,m,-,-,hcl,hn,hel⟩:=DataW.trod_array he hx
  have hget:∀ i,i < n'→∃ z:Int,cs[i]? = some (.int k z)∧(Lit.int k z).wf=true:=fun i hi=>by
   have h0:=hel i hi
   rw [h3,Nat.mul_one] at h0
   obtain ⟨y,hy⟩:∃ y,xs[i]? = some y:=⟨xs[i]'(by omega),List.getElem?_eq_getElem _⟩
   rw [hy] at h0
   obtain ⟨z,e1,-,e3⟩:=DataW.trod_int hk' h0
   refine ⟨z,?_,e3⟩
   have h5:((cs.drop i).take 1)[0]? = some (.int k z):=by rw [e1];rfl
   rwa [List.getElem?_take,if_pos (by omega),List.getElem?_drop,Nat.add_zero] at h5
  obtain ⟨l,hl,hp⟩:=AP2 n' hget
  refine ⟨l.map (AV.int k),⟨l,rfl,hl,fun x hx=>?_⟩,by simp [hl,Ty.size],by rw [hcl,h2];simp [hl],fun j y hy=>?_⟩
  ·obtain ⟨i,hi⟩:=List.mem_iff_getElem?.1 hx
   exact (hp i x hi).2
  ·rw [List.getElem?_map] at hy
   obtain ⟨z,hz,rfl⟩:=Option.map_eq_some_iff.1 hy
   exact ⟨_,(hp j z hz).1,RR_int.2 rfl,BV4⟩
def argV:Ty→List AV→AV
 | .struct _,xs=>.agg xs
 | .arr _ _,xs=>.agg xs
 | _,x::_=>x
 | _,[]=>.undef
theorem An7 {T:Ty} {xs:List AV} {v:Value} (hx:xs.length=1) (hv:v.cells.toList=[v]) (h:RC1 (RR (AC1 W)) xs fun j=>v.cells.toList[j]?):∃ x,xs=[x]∧RR (AC1 W) x v:=by
 match xs,hx with
 | [x],_ =>
  obtain ⟨u,hu,hr,-⟩:=h 0 x rfl
  rw [hv] at hu
  cases hu
  exact ⟨x,rfl,hr⟩
theorem arg_rr {T:Ty} {t:TypeId} {v:Value} {r:Reach} {base:Nat} {d:DataW H} {p:List MemPlace} (hT:(Ae7 P T).1 t=true) (hval:Value.okWide P W r base t v) (hd:DataW.Trod enc P W 0 spare held t v d p):∃ xs,Shp T xs∧RR (AC1 W) (argV T xs) v:=by
 obtain ⟨fuel,hf⟩:=hd
 obtain ⟨xs,s1,s2,s3,s4⟩:=(read_all T).1 t hT fuel _ _ hf
 refine ⟨xs,s1,?_⟩
 cases T with
 | nil=>cases hT
 | cons a b=>cases hT
 | bool =>
  simp only [Ae7] at hT
  split at hT
  case h_2=>cases hT
  case h_1 he =>
  obtain ⟨b,rfl⟩:=okWide_bool he hval
  obtain ⟨x,rfl,hr⟩:=An7 (T:=.bool) s2 rfl s4
  exact hr
 | int k =>
  simp only [Ae7] at hT
  split at hT
  case h_2=>cases hT
  case h_1 k' he =>
  obtain ⟨b,rfl⟩:=okWide_int he hval
  obtain ⟨x,rfl,hr⟩:=An7 (T:=.bool) s2 rfl s4
  exact hr
 | str =>
  simp only [Ae7] at hT
  split at hT
  case h_2=>cases hT
  case h_1 he =>
  obtain ⟨b,rfl⟩:=okWide_string he hval
  obtain ⟨x,rfl,hr⟩:=An7 (T:=.bool) s2 rfl s4
  exact hr
 | slice e =>
  simp only [Ae7] at hT
  split at hT
  case h_2=>cases hT
  case h_1 k' he =>
  obtain ⟨a,l,c,rfl⟩:=okWide_slice he hval
  obtain ⟨x,rfl,hr⟩:=An7 (T:=.bool) s2 rfl s4
  exact hr
 | struct T =>
  simp only [Ae7] at hT
  split at hT
  case h_2=>cases hT
  case h_1 fs he =>
  obtain ⟨cs,rfl,hcs⟩:=okWide_struct he hval
  exact V6.2 ⟨cs,rfl,by simpa [Value.cells] using s3,s4.imp (fun _ _ h=>h) fun j u hu=>by simpa [Value.cells] using hu⟩
 | arr k n =>
  simp only [Ae7] at hT
  split at hT
  case h_2=>cases hT
  case h_1 n' e he =>
  have hcs:∃ cs,v = .agg cs∧cs.size=P.cellsOf t:=by
   simp only [Value.okWide,he] at hval
   obtain ⟨cs,h1,h2,_⟩:=hval
   exact ⟨cs,h1,h2⟩
  obtain ⟨cs,rfl,hcs⟩:=hcs
  exact V6.2 ⟨cs,rfl,by simpa [Value.cells] using s3,s4.imp (fun _ _ h=>h) fun j u hu=>by simpa [Value.cells] using hu⟩
def BJ4:List Ty→List (List AV)→Prop
 | [],[]=>True
 | T::Ts,xs::r=>Shp T xs∧BJ4 Ts r
 | _,_=>False
def tysOk (P:Program):List Ty→List TypeId→Bool
 | [],[]=>true
 | T::Ts,t::ts=>(Ae7 P T).1 t && tysOk P Ts ts
 | _,_=>false
def argVs:List Ty→List (List AV)→List AV
 | T::Ts,xs::r=>argV T xs::argVs Ts r
 | _, _ => []
theorem args_rr {r:Reach} {base:Nat}:∀ {Ts:List Ty} {ts:List TypeId} {vs:List Value} {ds:List (DataW H)} {ps:List MemPlace},tysOk P Ts ts=true→(∀ (j:Nat) t v,ts[j]? = some t→vs[j]? = some v→Value.okWide P W r base t v) →
  DataW.TrodAll enc P W 0 spare held ts vs ds ps→∃ xss,BJ4 Ts xss∧vs.length=(argVs Ts xss).length∧RCs (RR (AC1 W)) (argVs Ts xss) fun j=>vs[j]?
 | [],[],vs,ds,ps,_,_,hd=>by
  obtain ⟨rfl,rfl,rfl⟩:=trodAll_nil hd
  exact ⟨[],trivial,rfl,fun j x hx=>by cases hx⟩
 | T::Ts,t::ts,vs,ds,ps,hT,hv,hd=>by
  obtain ⟨v,vs',d,ds',p,q,rfl,rfl,rfl,h1,h2⟩:=trodAll_cons hd
  simp only [tysOk,Bool.and_eq_true] at hT
  obtain ⟨xs,s1,s2⟩:=arg_rr hT.1 (hv 0 t v rfl rfl) h1
  obtain ⟨xss,r1,r2,r3⟩:=args_rr hT.2 (fun j t v h h'=>hv (j+1) t v h h') h2
  refine ⟨xs::xss,⟨s1,r1⟩,by simp [argVs,r2],fun j x hx=>?_⟩
  cases j with
  | zero=>cases hx;exact ⟨v,rfl,s2⟩
  | succ j=>exact r3 j x hx
theorem Av5 (hl:laidOutB P=true) {W':World} (hb:Below W.heap.size W W') {sp:Nat→Bool}:∀ {ts:List TypeId} {vs:List Value} {ds:List (DataW H)} {ps:List MemPlace},(∀ t ∈ ts,P.readableRec t=true∧t < P.types.size) →
  DataW.TrodAll enc P W 0 (fun _=>true) true ts vs ds ps→(∀ x ∈ ps,x.block < W.heap.size)→(∀ x ∈ ps,sp x.block=true)→DataW.TrodAll enc P W' 0 sp true ts vs ds ps
 | [],vs,ds,ps,_,hd,_,_=>by
  obtain ⟨rfl,rfl,rfl⟩:=trodAll_nil hd
  rfl
 | t::ts,vs,ds,ps,ht,hd,hlt,hsp=>by
  obtain ⟨v,vs',d,ds',p,q,rfl,rfl,rfl,h1,h2⟩:=trodAll_cons hd
  have ht0:=ht t (by simp)
  exact ⟨p,q,WideElems.Trod_stays hl ht0.1 ht0.2 h1 (fun x hx=>hb.same (hlt x (by simp [hx]))) (fun x hx=>hsp x (by simp [hx])),Av5 hl hb (fun t' h'=>ht t' (by simp [h'])) h2 (fun x hx=>hlt x (by simp [hx])) (fun x hx=>hsp x (by simp [hx])),rfl⟩
end
end Go.Am
namespace Go.Proofs.Ytbhgfoikbkaohaa
open Go Go.Am Go.Pol
open Go.ChangeShapes Go.WideShapes Go.ChangeAt Go.WideElems Go.RowKit
theorem own:ownKnob Try.prog.godebug=none:=by kernel_rfl
theorem glo (c:Cx):AN8 G0 c:=fun n cs h=>by cases h
theorem BW1 {α:Type} {f:α→List AV} {q:α→Prop}:∀ {els:List (List AV)},(∀ el ∈ els,∃ c,el=f c∧q c)→∃ l:List α,els=l.map f∧∀ c ∈ l,q c
 | [],_=>⟨[],rfl,fun c hc=>by cases hc⟩
 | el::els,h=>by
  obtain ⟨c,rfl,hq⟩:=h el (List.mem_cons_self ..)
  obtain ⟨l,rfl,hl⟩:=BW1 fun e he=>h e (List.mem_cons_of_mem _ he)
  exact ⟨c::l,rfl,fun d hd=>(List.mem_cons.1 hd).elim (fun e=>e▸hq) (hl d)⟩
theorem wf_u8 {n:Int} (h:(Lit.int .u8 n).wf=true):∃ m:Nat,n=(m:Int)∧m < 256:=by
 simp [Lit.wf,IntKind.min,IntKind.max,IntKind.signed,IntKind.bits] at h
 exact ⟨n.toNat,by omega,by omega⟩
theorem wf_i64 {n:Int} (h:(Lit.int .i64 n).wf=true):-9223372036854775808≤n∧n≤9223372036854775807:=by
 simp [Lit.wf,IntKind.min,IntKind.max,IntKind.signed,IntKind.bits] at h
 omega
def i64 (n:Int):Prop:=-9223372036854775808≤n∧n≤9223372036854775807
theorem shp_one {T:Ty}:∀ {xss:List (List AV)},BJ4 [T] xss→∃ xs,xss=[xs]∧Shp T xs
 | [xs],h=>⟨xs,rfl,h.1⟩
 | [],h=>h.elim
 | _::_::_,h=>h.2.elim
def rlT:Ty:=.struct (.cons (.int .i64) (.cons (.int .i64) (.cons (.int .i64) (.cons (.int .i64) .nil))))
def planT:Ty:=.struct (.cons (.slice rlT) .nil)
def actT:Ty:=.struct (.cons (.int .u8) (.cons (.int .i64) (.cons (.int .i64) (.cons (.int .i64) (.cons (.int .u8) (.cons planT .nil))))))
def BU4:Ty:=.struct (.cons (.int .i64) (.cons (.int .i64) (.cons (.int .i64) (.cons (.int .i64) (.cons planT (.cons (.slice actT) .nil))))))
def okA (x:SAc):Prop:=0≤x.w∧0≤x.v∧x.v < 256
theorem shp_rl {xs:List AV} (h:Shp rlT xs):∃ x:Rl,xs=rlA x:=by
 obtain ⟨y1,z1,rfl,⟨a,rfl,-⟩,y2,z2,rfl,⟨b,rfl,-⟩,y3,z3,rfl,⟨c,rfl,-⟩,y4,z4,rfl,⟨d,rfl,-⟩,rfl⟩:=h
 exact ⟨⟨a,b,c,d⟩,rfl⟩
theorem BD4 {xs:List AV} (h:Shp planT xs):∃ l:List Rl,xs=[AV.isl (l.map rlA)]:=by
 obtain ⟨y1,z1,rfl,⟨els,rfl,hl,he⟩,rfl⟩:=h
 obtain ⟨l,rfl,-⟩:=BW1 (f:=rlA) (q:=fun _=>True) fun el hel=>(shp_rl (he el hel)).imp fun _ h=>⟨h,trivial⟩
 exact ⟨l,rfl⟩
theorem shp_act {xs:List AV} (h:Shp actT xs):∃ x:SAc,xs=Af7 x∧okA x:=by
 obtain ⟨y1,z1,rfl,⟨w,rfl,hw⟩,y2,z2,rfl,⟨p,rfl,-⟩,y3,z3,rfl,⟨n,rfl,-⟩,y4,z4,rfl,⟨t,rfl,-⟩,y5,z5,rfl,⟨b,rfl,hb⟩,y6,z6,rfl,h6,rfl⟩:=h
 obtain ⟨m,rfl,hm⟩:=wf_u8 hw
 obtain ⟨v,rfl,hv⟩:=wf_u8 hb
 obtain ⟨l,rfl⟩:=BD4 h6
 exact ⟨⟨(m:Nat),p,n,t,(v:Nat),l⟩,rfl,Int.natCast_nonneg m,Int.natCast_nonneg v,by show ((v:Nat):Int) < 256;omega⟩
theorem shp_play {xs:List AV} (h:Shp BU4 xs):∃ p:SPy,xs=Aa5 p∧p.X.length≤maxLen∧(∀ x ∈ p.X,okA x)∧i64 p.n:=by
 obtain ⟨y1,z1,rfl,⟨a,rfl,-⟩,y2,z2,rfl,⟨n,rfl,hn⟩,y3,z3,rfl,⟨pg,rfl,-⟩,y4,z4,rfl,⟨sl,rfl,-⟩,y5,z5,rfl,h5,y6,z6,rfl,⟨els,rfl,hl,he⟩,rfl⟩:=h
 obtain ⟨l,rfl⟩:=BD4 h5
 obtain ⟨X,rfl,hq⟩:=BW1 (f:=Af7) (q:=okA) fun el hel=>shp_act (he el hel)
 exact ⟨⟨a,n,pg,sl,l,X⟩,rfl,by rw [List.length_map] at hl;exact hl,hq,wf_i64 hn⟩
end Go.Proofs.Ytbhgfoikbkaohaa
