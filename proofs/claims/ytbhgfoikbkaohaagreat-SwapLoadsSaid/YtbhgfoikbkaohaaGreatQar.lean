/-
 Equal states are the same;SwapKeeps.
 The maps of a store that is loaded: its lists,in their order.
 SwapFits,plain: what holds after each call;all pages freed.
 A store is loaded.
 A state that is loaded: when it can be. Plain.
-/
import Derived.Test.YtbhgfoikbkaohaaGreatQaq
set_option linter.unusedSimpArgs false
set_option linter.unusedVariables false
set_option maxHeartbeats 12800000
namespace Go.Pol
open Go.Am Go.Proofs.YtbhgfoikbkaohaaGreat.Sh
def d5:Int × (Nat→Int):=(0,fun _=>0)
theorem Ax7:∀ {r:List AV},(∀ x ∈ r,∃ k n,x = .int k n)→eqL (List.replicate r.length 0) r r=some true
 | [],_=>rfl
 | x::r,h=>by
  obtain ⟨k,n,rfl⟩:=h x (List.mem_cons_self ..)
  have ih:=Ax7 (r:=r) fun y hy=>h y (List.mem_cons_of_mem _ hy)
  rw [List.length_cons,List.replicate_succ]
  simp only [eqL,eq1,if_true,ih,beq_self_eq_true,Option.bind_some,Option.map_some,Bool.and_self]
theorem eqL_swA (x:Int × Int × Int × Int):eqL [0,0,0,0] (swA x) (swA x)=some true:=Ax7 (r:=swA x) fun y hy=>by
 simp only [swA,List.mem_cons,List.not_mem_nil,or_false] at hy
 rcases hy with rfl|rfl|rfl|rfl<;>exact ⟨_,_,rfl⟩
theorem eqL_swD (x:Int × (Nat→Int)):eqL (List.replicate 65 0) (swD x) (swD x)=some true:=by
 have:=Ax7 (r:=swD x) fun y hy=>by
  rcases List.mem_cons.1 hy with rfl|hy
  ·exact ⟨_,_,rfl⟩
  ·unfold bcA memA at hy
   obtain ⟨j,_,rfl⟩:=List.mem_map.1 hy
   exact ⟨_,_,rfl⟩
 rwa [R6] at this
end Go.Pol
namespace Go.Proofs.YtbhgfoikbkaohaaGreat.Sh
open Go Go.Am Go.Pol
theorem plx_Syd {p:Prop} (h:p:=by ((first|exact plw|(with_reducible first|apply O7|apply N8 _|apply N9 _|apply M6 _|apply Y7|apply N7|apply L9|apply U3|apply AZ5 _|apply AJ8 _|apply AM6|apply V3|apply F8 Q8|apply F8 Y8|apply Al3 _|apply G6 H7|apply AT3|fail)|fail);first|done|fail)):p:=h
theorem ppx_Syd {p:Prop} (h:p:=by ((first|with_reducible assumption|(with_reducible first|apply F7|apply E9|apply AC0|apply AB0|apply AN3|apply AM2 _|apply AJ4 _|apply hpp|apply H7|apply Q8 _|apply BC1 _|apply AY2 _|fail)|exact ppw|fail);first|done|fail)):p:=h
open Go.Proofs.YtbhgfoikbkaohaaGreat.Sh renaming plx_Syd → plx
open Go.Proofs.YtbhgfoikbkaohaaGreat.Sh renaming ppx_Syd → ppx
theorem wx_Syd {p q:Prop} (hq:q) (h:Y3 q→p:=by (intro hQz;((repeat' ((try (conv=>whnf));first|refine sxA ?_|refine Z7 (d:=d4) AG4 (by first|assumption|omega) (by with_reducible assumption) ?_|refine Af0 hq1 ?_|refine Af0 hq2 ?_|refine Z7 (d:=d5) R6 (by first|assumption|omega) (by with_reducible assumption) ?_|refine R4 (by rw [R6];omega) List.drop_zero (J7 (by rw [R6];omega) (List.take_of_length_le (by rw [R6];omega)) ?_)|refine J7 (cs:=bcA x.2) (m:=64) (Nat.le_of_eq L8.symm) AG9 ?_|refine sxF ?_|refine sxH ?_|((with_reducible first|apply U1 hQz|apply U2 hQz)<;>(try intro hsp hQz))|exact hQz.out))<;>(try (conv=>whnf))))):p:=h ⟨hq⟩
section
variable {a n pg sl i o:Int} {W:List (Int × Int × Int × Int)} {D:List (Int × (Nat→Int))}
set_option maxRecDepth 20000 in
theorem k_same25 (hW:W.length≤256) (hD:D.length≤256):J8 14 [.agg (T9 a n pg sl W D i o),.agg (T9 a n pg sl W D i o)] (.bool true):=by
 refine J8.mk (R9 G9 b14 J3 ⟨G6 H7,G6 H7,trivial⟩ D5 rfl ?_)
 unfold c14
 unfold T9
 (refine wx_Syd ?_;repeat' (first|with_reducible refine And.intro ?_ ?_|intro hsp))
 (refine F9 [2,3] (fun (j:Nat)=>[(5,.int .i64 (j:Nat))]) (fun (j:Nat)=>⟨[(0,.cells [.int .i64 a,.int .i64 n,.int .i64 pg,.int .i64 sl,.isl (W.map swA),.isl (D.map swD),.int .i64 i,.int .i64 o]),(1,.cells [.int .i64 a,.int .i64 n,.int .i64 pg,.int .i64 sl,.isl (W.map swA),.isl (D.map swD),.int .i64 i,.int .i64 o])],2⟩) (fun (j:Nat)=>j≤W.length) (fun (j:Nat)=>W.length - j) (0) [] rfl (fun _=>by first|exact Nat.zero_le _|(dsimp only;omega)) ?_ (by ((try (conv=>whnf));exact AJ0)) ?_)
 ·exact Nat.zero_le _
 intro j hj
 by_cases hjl:j < W.length
 ·generalize hx:nth d4 W j=x at *
  have hq1:=eqL_swA x
  (refine wx_Syd ?_;repeat' (first|with_reducible refine And.intro ?_ ?_|intro hsp))
  all_goals first|(exfalso;omega)|exact D6 (j+1) [] (by (try dsimp only);omega) (by first|omega|(dsimp only;omega)) rfl (by exact AJ0)
 ·(refine wx_Syd ?_;repeat' (first|with_reducible refine And.intro ?_ ?_|intro hsp))
  all_goals first|(exfalso;omega)|skip
  (refine F9 [2,3] (fun (j2:Nat)=>[(6,.int .i64 (j2:Nat))]) (fun (j2:Nat)=>⟨[(0,.cells [.int .i64 a,.int .i64 n,.int .i64 pg,.int .i64 sl,.isl (W.map swA),.isl (D.map swD),.int .i64 i,.int .i64 o]),(1,.cells [.int .i64 a,.int .i64 n,.int .i64 pg,.int .i64 sl,.isl (W.map swA),.isl (D.map swD),.int .i64 i,.int .i64 o])],2⟩) (fun (j2:Nat)=>j2≤D.length) (fun (j2:Nat)=>D.length - j2) (0) [] rfl (fun _=>by first|exact Nat.zero_le _|(dsimp only;omega)) ?_ (by ((try (conv=>whnf));exact AJ0)) ?_)
  ·exact Nat.zero_le _
  intro j2 hj2
  by_cases hjl2:j2 < D.length
  ·generalize hx:nth d5 D j2=x at *
   have hq2:=eqL_swD x
   (refine wx_Syd ?_;repeat' (first|with_reducible refine And.intro ?_ ?_|intro hsp))
   all_goals first|(exfalso;omega)|exact D6 (j2+1) [] (by (try dsimp only);omega) (by first|omega|(dsimp only;omega)) rfl (by exact AJ0)
  ·(refine wx_Syd ?_;repeat' (first|with_reducible refine And.intro ?_ ?_|intro hsp))
   all_goals first|(exfalso;omega)|exact K6 rfl
end
section
variable {q:Sw} {s:Sy}
theorem BM7 (hg:F5 q):J8 14 [.agg q.save,.agg q.save] (.bool true):=k_same25 (by rw [AB1];exact AQ8 hg) (by rw [AF0];exact AQ2 hg)
end
end Go.Proofs.YtbhgfoikbkaohaaGreat.Sh
namespace Go.Pol
open Go.Am Go.Proofs.YtbhgfoikbkaohaaGreat.Sh
section
variable {β:Type}
theorem AP1 {k:Int} {v:β}:∀ {L:List (Int × β)},mgI L k=none→mpI L k v=L++[(k,v)]
 | [],_=>rfl
 | e::L,h=>by
  unfold mgI at h
  split at h
  ·cases h
  ·rename_i hne
   unfold mpI
   rw [if_neg hne,AP1 h];rfl
theorem nd_take {d:Int × β} {L:List (Int × β)} (hn:ndI L) {j:Nat} (hj:j < L.length):mgI (L.take j) (nth d L j).1=none:=by
 refine AG6.2 fun hm=>?_
 obtain ⟨e,he,hk⟩:=List.mem_map.1 hm
 obtain ⟨i,hi,rfl⟩:=List.getElem_of_mem he
 rw [List.length_take] at hi
 rw [List.getElem_take,I9 hj] at hk
 have:=List.pairwise_iff_getElem.1 hn i j (by rw [List.length_map];omega) (by rw [List.length_map];exact hj) (by omega)
 rw [List.getElem_map,List.getElem_map] at this
 exact this hk
theorem BT2 {d:Int × β}:∀ {L:List (Int × β)} (_:ndI L) {j:Nat} (_:j < L.length),mgI L (nth d L j).1=some (nth d L j).2
 | e::L,hn,0,_=>by
  show (if e.1=e.1 then some e.2 else mgI L e.1)=_
  rw [if_pos rfl];rfl
 | e::L,hn,j+1,hj=>by
  have hn':=List.nodup_cons.1 hn
  have hj':j < L.length:=by simpa using hj
  have ih:=BT2 (d:=d) (L:=L) hn'.2 hj'
  have en:nth d (e::L) (j+1)=nth d L j:=rfl
  rw [en]
  show (if (nth d L j).1=e.1 then some e.2 else mgI L (nth d L j).1)=_
  rw [if_neg,ih]
  intro he
  exact hn'.1 (List.mem_map.2 ⟨nth d L j,AE5 hj',he⟩)
end
section
variable {q:Sw}
theorem dsk_nd:ndI q.dsk:=by
 unfold ndI Sw.dsk
 rw [List.map_map]
 exact List.Pairwise.map (R:=fun a b=>a ≠ b) _ (fun a b hab e=>hab (by have : ((a:Nat):Int)=b:=e;omega)) (List.nodup_range.filter _)
theorem whr_nd:ndI q.whr:=by
 unfold ndI Sw.whr
 rw [List.map_map]
 exact List.Pairwise.map (R:=fun a b=>a ≠ b) _ (fun a b hab e=>hab (by have : ((a:Nat):Int)=b:=e;omega)) BS3
theorem Ao7 {j:Nat} (h:j < q.slots.length):nth d5 q.dsk j=dkE q (nth 0 q.slots j):=by
 unfold Sw.dsk
 rw [I9 (by rw [List.length_map];exact h),I9 h,List.getElem_map]
def helE (e:Int × Int × Int × Int):Option (Int × Int):=if 0≤e.2.1 then some (e.2.1,e.1) else none
def useE (e:Int × Int × Int × Int):Option (Int × Bool):=if 0≤e.2.1 then none else some (e.2.2.1,true)
def Aa3 (q:Sw) (j:Nat):List (Int × Int):=(q.whr.take j).filterMap helE
def Az9 (q:Sw) (j:Nat):List (Int × Bool):=(q.whr.take j).filterMap useE
theorem hel_0:Aa3 q 0=[]:=rfl
theorem use_0:Az9 q 0=[]:=rfl
theorem hel_s {j:Nat} (h:j < q.pages.length):Aa3 q (j+1)=Aa3 q j++if 0≤q.F (nth 0 q.pages j) then [(q.F (nth 0 q.pages j),((nth 0 q.pages j:Nat):Int))] else []:=by
 unfold Aa3
 rw [whr_s h,List.filterMap_append]
 congr 1
 unfold helE whE
 by_cases c:0≤q.F (nth 0 q.pages j)
 ·rw [if_pos c];simp [c]
 ·rw [if_neg c];simp [c]
theorem use_s {j:Nat} (h:j < q.pages.length):Az9 q (j+1)=Az9 q j++if 0≤q.F (nth 0 q.pages j) then [] else [(q.T (nth 0 q.pages j),true)]:=by
 unfold Az9
 rw [whr_s h,List.filterMap_append]
 congr 1
 unfold useE whE
 by_cases c:0≤q.F (nth 0 q.pages j)
 ·rw [if_pos c];simp [c]
 ·rw [if_neg c];simp [c]
theorem BM9 {j:Nat} {f p:Int} (h:(f,p) ∈ Aa3 q j):∃ i:Nat,i < j∧i < q.pages.length∧p=(nth 0 q.pages i:Nat)∧f=q.F (nth 0 q.pages i)∧0≤f:=by
 unfold Aa3 at h
 obtain ⟨e,he,hh⟩:=List.mem_filterMap.1 h
 obtain ⟨i,hi,rfl⟩:=List.getElem_of_mem he
 rw [List.length_take,AB1] at hi
 rw [List.getElem_take,← I9 (d:=d4) (by rw [AB1];omega),AV7 (by omega)] at hh
 unfold helE whE at hh
 split at hh
 ·rename_i c
  cases hh
  exact ⟨i,by omega,by omega,rfl,rfl,c⟩
 ·cases hh
theorem use_mem {j:Nat} {k:Int} {b:Bool} (h:(k,b) ∈ Az9 q j):∃ i:Nat,i < j∧i < q.pages.length∧k=q.T (nth 0 q.pages i)∧¬ 0≤q.F (nth 0 q.pages i)∧b=true:=by
 unfold Az9 at h
 obtain ⟨e,he,hh⟩:=List.mem_filterMap.1 h
 obtain ⟨i,hi,rfl⟩:=List.getElem_of_mem he
 rw [List.length_take,AB1] at hi
 rw [List.getElem_take,← I9 (d:=d4) (by rw [AB1];omega),AV7 (by omega)] at hh
 unfold useE whE at hh
 split at hh
 ·cases hh
 ·rename_i c
  cases hh
  exact ⟨i,by omega,by omega,rfl,c,rfl⟩
theorem Al6 {i j:Nat} (hi:i < q.pages.length) (hj:j < q.pages.length) (h:nth 0 q.pages i=nth 0 q.pages j):i=j:=by
 rw [I9 hi,I9 hj] at h
 have hp:=Ai0 (w:=q)
 rcases Nat.lt_trichotomy i j with h1|h1|h1
 ·have:=List.pairwise_iff_getElem.1 hp i j hi hj h1;omega
 ·exact h1
 ·have:=List.pairwise_iff_getElem.1 hp j i hj hi h1;omega
theorem hel_new (hg:F5 q) {j:Nat} (h:j < q.pages.length) (h0:0≤q.F (nth 0 q.pages j)):mgI (Aa3 q j) (q.F (nth 0 q.pages j))=none:=AG6.2 fun hm=>by
 obtain ⟨⟨f,p⟩,he,hk⟩:=List.mem_map.1 hm
 obtain ⟨i,h1,h2,_,h4,h5⟩:=BM9 he
 have hk:f=q.F (nth 0 q.pages j):=hk
 have:=hg.oneF (nth 0 q.pages i) (nth 0 q.pages j) (by omega) (by omega)
 have:=Al6 h2 h this
 omega
theorem hel_neg {j:Nat}:mgI (Aa3 q j) (-1)=none:=AG6.2 fun hm=>by
 obtain ⟨⟨f,p⟩,he,hk⟩:=List.mem_map.1 hm
 obtain ⟨i,_,_,_,_,h5⟩:=BM9 he
 have hk:f = -1:=hk
 omega
theorem use_new (hg:F5 q) {j:Nat} (h:j < q.pages.length) (h0:¬ 0≤q.F (nth 0 q.pages j)):mgI (Az9 q j) (q.T (nth 0 q.pages j))=none:=AG6.2 fun hm=>by
 obtain ⟨⟨k,b⟩,he,hk⟩:=List.mem_map.1 hm
 obtain ⟨i,h1,h2,h3,_,_⟩:=use_mem he
 have hk:k=q.T (nth 0 q.pages j):=hk
 have h6:0≤q.T (nth 0 q.pages j):=(As5 hg h).resolve_left h0
 have:=hg.oneT (nth 0 q.pages i) (nth 0 q.pages j) (by omega) (by omega)
 have:=Al6 h2 h this
 omega
theorem mgI_mem {β:Type} {k:Int} {v:β}:∀ {L:List (Int × β)},mgI L k=some v→(k,v) ∈ L
 | [],h=>by cases h
 | e::L,h=>by
  unfold mgI at h
  split at h
  ·rename_i hk;cases h;subst hk;exact List.mem_cons_self ..
  ·exact List.mem_cons_of_mem _ (mgI_mem h)
theorem mem_mgI {β:Type} {k:Int} {v:β} {L:List (Int × β)} (hn:ndI L) (h:(k,v) ∈ L):mgI L k=some v:=by
 obtain ⟨j,hj,e⟩:=List.getElem_of_mem h
 have:=BT2 (d:=(k,v)) hn hj
 rw [I9 hj,e] at this
 exact this
theorem nd_app {β:Type} {k:Int} {v:β} {L:List (Int × β)} (hn:ndI L) (h:mgI L k=none):ndI (L++[(k,v)]):=by
 rw [← AP1 h];exact Am0 hn
theorem hel_nd (hg:F5 q):∀ j,j≤q.pages.length→ndI (Aa3 q j)
 | 0,_=>List.nodup_nil
 | j+1,h=>by
  have ih:=hel_nd hg j (by omega)
  rw [hel_s (by omega)]
  split
  ·rename_i c;exact nd_app ih (hel_new hg (by omega) c)
  ·rw [List.append_nil];exact ih
theorem BL0 {p:Nat} (hg:F5 q) (h:q.is p):∃ j,j < q.pages.length∧nth 0 q.pages j=p:=by
 obtain ⟨j,hj,e⟩:=List.getElem_of_mem ((AC2 hg).2 h)
 exact ⟨j,hj,by rw [I9 hj,e]⟩
theorem hel_in {j:Nat} (h:j < q.pages.length) (h0:0≤q.F (nth 0 q.pages j)):(q.F (nth 0 q.pages j),((nth 0 q.pages j:Nat):Int)) ∈ Aa3 q q.pages.length:=by
 unfold Aa3
 rw [Au5]
 refine List.mem_filterMap.2 ⟨whE q (nth 0 q.pages j),?_,?_⟩
 ·rw [← AV7 h];exact AE5 (by rw [AB1];exact h)
 ·unfold helE whE;rw [if_pos h0]
theorem AS7 (hg:F5 q):WOk q ⟨q.whr,q.dsk,Aa3 q q.pages.length⟩:=by
 refine ⟨whr_nd,dsk_nd,hel_nd hg _ (Nat.le_refl _),fun p=>?_,fun k=>?_,fun f p=>?_⟩
 ·show mgI q.whr p=_
  by_cases hp:0≤p∧q.is p.toNat
  ·rw [if_pos hp]
   obtain ⟨j,hj,e⟩:=BL0 hg hp.2
   have h1:=BT2 (d:=d4) (whr_nd (q:=q)) (j:=j) (by rw [AB1];exact hj)
   rw [AV7 hj,e] at h1
   have h2:(whE q p.toNat).1=p:=by show ((p.toNat:Nat):Int)=p;omega
   rw [h2] at h1;exact h1
  ·rw [if_neg hp]
   refine AG6.2 fun hm=>hp ?_
   obtain ⟨e,he,hk⟩:=List.mem_map.1 hm
   unfold Sw.whr at he
   obtain ⟨r,hr,rfl⟩:=List.mem_map.1 he
   have hk:((r:Nat):Int)=p:=hk
   exact ⟨by omega,by rw [← hk,Int.toNat_natCast];exact (AC2 hg).1 hr⟩
 ·show mgI q.dsk k=_
  by_cases hp:0≤k∧q.heldT k.toNat
  ·rw [if_pos hp]
   obtain ⟨j,hj,e⟩:=List.getElem_of_mem ((AB8 hg).2 hp.2)
   have h1:=BT2 (d:=d5) (dsk_nd (q:=q)) (j:=j) (by rw [AF0];exact hj)
   rw [Ao7 hj,I9 hj,e] at h1
   have h2:(dkE q k.toNat).1=k:=by show ((k.toNat:Nat):Int)=k;omega
   rw [h2] at h1;exact h1
  ·rw [if_neg hp]
   refine AG6.2 fun hm=>hp ?_
   obtain ⟨e,he,hk⟩:=List.mem_map.1 hm
   unfold Sw.dsk at he
   obtain ⟨r,hr,rfl⟩:=List.mem_map.1 he
   have hk:((r:Nat):Int)=k:=hk
   exact ⟨by omega,by rw [← hk,Int.toNat_natCast];exact (AB8 hg).1 hr⟩
 ·show mgI (Aa3 q q.pages.length) f=some p ↔ _
  constructor
  ·intro h
   obtain ⟨i,_,h2,h3,h4,h5⟩:=BM9 (mgI_mem h)
   exact ⟨by omega,h5,by rw [h3,Int.toNat_natCast];exact h4.symm⟩
  ·rintro ⟨h1,h2,h3⟩
   obtain ⟨j,hj,e⟩:=BL0 hg (p:=p.toNat) (.inl (by omega))
   have h4:=hel_in (q:=q) hj (by rw [e,h3];exact h2)
   rw [e,h3] at h4
   have h5:((p.toNat:Nat):Int)=p:=by omega
   rw [h5] at h4
   exact mem_mgI (hel_nd hg _ (Nat.le_refl _)) h4
end
end Go.Pol
namespace Go.Pol
open Go.Am Go.Proofs.YtbhgfoikbkaohaaGreat.Sh
section
variable {q:Sw} {t t':WS} {p:SPy}
theorem slots_out (hg:F5 q):q.slots.length=q.outN:=(out_held hg).symm
theorem use_all (hg:F5 q):(Az9 q q.pages.length).length=q.slots.length:=by
 have e:∀ l:List Nat,(∀ p ∈ l,q.is p)→((l.map (whE q)).filterMap useE).length=(l.filter fun p=>decide (0≤q.T p)).length:=by
  intro l
  induction l with
  | nil=>intro _;rfl
  | cons p l ih =>
   intro h
   have ih:=ih fun p hp=>h p (List.mem_cons_of_mem _ hp)
   rw [List.map_cons,List.filterMap_cons,List.filter_cons]
   unfold useE whE at *
   by_cases c:0≤q.F p
   ·have h2:¬ 0≤q.T p:=by rcases hg.fr p with h3 | ⟨h3,_⟩<;>omega
    rw [if_pos c,if_neg (by simpa using h2)];exact ih
   ·have h2:0≤q.T p:=(h p (List.mem_cons_self ..)).resolve_left c
    rw [if_neg c,if_pos (by simpa using h2)]
    dsimp only
    rw [List.length_cons,List.length_cons,ih]
 unfold Az9
 rw [Au5]
 unfold Sw.whr
 rw [e _ fun p hp=>(AC2 hg).1 hp,slots_out hg]
 unfold Sw.pages Sw.outN
 rw [List.filter_filter]
 congr 1
 refine List.filter_congr fun p _=>?_
 unfold Sw.is
 by_cases c:0≤q.T p
 ·simp [c]
 ·simp [c]
end
end Go.Pol
namespace Go.Pol
open Go.Am Go.Proofs.YtbhgfoikbkaohaaGreat.Sh
def lastS (q:Sw):Nat→Int
 | 0 => -1
 | j+1=>((nth 0 q.slots j:Nat):Int)
theorem last_0 {q:Sw}:lastS q 0 = -1:=rfl
theorem mapP_nil:MapP []:=by have:=E5 (L:=[]) M6;rwa [Y1] at this
theorem last_lt {q:Sw}:∀ {j:Nat},j < q.slots.length→lastS q j < ((nth 0 q.slots j:Nat):Int)
 | 0,_=>by show (-1:Int) < _;omega
 | j+1,h=>by
  have:=List.pairwise_iff_getElem.1 (Ah8 (w:=q)) j (j+1) (by omega) h (by omega)
  show ((nth 0 q.slots j:Nat):Int) < _
  rw [I9 (by omega:j < q.slots.length),I9 h]
  omega
def boE (b:Bool):AV:=.bool b
theorem Al4 (b:Bool):Plain (boE b):=D5
def BE5 (q:Sw):Nat→Int
 | 0 => -1
 | j+1=>((nth 0 q.pages j:Nat):Int)
theorem lastP_0 {q:Sw}:BE5 q 0 = -1:=rfl
theorem lastP_lt {q:Sw}:∀ {j:Nat},j < q.pages.length→BE5 q j < ((nth 0 q.pages j:Nat):Int)
 | 0,_=>by show (-1:Int) < _;omega
 | j+1,h=>by
  have:=List.pairwise_iff_getElem.1 (Ai0 (w:=q)) j (j+1) (by omega) h (by omega)
  show ((nth 0 q.pages j:Nat):Int) < _
  rw [I9 (by omega:j < q.pages.length),I9 h]
  omega
theorem page_lt {q:Sw} {j:Nat} (h:j < q.pages.length):nth 0 q.pages j < q.pg:=by
 have:=AE5 (d:=0) h
 unfold Sw.pages at this
 exact List.mem_range.1 (List.mem_filter.1 this).1
theorem useL_len {q:Sw} (hg:F5 q):(Az9 q q.pages.length).length=q.dsk.length:=by rw [use_all hg,AF0]
structure LdF (q:Sw) (j:Nat) (e:Int × Int × Int × Int):Prop where
 nt:nth d4 q.whr j=e
 hp:0≤e.1∧e.1 < (q.pg:Nat)
 hl:BE5 q j < e.1
 hz:0≤e.2.2.2∧e.2.2.2≤1000000000000
 ha:((q.a:Nat):Int)≤e.2.1∧e.2.1 < (q.a:Nat)+(q.n:Nat)
 hs:e.2.2.1 = -1
 hH:mgI (Aa3 q j) e.2.1=none
 hD:mgI q.dsk e.2.2.1=none
 mH:mpI (Aa3 q j) e.2.1 e.1=Aa3 q j++[(e.2.1,e.1)]
 sH:Aa3 q (j+1)=Aa3 q j++[(e.2.1,e.1)]
 sU:Az9 q (j+1)=Az9 q j
 mW:mpI (q.whr.take j) e.1 e.2=q.whr.take j++[e]
 sW:q.whr.take (j+1)=q.whr.take j++[e]
 nx:BE5 q (j+1)=e.1
structure LdT (q:Sw) (j:Nat) (e:Int × Int × Int × Int) (x:Nat→Int):Prop where
 nt:nth d4 q.whr j=e
 hp:0≤e.1∧e.1 < (q.pg:Nat)
 hl:BE5 q j < e.1
 hz:0≤e.2.2.2∧e.2.2.2≤1000000000000
 hf:e.2.1 = -1
 ht:0≤e.2.2.1
 hH:mgI (Aa3 q j) e.2.1=none
 hD:mgI q.dsk e.2.2.1=some x
 hU:mgI (Az9 q j) e.2.2.1=none
 mU:mpI (Az9 q j) e.2.2.1 true=Az9 q j++[(e.2.2.1,true)]
 sU:Az9 q (j+1)=Az9 q j++[(e.2.2.1,true)]
 sH:Aa3 q (j+1)=Aa3 q j
 mW:mpI (q.whr.take j) e.1 e.2=q.whr.take j++[e]
 sW:q.whr.take (j+1)=q.whr.take j++[e]
 nx:BE5 q (j+1)=e.1
theorem ld_cases {q:Sw} (hg:F5 q) {j:Nat} (h:j < q.pages.length):(∃ e,LdF q j e)∨∃ e x,LdT q j e x:=by
 have h1:=page_lt h
 have h2:=lastP_lt h
 have h3:=hg.st (nth 0 q.pages j)
 have h4:=AV7 h
 have h5:=whr_s h
 have h6:=hel_s h
 have h7:=use_s h
 have h8:BE5 q (j+1)=((nth 0 q.pages j:Nat):Int):=rfl
 have h9:=nd_take (d:=d4) (whr_nd (q:=q)) (j:=j) (by rw [AB1];exact h)
 have hD0:mgI q.dsk (-1)=none:=Ag8 (AS7 hg) (by omega)
 rw [h4] at h9
 unfold whE at h4 h5 h9
 by_cases c:0≤q.F (nth 0 q.pages j)
 ·have hn:=hel_new hg h c
  obtain ⟨f,f1,f2,f3,_⟩:=AA3 hg c
  have hT:q.T (nth 0 q.pages j) = -1:=by rcases AO9 hg (nth 0 q.pages j) with e|e<;>omega
  rw [if_pos c] at h6 h7
  rw [List.append_nil] at h7
  rw [f1] at h4 h5 h6 h9 hn
  rw [hT] at h4 h5 h9
  exact .inl ⟨_,h4,⟨Int.natCast_nonneg _,Int.ofNat_lt.2 h1⟩,h2,h3,⟨Int.ofNat_le.2 f2,by show ((f:Nat):Int) < _;omega⟩,rfl,hn,hD0,AP1 hn,h6,h7,AP1 h9,h5,h8⟩
 ·have hF:q.F (nth 0 q.pages j) = -1:=by rcases Af5 hg (nth 0 q.pages j) with e|e<;>omega
  have hn:=use_new hg h c
  have ht:0≤q.T (nth 0 q.pages j):=(As5 hg h).resolve_left c
  obtain ⟨k,hk⟩:=Int.eq_ofNat_of_zero_le ht
  have hD:=Aa5 hg (AS7 hg) hk
  rw [if_neg c] at h6 h7
  rw [List.append_nil] at h6
  rw [hk] at h4 h5 h7 h9 hn ht
  rw [hF] at h4 h5 h9
  exact .inr ⟨_,_,h4,⟨Int.natCast_nonneg _,Int.ofNat_lt.2 h1⟩,h2,h3,rfl,ht,hel_neg,hD,hn,AP1 hn,h7,h6,AP1 h9,h5,h8⟩
theorem slot_lt {q:Sw} {j:Nat} (h:j < q.slots.length):nth 0 q.slots j < q.sl:=by
 have:=AE5 (d:=0) h
 unfold Sw.slots at this
 exact List.mem_range.1 (List.mem_filter.1 this).1
end Go.Pol
namespace Go.Proofs.YtbhgfoikbkaohaaGreat.Sh
open Go Go.Am Go.Pol
theorem plx_Syh {p:Prop} (h:p:=by ((first|exact plw|(with_reducible first|apply O7|apply N8 _|apply N9 _|apply M6 _|apply Al4 _|apply Y7|apply N7|apply L9|apply U3|apply AZ5 _|apply AJ8 _|apply AM6|apply V3|apply F8 Q8|apply F8 Y8|apply Al3 _|apply G6 H7|apply AT3|apply AM5|fail)|fail);first|done|fail)):p:=h
theorem ppx_Syh {p:Prop} (h:p:=by ((first|with_reducible assumption|(with_reducible first|apply F7|apply E9|apply AC0|apply AB0|apply AN3|apply AM2 _|apply AJ4 _|apply hpy|apply hy|apply BC1 _|fail)|exact ppw|fail);first|done|fail)):p:=h
open Go.Proofs.YtbhgfoikbkaohaaGreat.Sh renaming plx_Syh → plx
open Go.Proofs.YtbhgfoikbkaohaaGreat.Sh renaming ppx_Syh → ppx
theorem wx_Syh {p q:Prop} (hq:q) (h:Y3 q→p:=by (intro hQz;((repeat' ((try (conv=>whnf));first|refine sxA ?_|refine AC5 hp rfl ?_|refine AH5 hp rfl ?_|refine sxF ?_|refine K3 hc rfl (by decide) ?_|refine M0 hst ?_|refine K3 hkd rfl (by decide) ?_|refine sxH ?_|((with_reducible first|apply U1 hQz|apply U2 hQz)<;>(try intro hsp hQz))|exact hQz.out))<;>(try (conv=>whnf))))):p:=h ⟨hq⟩
theorem wx_Syhn {p q:Prop} (hq:q) (h:Y3 q→p:=by (intro hQz;((repeat' ((try (conv=>whnf));first|(with_reducible first|refine P6 ?_|refine K4 ?_|refine P9 ?_|refine Q5 ?_|refine K9 ?_|refine U9 ?_|refine O9 ?_|refine U8 rfl ?_|refine P5 ?_|refine I5 ?_|refine K7 ?_|refine K8 ?_|refine Q0 ?_|refine I4 ?_|refine K5 (by decide +kernel) ?_|refine J6 (by decide +kernel) ?_|refine AG2 ?_|refine AG3 ?_|refine Aj5 ?_|refine r9 ?_|refine AI4 ?_|refine Ag9 (by assumption) ?_|refine Ah0 (by assumption) ?_|refine p9 (by omega) ?_|refine AI2 ?_)|((with_reducible refine AI5 ?_ ?_);focus omega)|((with_reducible refine AI6 ?_ ?_);focus omega)|((with_reducible apply U1 hQz)<;>(try intro hsp hQz))|((with_reducible refine Aj3 ?_ ?_);focus (first|omega|rfl|assumption|decide|(simp only [List.length_map,List.length_cons,List.length_nil];omega)|(simp only [List.length_cons];omega)))|(with_reducible first|refine AH9 ?_|refine p8 ?_|refine o9 ?_|refine AI1 ?_|refine AI0 ?_|refine AH7 ?_|refine Aj0 ?_|refine I6 ?_|refine l9 ?_|refine P8 ?_|refine P7 ?_|refine I7 ?_|refine AH8 (by omega) ?_|refine o8 (by omega) ?_)|refine Z7 (d:=d5) R6 (by first|assumption|omega) hnt ?_|refine R4 (by rw [R6];omega) List.drop_zero (J7 (by rw [R6];omega) (List.take_of_length_le (by rw [R6];omega)) ?_)|refine J7 (cs:=bcA (q.D k)) (m:=64) (Nat.le_of_eq L8.symm) AG9 ?_|refine R4 (cs:=bcA (q.D k)) (Nat.zero_le _) List.drop_zero (J7 (cs:=bcA (q.D k)) (m:=64) (Nat.le_of_eq L8.symm) AG9 ?_)|refine U4 (by first|(simp only [List.length_cons,List.length_nil];omega)|fail) (Ad5 hyl) ?_|refine AM8 rfl (q.D k) rfl ?_|refine Z7 (d:=d4) AG4 (by first|assumption|omega) hnt ?_|refine AH5 hH rfl ?_|refine Am1 hD Aj6 rfl ?_|refine ⟨L8,?_⟩|refine U4 (by simp only [List.length_replicate,L8];omega) hov ?_|refine AM8 rfl e.1 rfl ?_|refine AM8 rfl e.2 rfl ?_|refine AC5 hD rfl ?_|refine Am2 hU rfl ?_|refine AM8 rfl true rfl ?_|refine BT3 rfl ?_|refine sxN ?_|refine sxH ?_|((with_reducible apply U2 hQz)<;>(try intro hsp hQz))|exact hQz.out))<;>(try (conv=>whnf))))):p:=h ⟨hq⟩
set_option maxRecDepth 20000 in
theorem w_Load {q:Sw} (hg:F5 q):LocWN 12 [.agg q.save] q.s q ⟨q.whr,q.dsk,Aa3 q q.pages.length⟩:=by
 have hrng:=hg.rng
 have hcnt:=hg.cnt
 have hpl1:=AQ8 hg
 have hpl2:=AQ2 hg
 have hc:=Ai1 hg.good
 have hst:=Ai6 (q.a:Nat) (q.n:Nat) (q.pg:Nat) (q.sl:Nat)
 rw [decide_eq_true (show O5 (q.a:Nat) (q.n:Nat) (q.pg:Nat) (q.sl:Nat) by unfold O5;omega)] at hst
 unfold Sy.counts at hc
 refine LocWN.mk (I8 G9 b12 rfl ?_) (R3 (G6 H7))
 unfold c12
 unfold Sw.save T9
 generalize AU5 q.s.K 0 1024=n0 at *
 generalize AU5 q.s.K 1 1024=n1 at *
 generalize AU5 q.s.K 2 1024=n2 at *
 generalize AU5 q.s.K 3 1024=n3 at *
 generalize cntG q.s.G 64=n4 at *
 have hd0:=dsk_0 (w:=q)
 have hz0:=last_0 (q:=q)
 (refine wx_Syh ?_;repeat' (first|with_reducible refine And.intro ?_ ?_|intro hsp))
 (refine F9 [0,3,8,62,63] (fun (j:Nat)=>[(9,.int .i64 (lastS q j)),(64,.int .i64 (j:Nat))]) (fun (j:Nat)=>⟨[(6,.cells (stC 0 3 4 5 q)),(3,.maps (encW pgE [])),(4,.maps (encW byE (q.dsk.take j))),(5,.maps (encW nuE [])),(0,.cells q.s.a),(1,.cells [.int .i64 (q.a:Nat),.int .i64 (q.n:Nat),.int .i64 (q.pg:Nat),.int .i64 (q.sl:Nat),.isl (q.whr.map swA),.isl (q.dsk.map swD),.int .i64 q.ins,.int .i64 q.outs])],7⟩) (fun (j:Nat)=>j≤q.slots.length) (fun (j:Nat)=>q.slots.length - j) (0) [] rfl (fun _=>by first|exact Nat.zero_le _|(dsimp only;omega)) ?_ (by ((try (conv=>whnf));(rw [hd0,hz0,Y1,Y1,Y1]);exact AN6)) ?_)
 ·exact Nat.zero_le _
 intro j hj
 have hdl:=AF0 (w:=q)
 by_cases hjl:j < q.slots.length
 ·have hnt:=Ao7 (q:=q) hjl
  have hlt:=last_lt (q:=q) hjl
  have hsl:=slot_lt (q:=q) hjl
  have hws:=dsk_s hjl
  have hnx:lastS q (j+1)=((nth 0 q.slots j:Nat):Int):=rfl
  have hmn:=nd_take (d:=d5) (dsk_nd (q:=q)) (j:=j) (by rw [hdl];exact hjl)
  rw [hnt] at hmn
  unfold dkE at hnt hws hmn
  generalize nth 0 q.slots j=k at *
  have hmp:=AP1 (v:=q.D k) hmn
  dsimp only at hmp
  have hyl:(bcA (q.D k)).length=64:=L8
  unfold stC
  (refine wx_Syhn ?_;repeat' (first|with_reducible refine And.intro ?_ ?_|intro hsp))
  all_goals first|(exfalso;omega)|(exfalso;dsimp only at hsp;omega)|exact D6 (j+1) [] (by (try dsimp only);omega) (by first|omega|(dsimp only;omega)) rfl (by ((try dsimp only);rw [hws,hmp,hnx]);exact AN6)
 ·obtain rfl:j=q.slots.length:=by omega
  rw [dsk_all]
  have hw0:=whr_0 (w:=q)
  have hl0:=lastP_0 (q:=q)
  have hh0:=hel_0 (q:=q)
  have hu0:=use_0 (q:=q)
  clear hd0 hz0
  unfold stC
  (refine wx_Syh ?_;repeat' (first|with_reducible refine And.intro ?_ ?_|intro hsp))
  all_goals first|(exfalso;omega)|skip
  (refine F9 [0,3,8,12,92,93] (fun (j:Nat)=>[(9,.int .i64 (BE5 q j)),(94,.int .i64 (j:Nat))]) (fun (j:Nat)=>⟨[(6,.cells (stC 0 3 4 5 q)),(3,.maps (encW pgE (q.whr.take j))),(4,.maps (encW byE q.dsk)),(5,.maps (encW nuE (Aa3 q j))),(7,.maps (encW boE (Az9 q j))),(0,.cells q.s.a),(1,.cells [.int .i64 (q.a:Nat),.int .i64 (q.n:Nat),.int .i64 (q.pg:Nat),.int .i64 (q.sl:Nat),.isl (q.whr.map swA),.isl (q.dsk.map swD),.int .i64 q.ins,.int .i64 q.outs])],8⟩) (fun (j:Nat)=>j≤q.pages.length) (fun (j:Nat)=>q.pages.length - j) (0) [] rfl (fun _=>by first|exact Nat.zero_le _|(dsimp only;omega)) ?_ (by ((try (conv=>whnf));(rw [hw0,hl0,hh0,hu0,Y1,Y1,Y1]);exact AN6)) ?_)
  ·exact Nat.zero_le _
  intro j hj
  clear hw0 hl0 hh0 hu0
  have hwl:=AB1 (w:=q)
  by_cases hjl:j < q.pages.length
  ·rcases ld_cases hg hjl with ⟨e,hL⟩ | ⟨e,x,hL⟩
   ·obtain ⟨hnt,hp,hl,hz,ha,hs,hH,hD,mH,sH,sU,mW,sW,hnx⟩:=hL
    have hov:=Z4 (x:=fun _=>0)
    unfold stC
    (refine wx_Syhn ?_;repeat' (first|with_reducible refine And.intro ?_ ?_|intro hsp))
    all_goals first|(exfalso;omega)|exact D6 (j+1) [] (by (try dsimp only);omega) (by first|omega|(dsimp only;omega)) rfl (by ((try dsimp only);rw [sW,mW,sH,mH,sU,hnx]);exact AN6)
   ·obtain ⟨hnt,hp,hl,hz,hf,ht,hH,hD,hU,mU,sU,sH,mW,sW,hnx⟩:=hL
    have hov:=Z4 (x:=x)
    unfold stC
    (refine wx_Syhn ?_;repeat' (first|with_reducible refine And.intro ?_ ?_|intro hsp))
    all_goals first|(exfalso;omega)|exact D6 (j+1) [] (by (try dsimp only);omega) (by first|omega|(dsimp only;omega)) rfl (by ((try dsimp only);rw [sW,mW,sH,sU,mU,hnx]);exact AN6)
  ·obtain rfl:j=q.pages.length:=by omega
   rw [Au5]
   have huL:=useL_len hg
   have hWO:=AS7 hg
   have hdl:=AF0 (w:=q)
   unfold stC
   (refine wx_Syhn ?_;repeat' (first|with_reducible refine And.intro ?_ ?_|intro hsp))
   all_goals first|(exfalso;omega)|skip
   (refine F9 [0,3,8] (fun (i:Nat)=>[(19,.int .i64 ((q.a+i:Nat):Int))]) (fun (i:Nat)=>⟨[(6,.cells (stC 0 3 4 5 q)),(3,.maps (encW pgE q.whr)),(4,.maps (encW byE q.dsk)),(5,.maps (encW nuE (Aa3 q q.pages.length))),(0,.cells q.s.a),(1,.cells [.int .i64 (q.a:Nat),.int .i64 (q.n:Nat),.int .i64 (q.pg:Nat),.int .i64 (q.sl:Nat),.isl (q.whr.map swA),.isl (q.dsk.map swD),.int .i64 q.ins,.int .i64 q.outs])],7⟩) (fun (i:Nat)=>i≤q.n) (fun (i:Nat)=>q.n - i) (0) [] rfl (fun _=>by first|exact Nat.zero_le _|(dsimp only;omega)) ?_ (by ((try (conv=>whnf));exact AN6)) ?_)
   ·exact Nat.zero_le _
   intro i hi
   by_cases hil:i < q.n
   ·have hkd:=BS5 (s:=q.s) (a:=(q.a+i:Nat))
    have hhd:=held_H hWO hg (f:=q.a+i)
    have hM:=(hg.kind (q.a+i) (by omega) (by omega)).2
    dsimp only at hhd
    by_cases hh:q.heldF (q.a+i)
    ·rw [AA9 (by omega) (heldK hg hh),hM] at hkd
     rw [decide_eq_true hh] at hhd
     obtain ⟨p,hp⟩:=Option.isSome_iff_exists.1 hhd
     unfold stC
     (refine wx_Syh ?_;repeat' (first|with_reducible refine And.intro ?_ ?_|intro hsp))
     all_goals first|(exfalso;omega)|exact D6 (i+1) [] (by (try dsimp only);omega) (by first|omega|(dsimp only;omega)) rfl (by exact AN6)
    ·rw [decide_eq_false hh] at hhd
     have hp:mgI (Aa3 q q.pages.length) ((q.a+i:Nat):Int)=none:=Option.not_isSome_iff_eq_none.1 (by rw [hhd];exact Bool.false_ne_true)
     rcases (hg.kind (q.a+i) (by omega) (by omega)).1 with hk|hk
     ·rw [AA9 (by omega) hk,hM] at hkd
      unfold stC
      (refine wx_Syh ?_;repeat' (first|with_reducible refine And.intro ?_ ?_|intro hsp))
      all_goals first|(exfalso;omega)|exact D6 (i+1) [] (by (try dsimp only);omega) (by first|omega|(dsimp only;omega)) rfl (by exact AN6)
     ·rw [AA9 (by omega) hk,hM] at hkd
      unfold stC
      (refine wx_Syh ?_;repeat' (first|with_reducible refine And.intro ?_ ?_|intro hsp))
      all_goals first|(exfalso;omega)|exact D6 (i+1) [] (by (try dsimp only);omega) (by first|omega|(dsimp only;omega)) rfl (by exact AN6)
   ·obtain rfl:i=q.n:=by omega
    unfold stC
    (refine wx_Syh ?_;repeat' (first|with_reducible refine And.intro ?_ ?_|intro hsp))
    all_goals first|(exfalso;omega)|exact end_Wg (q:=q) (t:=⟨q.whr,q.dsk,Aa3 q q.pages.length⟩) [(1,6),(2,3),(3,4),(4,5)] 1 2 3 4 0 rfl (by decide) rfl (by decide) (fun hs=>Af6 (C9 (u7 (i:=1) rfl (show 1 < 5 by decide)) (C9 (O1 rfl) M4))) rfl rfl rfl rfl rfl
end Go.Proofs.YtbhgfoikbkaohaaGreat.Sh
namespace Go.Pol
open Go.Am Go.Proofs.YtbhgfoikbkaohaaGreat.Sh
def LdZ (s:Sy) (z:List AV):Prop:=∃ q:Sw,F5 q∧q.s=s∧q.save=z
def Aw2 (K:Nat→Int):Nat→Int
 | 0 => -1
 | j+1=>K j
def Asc (K:Nat→Int) (m:Nat):Prop:=∀ i,i < m→Aw2 K i < K i
section
variable {K:Nat→Int} {m:Nat}
theorem asc_lt (h:Asc K m):∀ j,j < m→∀ i,i < j→K i < K j
 | 0,_,i,hi=>absurd hi (Nat.not_lt_zero _)
 | j+1,hj,i,hi=>by
  have h1:K j < K (j+1):=h (j+1) hj
  by_cases e:i=j
  ·rw [e];exact h1
  ·have:=asc_lt h j (by omega) i (by omega);omega
theorem BH4 (h:Asc K m):∀ j,j < m→0≤K j
 | 0,hj=>by have h1:(-1:Int) < K 0:=h 0 hj;omega
 | j+1,hj=>by
  have h1:K j < K (j+1):=h (j+1) hj
  have:=BH4 h j (by omega)
  omega
theorem asc_s (h:Asc K m) (h1:Aw2 K m < K m):Asc K (m+1):=fun i hi=>by
 by_cases e:i=m
 ·rw [e];exact h1
 ·exact h i (by omega)
end
section
variable {β:Type} {d:Int × β} {L A B:List (Int × β)} {m:Nat}
theorem BX0 (h:Asc (fun i=>(nth d L i).1) (m+1)) (hm:m < L.length):mgI (L.take m) (nth d L m).1=none:=AG6.2 fun hx=>by
 obtain ⟨e,he,hk⟩:=List.mem_map.1 hx
 obtain ⟨i,hi,rfl⟩:=List.getElem_of_mem he
 rw [List.length_take] at hi
 rw [List.getElem_take,← I9 (d:=d) (by omega)] at hk
 have:=asc_lt h m (by omega) i (by omega)
 (try dsimp only at this)
 omega
theorem Ab2 (h:Asc (fun i=>(nth d L i).1) L.length):L.Pairwise fun x y=>x.1 < y.1:=by
 rw [List.pairwise_iff_getElem]
 intro i j hi hj hij
 have:=asc_lt h j hj i hij
 (try dsimp only at this)
 rw [I9 hi,I9 hj] at this
 exact this
theorem BK9 (h:L.Pairwise fun x y=>x.1 < y.1):ndI L:=List.Pairwise.map (R:=fun x y:Int × β=>x.1 < y.1) _ (fun a b (hab:a.1 < b.1) (e:a.1=b.1)=>by omega) h
theorem BF7 (ha:A.Pairwise fun x y=>x.1 < y.1) (hb:B.Pairwise fun x y=>x.1 < y.1) (h:∀ e,e ∈ A ↔ e ∈ B):A=B:=by
 refine List.Perm.eq_of_pairwise (le:=fun x y=>x.1 < y.1) (fun x y _ _ h1 h2=>by omega) ha hb ?_
 exact (List.perm_ext_iff_of_nodup (ha.imp fun {a b} hab e=>by subst e;omega) (hb.imp fun {a b} hab e=>by subst e;omega)).2 h
theorem BT6 {x:Int × β} (h:x ∈ L):∃ i,i < L.length∧nth d L i=x:=by
 obtain ⟨i,hi,e⟩:=List.getElem_of_mem h
 exact ⟨i,hi,by rw [I9 hi,e]⟩
theorem Ac1 (h:m < L.length):L.take (m+1)=L.take m++[nth d L m]:=AS8 h
end
def At2 (W:List (Int × Int × Int × Int)) (j:Nat):List (Int × Int):=(W.take j).filterMap helE
def Ac0 (W:List (Int × Int × Int × Int)) (j:Nat):List (Int × Bool):=(W.take j).filterMap useE
section
variable {W:List (Int × Int × Int × Int)} {j:Nat}
theorem helW_0:At2 W 0=[]:=rfl
theorem useW_0:Ac0 W 0=[]:=rfl
theorem helW_f (h:j < W.length) (c:0≤(nth d4 W j).2.1):At2 W (j+1)=At2 W j++[((nth d4 W j).2.1,(nth d4 W j).1)]:=by
 unfold At2
 rw [Ac1 (d:=d4) h,List.filterMap_append]
 congr 1
 unfold helE
 simp [c]
theorem helW_t (h:j < W.length) (c:¬ 0≤(nth d4 W j).2.1):At2 W (j+1)=At2 W j:=by
 unfold At2
 rw [Ac1 (d:=d4) h,List.filterMap_append]
 unfold helE
 simp [c]
theorem useW_f (h:j < W.length) (c:0≤(nth d4 W j).2.1):Ac0 W (j+1)=Ac0 W j:=by
 unfold Ac0
 rw [Ac1 (d:=d4) h,List.filterMap_append]
 unfold useE
 simp [c]
theorem useW_t (h:j < W.length) (c:¬ 0≤(nth d4 W j).2.1):Ac0 W (j+1)=Ac0 W j++[((nth d4 W j).2.2.1,true)]:=by
 unfold Ac0
 rw [Ac1 (d:=d4) h,List.filterMap_append]
 congr 1
 unfold useE
 simp [c]
theorem BT4 {i:Nat} (hi:i < j) (hl:i < W.length):nth d4 W i ∈ W.take j:=by
 rw [I9 hl]
 have h:i < (W.take j).length:=by rw [List.length_take];omega
 have:=List.getElem_mem h
 rwa [List.getElem_take] at this
theorem take_mem {e:Int × Int × Int × Int} (h:e ∈ W.take j):∃ i,i < j∧i < W.length∧nth d4 W i=e:=by
 obtain ⟨i,hi,e⟩:=List.getElem_of_mem h
 rw [List.length_take] at hi
 rw [List.getElem_take] at e
 exact ⟨i,by omega,by omega,by rw [I9 (by omega),e]⟩
theorem An4 {f:Int} (h:mgI (At2 W j) f=none) {i:Nat} (hi:i < j) (hl:i < W.length) (hf:(nth d4 W i).2.1=f) (h0:0≤f):False:=by
 refine AG6.1 h (List.mem_map.2 ⟨(f,(nth d4 W i).1),List.mem_filterMap.2 ⟨_,BT4 hi hl,?_⟩,rfl⟩)
 unfold helE
 rw [hf,if_pos h0]
theorem BB2 {k:Int} (h:mgI (Ac0 W j) k=none) {i:Nat} (hi:i < j) (hl:i < W.length) (hf:¬ 0≤(nth d4 W i).2.1) (ht:(nth d4 W i).2.2.1=k):False:=by
 refine AG6.1 h (List.mem_map.2 ⟨(k,true),List.mem_filterMap.2 ⟨_,BT4 hi hl,?_⟩,rfl⟩)
 unfold useE
 rw [if_neg hf,ht]
theorem Au7 {k:Int} {b:Bool} (h:(k,b) ∈ Ac0 W j):∃ i,i < j∧i < W.length∧¬ 0≤(nth d4 W i).2.1∧(nth d4 W i).2.2.1=k∧b=true:=by
 obtain ⟨e,he,hh⟩:=List.mem_filterMap.1 h
 obtain ⟨i,h1,h2,rfl⟩:=take_mem he
 unfold useE at hh
 split at hh
 ·cases hh
 ·rename_i c;cases hh;exact ⟨i,h1,h2,c,rfl,rfl⟩
end
def okW (a n pg:Int) (W:List (Int × Int × Int × Int)) (D:List (Int × (Nat→Int))) (j:Nat):Prop :=
  ((nth d4 W j).1 < pg∧0≤(nth d4 W j).2.2.2∧(nth d4 W j).2.2.2≤1000000000000) ∧
  (((nth d4 W j).2.2.1 = -1 ∧ a ≤ (nth d4 W j).2.1 ∧ (nth d4 W j).2.1 < a + n ∧ mgI (At2 W j) (nth d4 W j).2.1 = none) ∨
   ((nth d4 W j).2.1 = -1∧(∃ x,mgI D (nth d4 W j).2.2.1=some x)∧mgI (Ac0 W j) (nth d4 W j).2.2.1=none))
structure BI0 (s:Sy) (a n pg sl:Int) (W:List (Int × Int × Int × Int)) (D:List (Int × (Nat→Int))) (i o:Int):Prop where
 st:O5 a n pg sl
 aD:Asc (fun k=>(nth d5 D k).1) D.length
 bD:∀ k,k < D.length→(nth d5 D k).1 < sl
 aW:Asc (fun k=>(nth d4 W k).1) W.length
 oW:∀ k,k < W.length→okW a n pg W D k
 us:(Ac0 W W.length).length=D.length
 mn:0≤i∧i≤1000000000∧0≤o∧o≤1000000000
 fr:∀ f:Nat,a≤(f:Nat)→((f:Nat):Int) < a+n→s.M f=false∧(s.K f=2∨(s.K f=1∧mgI (At2 W W.length) (f:Nat)=none))
def lkF (W:List (Int × Int × Int × Int)) (p:Nat):Int:=match mgI W p with|some v=>v.1|none=>-1
def lkT (W:List (Int × Int × Int × Int)) (p:Nat):Int:=match mgI W p with|some v=>v.2.1|none=>-1
def lkZ (W:List (Int × Int × Int × Int)) (p:Nat):Int:=match mgI W p with|some v=>v.2.2|none=>0
def lkD (D:List (Int × (Nat→Int))) (k:Nat):Nat→Int:=match mgI D k with|some v=>v|none=>fun _=>0
section
variable {s:Sy} {a n pg sl:Int} {W:List (Int × Int × Int × Int)} {D:List (Int × (Nat→Int))} {i o:Int}
inductive LkR (a n:Int) (W:List (Int × Int × Int × Int)) (D:List (Int × (Nat→Int))) (p:Nat):Prop
 | no:mgI W p=none→lkF W p = -1→lkT W p = -1→lkZ W p=0→LkR a n W D p
 | fr (j:Nat):j < W.length→nth d4 W j=(((p:Nat):Int),lkF W p,lkT W p,lkZ W p)→lkT W p = -1→a≤lkF W p→lkF W p < a+n→mgI (At2 W j) (lkF W p)=none→LkR a n W D p
 | sl (j:Nat):j < W.length→nth d4 W j=(((p:Nat):Int),lkF W p,lkT W p,lkZ W p)→lkF W p = -1→(∃ x,mgI D (lkT W p)=some x)→mgI (Ac0 W j) (lkT W p)=none→LkR a n W D p
theorem lk_r (h:BI0 s a n pg sl W D i o) (p:Nat):LkR a n W D p:=by
 cases hm:mgI W p with
 | none=>exact .no hm (by unfold lkF;rw [hm]) (by unfold lkT;rw [hm]) (by unfold lkZ;rw [hm])
 | some v =>
  obtain ⟨j,hj,e⟩:=BT6 (d:=d4) (As7 hm)
  have e1:lkF W p=v.1:=by unfold lkF;rw [hm]
  have e2:lkT W p=v.2.1:=by unfold lkT;rw [hm]
  have e3:lkZ W p=v.2.2:=by unfold lkZ;rw [hm]
  have e':nth d4 W j=(((p:Nat):Int),lkF W p,lkT W p,lkZ W p):=by rw [e,e1,e2,e3]
  obtain ⟨_,h2⟩:=h.oW j hj
  rw [e'] at h2
  rcases h2 with ⟨h3,h4,h5,h6⟩ | ⟨h3,h4,h5⟩
  ·exact .fr j hj e' h3 h4 h5 h6
  ·exact .sl j hj e' h3 h4 h5
theorem keyD (h:BI0 s a n pg sl W D i o) {k:Int} {x:Nat→Int} (hx:mgI D k=some x):0≤k∧k < sl:=by
 obtain ⟨j,hj,e⟩:=BT6 (d:=d5) (As7 hx)
 have h1:=BH4 h.aD j hj
 have h2:=h.bD j hj
 (try dsimp only at h1)
 rw [e] at h1 h2
 exact ⟨h1,h2⟩
def ldQ (s:Sy) (a n pg sl:Int) (W:List (Int × Int × Int × Int)) (D:List (Int × (Nat→Int))) (i o:Int):Sw:=⟨a.toNat,n.toNat,pg.toNat,sl.toNat,lkF W,lkT W,lkZ W,lkD D,i,o,s⟩
theorem BN0 (hg:GoodS s) (h:BI0 s a n pg sl W D i o):F5 (ldQ s a n pg sl W D i o):=by
 obtain ⟨s1,s2,s3,s4,s5,s6,s7,s8⟩:=h.st
 have hpg:∀ p:Nat,pg.toNat≤p→lkF W p = -1∧lkT W p = -1:=fun p hp=>by
  rcases lk_r h p with ⟨_,h2,h3,_⟩ | ⟨j,hj,e,_⟩ | ⟨j,hj,e,_⟩
  ·exact ⟨h2,h3⟩
  ·have:=(h.oW j hj).1.1;rw [e] at this;(try dsimp only at this);omega
  ·have:=(h.oW j hj).1.1;rw [e] at this;(try dsimp only at this);omega
 refine ⟨hg,⟨by show 1≤n.toNat;omega,by show a.toNat+n.toNat≤1024;omega,by show 1≤pg.toNat;omega,by show pg.toNat≤256;omega,by show sl.toNat≤256;omega⟩,fun f h1 h2=>?_,hpg,fun p=>?_,fun p=>?_,fun p q h1 h2=>?_,fun p q h1 h2=>?_,fun p=>?_,⟨h.mn.1,h.mn.2.1,h.mn.2.2.1,h.mn.2.2.2⟩⟩
 ·have h1:a.toNat≤f:=h1
  have h2:f < a.toNat+n.toNat:=h2
  obtain ⟨f1,f2⟩:=h.fr f (by omega) (by omega)
  exact ⟨f2.elim .inr fun h=>.inl h.1,f1⟩
 ·show lkF W p = -1∨(lkT W p = -1∧∃ f:Nat,lkF W p=(f:Nat)∧a.toNat≤f∧f < a.toNat+n.toNat∧s.K f=2)
  rcases lk_r h p with ⟨_,h2,_⟩ | ⟨j,hj,e,h2,h3,h4,_⟩ | ⟨j,hj,e,h2,_⟩
  ·exact .inl h2
  ·obtain ⟨f,hf⟩:=Int.eq_ofNat_of_zero_le (by omega:0≤lkF W p)
   refine .inr ⟨h2,f,hf,by omega,by omega,?_⟩
   rcases (h.fr f (by omega) (by omega)).2 with h5 | ⟨_,h5⟩
   ·exact h5
   ·exact absurd (An4 h5 hj hj (by rw [e];exact hf) (Int.natCast_nonneg _)) id
  ·exact .inl h2
 ·show lkT W p = -1∨(lkF W p = -1∧∃ k:Nat,lkT W p=(k:Nat)∧k < sl.toNat)
  rcases lk_r h p with ⟨_,_,h2,_⟩ | ⟨j,hj,e,h2,_⟩ | ⟨j,hj,e,h2,⟨x,hx⟩,_⟩
  ·exact .inl h2
  ·exact .inl h2
  ·obtain ⟨k1,k2⟩:=keyD h hx
   obtain ⟨k,hk⟩:=Int.eq_ofNat_of_zero_le k1
   exact .inr ⟨h2,k,hk,by omega⟩
 ·have h1:0≤lkF W p:=h1
  have h2:lkF W p=lkF W q:=h2
  refine Classical.byContradiction fun hne=>?_
  rcases lk_r h p with ⟨_,h3,_⟩ | ⟨j,hj,e,_,_,_,hn⟩ | ⟨j,hj,e,h3,_⟩
  ·omega
  ·rcases lk_r h q with ⟨_,h3,_⟩ | ⟨k,hk,e',_,_,_,hn'⟩ | ⟨k,hk,e',h3,_⟩
   ·omega
   ·have hjk:j ≠ k:=fun ee=>by subst ee;rw [e] at e';have:=congrArg (·.1) e';(try dsimp only at this);omega
    rcases Nat.lt_or_gt_of_ne hjk with hlt|hlt
    ·exact An4 hn' hlt hj (by rw [e];exact h2) (by omega)
    ·exact An4 hn hlt hk (by rw [e'];exact h2.symm) (by omega)
   ·omega
  ·omega
 ·have h1:0≤lkT W p:=h1
  have h2:lkT W p=lkT W q:=h2
  refine Classical.byContradiction fun hne=>?_
  rcases lk_r h p with ⟨_,_,h3,_⟩ | ⟨j,hj,e,h3,_⟩ | ⟨j,hj,e,hF,_,hn⟩
  ·omega
  ·omega
  ·rcases lk_r h q with ⟨_,_,h3,_⟩ | ⟨k,hk,e',h3,_⟩ | ⟨k,hk,e',hF',_,hn'⟩
   ·omega
   ·omega
   ·have hjk:j ≠ k:=fun ee=>by subst ee;rw [e] at e';have:=congrArg (·.1) e';(try dsimp only at this);omega
    rcases Nat.lt_or_gt_of_ne hjk with hlt|hlt
    ·exact BB2 hn' hlt hj (by rw [e];show ¬ 0≤lkF W p;omega) (by rw [e];exact h2)
    ·exact BB2 hn hlt hk (by rw [e'];show ¬ 0≤lkF W q;omega) (by rw [e'];exact h2.symm)
 ·show 0≤lkZ W p∧lkZ W p≤1000000000000
  rcases lk_r h p with ⟨_,_,_,h2⟩ | ⟨j,hj,e,_⟩ | ⟨j,hj,e,_⟩
  ·omega
  ·have:=(h.oW j hj).1.2;rw [e] at this;exact this
  ·have:=(h.oW j hj).1.2;rw [e] at this;exact this
theorem whr_ld (hg:GoodS s) (h:BI0 s a n pg sl W D i o):(ldQ s a n pg sl W D i o).whr=W:=by
 have hG:=BN0 hg h
 have hnd:=BK9 (Ab2 h.aW)
 refine BF7 ?_ (Ab2 h.aW) fun e=>?_
 ·unfold Sw.whr
  exact List.Pairwise.map (R:=fun x y:Nat=>x < y) _ (fun x y (hxy:x < y)=>by show ((x:Nat):Int) < (y:Nat);omega) Ai0
 ·unfold Sw.whr
  rw [List.mem_map]
  constructor
  ·rintro ⟨p,hp,rfl⟩
   have hp:=(AC2 hG).1 hp
   have hp:0≤lkF W p∨0≤lkT W p:=hp
   show (((p:Nat):Int),lkF W p,lkT W p,lkZ W p) ∈ W
   rcases lk_r h p with ⟨_,h1,h2,_⟩ | ⟨j,hj,e,_⟩ | ⟨j,hj,e,_⟩
   ·omega
   ·rw [← e];exact AE5 hj
   ·rw [← e];exact AE5 hj
  ·intro he
   obtain ⟨j,hj,ej⟩:=BT6 (d:=d4) he
   have h0:=BH4 h.aW j hj
   (try dsimp only at h0)
   rw [ej] at h0
   obtain ⟨p,hp⟩:=Int.eq_ofNat_of_zero_le h0
   have hm:mgI W e.1=some e.2:=BT5 hnd he
   rw [hp] at hm
   refine ⟨p,(AC2 hG).2 ?_,?_⟩
   ·show 0≤lkF W p∨0≤lkT W p
    have:=h.st.1
    rcases lk_r h p with ⟨h1,_⟩ | ⟨_,_,_,_,h2,_⟩ | ⟨_,_,_,_,⟨x,hx⟩,_⟩
    ·rw [hm] at h1;cases h1
    ·left;omega
    ·right;exact (keyD h hx).1
   ·show (((p:Nat):Int),lkF W p,lkT W p,lkZ W p)=e
    unfold lkF lkT lkZ
    rw [hm,← hp]
theorem use_key (h:BI0 s a n pg sl W D i o) {k:Int} (hk:k ∈ (Ac0 W W.length).map (·.1)):k ∈ D.map (·.1):=by
 obtain ⟨⟨k',b⟩,he,rfl⟩:=List.mem_map.1 hk
 obtain ⟨j,_,hj,hF,hT,_⟩:=Au7 he
 have:=h.st.1
 rcases (h.oW j hj).2 with ⟨_,h2,_⟩ | ⟨_,⟨x,hx⟩,_⟩
 ·omega
 ·rw [hT] at hx;exact Am3.2 ⟨x,hx⟩
theorem use_nd (h:BI0 s a n pg sl W D i o):∀ m,m≤W.length→ndI (Ac0 W m)
 | 0,_=>List.nodup_nil
 | m+1,hm=>by
  have ih:=use_nd h m (by omega)
  by_cases c:0≤(nth d4 W m).2.1
  ·rw [useW_f (by omega) c];exact ih
  ·rw [useW_t (by omega) c]
   have:=h.st.1
   rcases (h.oW m (by omega)).2 with ⟨_,h2,_⟩ | ⟨_,_,h2⟩
   ·omega
   ·exact nd_app ih h2
theorem dsk_ld (hg:GoodS s) (h:BI0 s a n pg sl W D i o):(ldQ s a n pg sl W D i o).dsk=D:=by
 have hG:=BN0 hg h
 have hnd:=BK9 (Ab2 h.aD)
 have hall:∀ k,k ∈ D.map (·.1)→k ∈ (Ac0 W W.length).map (·.1):=by
  have hsub:(Ac0 W W.length).map (·.1) ⊆ D.map (·.1):=fun k hk=>use_key h hk
  have hn1:((Ac0 W W.length).map (·.1)).Nodup:=use_nd h _ (Nat.le_refl _)
  intro k hk
  refine Classical.byContradiction fun hn=>?_
  have:=Am9 (a:=k::(Ac0 W W.length).map (·.1)) (b:=D.map (·.1)) (List.nodup_cons.2 ⟨hn,hn1⟩) fun x hx=>by
   rcases List.mem_cons.1 hx with rfl|hx
   ·exact hk
   ·exact hsub hx
  rw [List.length_cons,List.length_map,List.length_map,h.us] at this
  omega
 refine BF7 ?_ (Ab2 h.aD) fun e=>?_
 ·unfold Sw.dsk
  exact List.Pairwise.map (R:=fun x y:Nat=>x < y) _ (fun x y (hxy:x < y)=>by show ((x:Nat):Int) < (y:Nat);omega) Ah8
 ·unfold Sw.dsk
  rw [List.mem_map]
  constructor
  ·rintro ⟨k,hk,rfl⟩
   obtain ⟨p,_,hT⟩:=(AB8 hG).1 hk
   have hT:lkT W p=(k:Nat):=hT
   show (((k:Nat):Int),lkD D k) ∈ D
   rcases lk_r h p with ⟨_,_,h2,_⟩ | ⟨j,hj,e,h2,_⟩ | ⟨j,hj,e,_,⟨x,hx⟩,_⟩
   ·omega
   ·omega
   ·rw [hT] at hx
    unfold lkD
    rw [hx]
    exact As7 hx
  ·intro he
   obtain ⟨j,hj,ej⟩:=BT6 (d:=d5) he
   have h0:=BH4 h.aD j hj
   (try dsimp only at h0)
   rw [ej] at h0
   obtain ⟨k,hk⟩:=Int.eq_ofNat_of_zero_le h0
   have hm:mgI D e.1=some e.2:=BT5 hnd he
   rw [hk] at hm
   refine ⟨k,(AB8 hG).2 ?_,?_⟩
   ·have hu:=hall e.1 (List.mem_map.2 ⟨e,he,rfl⟩)
    obtain ⟨⟨k',b⟩,hue,hke⟩:=List.mem_map.1 hu
    have hke:k'=e.1:=hke
    obtain ⟨j',_,hj',hF,hT,_⟩:=Au7 hue
    have hw0:=BH4 h.aW j' hj'
    (try dsimp only at hw0)
    obtain ⟨p,hp⟩:=Int.eq_ofNat_of_zero_le hw0
    have hmw:mgI W (p:Nat)=some (nth d4 W j').2:=by rw [← hp];exact BT5 (BK9 (Ab2 h.aW)) (AE5 hj')
    have hTp:lkT W p=(k:Nat):=by unfold lkT;rw [hmw];show (nth d4 W j').2.2.1=_;rw [hT,hke,hk]
    refine ⟨p,?_,hTp⟩
    have:=(h.oW j' hj').1.1
    show p < pg.toNat
    omega
   ·show (((k:Nat):Int),lkD D k)=e
    unfold lkD
    rw [hm,← hk]
theorem ld_build (hg:GoodS s) (h:BI0 s a n pg sl W D i o):LdZ s (T9 a n pg sl W D i o):=by
 refine ⟨ldQ s a n pg sl W D i o,BN0 hg h,rfl,?_⟩
 obtain ⟨s1,s2,s3,s4,s5,s6,s7,s8⟩:=h.st
 unfold Sw.save
 rw [whr_ld hg h,dsk_ld hg h]
 show T9 ((a.toNat:Nat):Int) ((n.toNat:Nat):Int) ((pg.toNat:Nat):Int) ((sl.toNat:Nat):Int) W D i o=_
 rw [Int.toNat_of_nonneg s1,Int.toNat_of_nonneg (by omega:0≤n),Int.toNat_of_nonneg (by omega:0≤pg),Int.toNat_of_nonneg s7]
end
end Go.Pol
