/-
 Both stores: their memory;a step's contract.
 The maps of a store that is loaded: its lists,in their order.
 SwapFits,plain: what holds after each call;all pages freed.
 A store is loaded.
 A step of both stores.
 Save of the document.
 Save of the document: its end,and free pages.
 Save of the document: a new run.
 Save of the document: a new run.
-/
import Derived.Test.YtbhgfoikbkaohaaGreatQas
set_option linter.unusedSimpArgs false
set_option linter.unusedVariables false
set_option maxHeartbeats 12800000
namespace Go.Proofs.YtbhgfoikbkaohaaGreat.Sh
open Go Go.Am Go.Pol
def twN (q:Sw) (t:WS) (o w d m s u g:Nat):List (Nat × AObj):=[(o,.cells (stC s w d m q)),(w,.maps (encW pgE t.W)),(d,.maps (encW byE t.D)),(m,.maps (encW nuE t.H)),(s,.cells q.s.a),(u,.cells (rfC g q)),(g,.cells q.s.b)]
theorem BM5 {top:Bool} {h:Hp} {N0 n:Nat} {x r:AV} {q:Sw} {t:WS} (ren:List (Nat × Nat)) (o w d m s u g:Nat) (hkp:AR5 N0 ren=true) (hm:N0≤n) (hone:Ab1 [rn ren o,rn ren w,rn ren d,rn ren m,rn ren s,rn ren u,rn ren g]=true)
  (hlt:o < n∧w < n∧d < n∧m < n∧s < n∧u < n∧g < n)
  (hr:AH3 (rn ren) h ⟨twN q t o w d m s u g,n⟩→WkV Tryz.prog (rn ren) h ⟨twN q t o w d m s u g,n⟩ x r) (g0:lk h.l (rn ren o)=some (.cells (stC (rn ren s) (rn ren w) (rn ren d) (rn ren m) q))) (g1:lk h.l (rn ren w)=some (.maps (encW pgE t.W))) (g2:lk h.l (rn ren d)=some (.maps (encW byE t.D))) (g3:lk h.l (rn ren m)=some (.maps (encW nuE t.H))) (g4:lk h.l (rn ren s)=some (.cells q.s.a)) (g5:lk h.l (rn ren u)=some (.cells (rfC (rn ren g) q))) (g6:lk h.l (rn ren g)=some (.cells q.s.b)) :
  AV3 top Tryz.prog N0 h x (fun r' h'=>r'=r∧h'=⟨twN q t o w d m s u g,n⟩):=by
 obtain ⟨l0,l1,l2,l3,l4,l5,l6⟩:=hlt
 have hs:AH3 (rn ren) h ⟨twN q t o w d m s u g,n⟩:=fun j x hi=>by
  simp only [twN,lk] at hi
  split at hi
  ·rename_i e;subst e;exact ⟨_,g0⟩
  ·split at hi
   ·rename_i e;subst e;exact ⟨_,g1⟩
   ·split at hi
    ·rename_i e;subst e;exact ⟨_,g2⟩
    ·split at hi
     ·rename_i e;subst e;exact ⟨_,g3⟩
     ·split at hi
      ·rename_i e;subst e;exact ⟨_,g4⟩
      ·split at hi
       ·rename_i e;subst e;exact ⟨_,g5⟩
       ·split at hi
        ·rename_i e;subst e;exact ⟨_,g6⟩
        ·cases hi
 refine AB9 ren hkp hm (O7 (l:=twN q t o w d m s u g) hone) (hr hs) ?_ ⟨rfl,rfl⟩
 exact AV5 l0 g0 rfl l4 rfl l1 rfl l2 rfl l3 (M5 hs l1 g1 rfl (D5 J7) (M5 hs l2 g2 rfl (D5 J8) (M5 hs l3 g3 rfl (D5 J5) (G9 hs l4 g4 rfl G8 (AV6 hs l5 g5 (s':=g) rfl l6 (G9 hs l6 g6 rfl F6 I5))))))
structure BN6 (x:SAc) (q:Sw) (t:WS) (q':Sw) (t':WS):Prop where
 out:AU0 Tryz.prog G0 18 [.ptr 4 0,.ptr 0 0,.ptr 6 0,.ptr 5 0,.agg (Aj3 x)] (twN q t 0 1 2 3 4 5 6) 7 fun z h1=>z = .tup [.ptr 0 0,.bool true]∧h1=⟨twN q' t' 0 1 2 3 4 5 6,7⟩
structure LocSTB (x:SAc) (q:Sw) (t:WS) (q':Sw) (t':WS):Prop where
 out:AU0 Tryz.prog G0 18 [.ptr 4 0,.ptr 0 0,.ptr 6 0,.ptr 5 0,.agg (Aj3 x)] (twN q t 0 1 2 3 4 5 6) 7 fun z h1=>z = .tup [.ptr 7 0,.bool true]∧h1=⟨twN q' t' 7 8 9 10 4 5 6,11⟩
theorem cx_T {x:SAc} {q q':Sw} {t t':WS} {o w d m s u g nx:Nat} {l:List (Nat × AObj)} {K:AV→Hp→Prop} (hc:BN6 x q t q' t') (g0:lk l o=some (.cells (stC s w d m q))) (g1:lk l w=some (.maps (encW pgE t.W))) (g2:lk l d=some (.maps (encW byE t.D))) (g3:lk l m=some (.maps (encW nuE t.H))) (g4:lk l s=some (.cells q.s.a)) (g5:lk l u=some (.cells (rfC g q))) (g6:lk l g=some (.cells q.s.b))
  (hlt:o < nx∧w < nx∧d < nx∧m < nx∧s < nx∧u < nx∧g < nx) (hd:Ab1 [o,w,d,m,s,u,g]=true)
  (hk:AO2 [o,w,d,m,s,u,g] l fun l2=>K (.tup [.ptr o 0,.bool true]) ⟨([(o,.cells (stC s w d m q')),(w,.maps (encW pgE t'.W)),(d,.maps (encW byE t'.D)),(m,.maps (encW nuE t'.H)),(s,.cells q'.s.a),(u,.cells (rfC g q')),(g,.cells q'.s.b)]:List (Nat × AObj))++l2,nx⟩):AL4 Tryz.prog G0 (.fn 18 [] []) [.ptr s 0,.ptr o 0,.ptr g 0,.ptr u 0,.agg (Aj3 x)] ⟨l,nx⟩ K:=by
 have e0:enter [o,w,d,m,s,u,g] o 0:=rfl
 have e1:enter [o,w,d,m,s,u,g] w 1:=rfl
 have e2:enter [o,w,d,m,s,u,g] d 2:=rfl
 have e3:enter [o,w,d,m,s,u,g] m 3:=rfl
 have e4:enter [o,w,d,m,s,u,g] s 4:=rfl
 have e5:enter [o,w,d,m,s,u,g] u 5:=rfl
 have e6:enter [o,w,d,m,s,u,g] g 6:=rfl
 have k0:back [o,w,d,m,s,u,g] nx 0 o:=rfl
 have k1:back [o,w,d,m,s,u,g] nx 1 w:=rfl
 have k2:back [o,w,d,m,s,u,g] nx 2 d:=rfl
 have k3:back [o,w,d,m,s,u,g] nx 3 m:=rfl
 have k4:back [o,w,d,m,s,u,g] nx 4 s:=rfl
 have k5:back [o,w,d,m,s,u,g] nx 5 u:=rfl
 have k6:back [o,w,d,m,s,u,g] nx 6 g:=rfl
 refine AO7 (r':=.tup [.ptr o 0,.bool true]) (l1:=twN q' t' o w d m s u g) [o,w,d,m,s,u,g] hc.out H8 hd
  (.cons e0 g0 (AQ2 e4 e1 e2 e3) (.maps e1 g1 (D5 J7) (.maps e2 g2 (D5 J8) (.maps e3 g3 (D5 J5) (.cons e4 g4 (D8 G8) (.cons e5 g5 (AU6 e6) (.cons e6 g6 (D8 F6) .nil)))))))
  ?_ (by intro x hx;simp only [List.mem_cons,List.not_mem_nil,or_false] at hx;omega) (BA7 ⟨O5 k0,F5 C9,trivial⟩)
  (.cons k0 (AQ2 k4 k1 k2 k3) (.maps k1 (D5 J7) (.maps k2 (D5 J8) (.maps k3 (D5 J5) (.cons k4 (D8 G8) (.cons k5 (AU6 k6) (.cons k6 (D8 F6) .nil))))))) hk
 simp only [List.nil_append,List.append_nil]
 exact ⟨O5 e4,O5 e0,O5 e6,O5 e5,F5 (AM1 x),trivial⟩
theorem cx_TB {x:SAc} {q q':Sw} {t t':WS} {o w d m s u g nx:Nat} {l:List (Nat × AObj)} {K:AV→Hp→Prop} (hc:LocSTB x q t q' t') (g0:lk l o=some (.cells (stC s w d m q))) (g1:lk l w=some (.maps (encW pgE t.W))) (g2:lk l d=some (.maps (encW byE t.D))) (g3:lk l m=some (.maps (encW nuE t.H))) (g4:lk l s=some (.cells q.s.a)) (g5:lk l u=some (.cells (rfC g q))) (g6:lk l g=some (.cells q.s.b))
  (hlt:o < nx∧w < nx∧d < nx∧m < nx∧s < nx∧u < nx∧g < nx) (hd:Ab1 [o,w,d,m,s,u,g]=true)
  (hk:AO2 [o,w,d,m,s,u,g] l fun l2=>K (.tup [.ptr nx 0,.bool true]) ⟨([(nx,.cells (stC s (nx+1) (nx+2) (nx+3) q')),((nx+1),.maps (encW pgE t'.W)),((nx+2),.maps (encW byE t'.D)),((nx+3),.maps (encW nuE t'.H)),(s,.cells q'.s.a),(u,.cells (rfC g q')),(g,.cells q'.s.b)]:List (Nat × AObj))++l2,nx+4⟩):AL4 Tryz.prog G0 (.fn 18 [] []) [.ptr s 0,.ptr o 0,.ptr g 0,.ptr u 0,.agg (Aj3 x)] ⟨l,nx⟩ K:=by
 have e0:enter [o,w,d,m,s,u,g] o 0:=rfl
 have e1:enter [o,w,d,m,s,u,g] w 1:=rfl
 have e2:enter [o,w,d,m,s,u,g] d 2:=rfl
 have e3:enter [o,w,d,m,s,u,g] m 3:=rfl
 have e4:enter [o,w,d,m,s,u,g] s 4:=rfl
 have e5:enter [o,w,d,m,s,u,g] u 5:=rfl
 have e6:enter [o,w,d,m,s,u,g] g 6:=rfl
 have k0:back [o,w,d,m,s,u,g] nx 7 nx:=rfl
 have k1:back [o,w,d,m,s,u,g] nx 8 (nx+1):=rfl
 have k2:back [o,w,d,m,s,u,g] nx 9 (nx+2):=rfl
 have k3:back [o,w,d,m,s,u,g] nx 10 (nx+3):=rfl
 have k4:back [o,w,d,m,s,u,g] nx 4 s:=rfl
 have k5:back [o,w,d,m,s,u,g] nx 5 u:=rfl
 have k6:back [o,w,d,m,s,u,g] nx 6 g:=rfl
 refine AO7 (r':=.tup [.ptr nx 0,.bool true]) (l1:=twN q' t' nx (nx+1) (nx+2) (nx+3) s u g) [o,w,d,m,s,u,g] hc.out H8 hd
  (.cons e0 g0 (AQ2 e4 e1 e2 e3) (.maps e1 g1 (D5 J7) (.maps e2 g2 (D5 J8) (.maps e3 g3 (D5 J5) (.cons e4 g4 (D8 G8) (.cons e5 g5 (AU6 e6) (.cons e6 g6 (D8 F6) .nil)))))))
  ?_ (by intro x hx;simp only [List.mem_cons,List.not_mem_nil,or_false] at hx;omega) (BA7 ⟨O5 k0,F5 C9,trivial⟩)
  (.cons k0 (AQ2 k4 k1 k2 k3) (.maps k1 (D5 J7) (.maps k2 (D5 J8) (.maps k3 (D5 J5) (.cons k4 (D8 G8) (.cons k5 (AU6 k6) (.cons k6 (D8 F6) .nil))))))) hk
 simp only [List.nil_append,List.append_nil]
 exact ⟨O5 e4,O5 e0,O5 e6,O5 e5,F5 (AM1 x),trivial⟩
end Go.Proofs.YtbhgfoikbkaohaaGreat.Sh
namespace Go.Pol
open Go.Am Go.Proofs.YtbhgfoikbkaohaaGreat.Sh
section
variable {β:Type}
theorem Ak9 {k:Int} {v:β}:∀ {L:List (Int × β)},mgI L k=none→mpI L k v=L++[(k,v)]
 | [],_=>rfl
 | e::L,h=>by
  unfold mgI at h
  split at h
  ·cases h
  ·rename_i hne
   unfold mpI
   rw [if_neg hne,Ak9 h];rfl
theorem nd_take {d:Int × β} {L:List (Int × β)} (hn:ndI L) {j:Nat} (hj:j < L.length):mgI (L.take j) (nth d L j).1=none:=by
 refine AN6.2 fun hm=>?_
 obtain ⟨e,he,hk⟩:=List.mem_map.1 hm
 obtain ⟨i,hi,rfl⟩:=List.getElem_of_mem he
 rw [List.length_take] at hi
 rw [List.getElem_take,P9 hj] at hk
 have:=List.pairwise_iff_getElem.1 hn i j (by rw [List.length_map];omega) (by rw [List.length_map];exact hj) (by omega)
 rw [List.getElem_map,List.getElem_map] at this
 exact this hk
theorem BR6 {d:Int × β}:∀ {L:List (Int × β)} (_:ndI L) {j:Nat} (_:j < L.length),mgI L (nth d L j).1=some (nth d L j).2
 | e::L,hn,0,_=>by
  show (if e.1=e.1 then some e.2 else mgI L e.1)=_
  rw [if_pos rfl];rfl
 | e::L,hn,j+1,hj=>by
  have hn':=List.nodup_cons.1 hn
  have hj':j < L.length:=by simpa using hj
  have ih:=BR6 (d:=d) (L:=L) hn'.2 hj'
  have en:nth d (e::L) (j+1)=nth d L j:=rfl
  rw [en]
  show (if (nth d L j).1=e.1 then some e.2 else mgI L (nth d L j).1)=_
  rw [if_neg,ih]
  intro he
  exact hn'.1 (List.mem_map.2 ⟨nth d L j,AN5 hj',he⟩)
end
section
variable {q:Sw}
theorem dsk_nd:ndI q.dsk:=by
 unfold ndI Sw.dsk
 rw [List.map_map]
 exact List.Pairwise.map (R:=fun a b=>a ≠ b) _ (fun a b hab e=>hab (by have : ((a:Nat):Int)=b:=e;omega)) (List.nodup_range.filter _)
theorem whr_nd:ndI q.whr:=by
 unfold ndI Sw.whr
 rw [List.map_map]
 exact List.Pairwise.map (R:=fun a b=>a ≠ b) _ (fun a b hab e=>hab (by have : ((a:Nat):Int)=b:=e;omega)) BQ5
theorem dsk_nth {j:Nat} (h:j < q.slots.length):nth d5 q.dsk j=dkE q (nth 0 q.slots j):=by
 unfold Sw.dsk
 rw [P9 (by rw [List.length_map];exact h),P9 h,List.getElem_map]
def helE (e:Int × Int × Int × Int):Option (Int × Int):=if 0≤e.2.1 then some (e.2.1,e.1) else none
def useE (e:Int × Int × Int × Int):Option (Int × Bool):=if 0≤e.2.1 then none else some (e.2.2.1,true)
def Ab2 (q:Sw) (j:Nat):List (Int × Int):=(q.whr.take j).filterMap helE
def Ay6 (q:Sw) (j:Nat):List (Int × Bool):=(q.whr.take j).filterMap useE
theorem hel_0:Ab2 q 0=[]:=rfl
theorem use_0:Ay6 q 0=[]:=rfl
theorem hel_s {j:Nat} (h:j < q.pages.length):Ab2 q (j+1)=Ab2 q j++if 0≤q.F (nth 0 q.pages j) then [(q.F (nth 0 q.pages j),((nth 0 q.pages j:Nat):Int))] else []:=by
 unfold Ab2
 rw [whr_s h,List.filterMap_append]
 congr 1
 unfold helE whE
 by_cases c:0≤q.F (nth 0 q.pages j)
 ·rw [if_pos c];simp [c]
 ·rw [if_neg c];simp [c]
theorem use_s {j:Nat} (h:j < q.pages.length):Ay6 q (j+1)=Ay6 q j++if 0≤q.F (nth 0 q.pages j) then [] else [(q.T (nth 0 q.pages j),true)]:=by
 unfold Ay6
 rw [whr_s h,List.filterMap_append]
 congr 1
 unfold useE whE
 by_cases c:0≤q.F (nth 0 q.pages j)
 ·rw [if_pos c];simp [c]
 ·rw [if_neg c];simp [c]
theorem BL0 {j:Nat} {f p:Int} (h:(f,p) ∈ Ab2 q j):∃ i:Nat,i < j∧i < q.pages.length∧p=(nth 0 q.pages i:Nat)∧f=q.F (nth 0 q.pages i)∧0≤f:=by
 unfold Ab2 at h
 obtain ⟨e,he,hh⟩:=List.mem_filterMap.1 h
 obtain ⟨i,hi,rfl⟩:=List.getElem_of_mem he
 rw [List.length_take,AL0] at hi
 rw [List.getElem_take,← P9 (d:=d4) (by rw [AL0];omega),Ai0 (by omega)] at hh
 unfold helE whE at hh
 split at hh
 ·rename_i c
  cases hh
  exact ⟨i,by omega,by omega,rfl,rfl,c⟩
 ·cases hh
theorem use_mem {j:Nat} {k:Int} {b:Bool} (h:(k,b) ∈ Ay6 q j):∃ i:Nat,i < j∧i < q.pages.length∧k=q.T (nth 0 q.pages i)∧¬ 0≤q.F (nth 0 q.pages i)∧b=true:=by
 unfold Ay6 at h
 obtain ⟨e,he,hh⟩:=List.mem_filterMap.1 h
 obtain ⟨i,hi,rfl⟩:=List.getElem_of_mem he
 rw [List.length_take,AL0] at hi
 rw [List.getElem_take,← P9 (d:=d4) (by rw [AL0];omega),Ai0 (by omega)] at hh
 unfold useE whE at hh
 split at hh
 ·cases hh
 ·rename_i c
  cases hh
  exact ⟨i,by omega,by omega,rfl,c,rfl⟩
theorem BC1 {i j:Nat} (hi:i < q.pages.length) (hj:j < q.pages.length) (h:nth 0 q.pages i=nth 0 q.pages j):i=j:=by
 rw [P9 hi,P9 hj] at h
 have hp:=Au1 (w:=q)
 rcases Nat.lt_trichotomy i j with h1|h1|h1
 ·have:=List.pairwise_iff_getElem.1 hp i j hi hj h1;omega
 ·exact h1
 ·have:=List.pairwise_iff_getElem.1 hp j i hj hi h1;omega
theorem hel_new (hg:F3 q) {j:Nat} (h:j < q.pages.length) (h0:0≤q.F (nth 0 q.pages j)):mgI (Ab2 q j) (q.F (nth 0 q.pages j))=none:=AN6.2 fun hm=>by
 obtain ⟨⟨f,p⟩,he,hk⟩:=List.mem_map.1 hm
 obtain ⟨i,h1,h2,_,h4,h5⟩:=BL0 he
 have hk:f=q.F (nth 0 q.pages j):=hk
 have:=hg.oneF (nth 0 q.pages i) (nth 0 q.pages j) (by omega) (by omega)
 have:=BC1 h2 h this
 omega
theorem hel_neg {j:Nat}:mgI (Ab2 q j) (-1)=none:=AN6.2 fun hm=>by
 obtain ⟨⟨f,p⟩,he,hk⟩:=List.mem_map.1 hm
 obtain ⟨i,_,_,_,_,h5⟩:=BL0 he
 have hk:f = -1:=hk
 omega
theorem use_new (hg:F3 q) {j:Nat} (h:j < q.pages.length) (h0:¬ 0≤q.F (nth 0 q.pages j)):mgI (Ay6 q j) (q.T (nth 0 q.pages j))=none:=AN6.2 fun hm=>by
 obtain ⟨⟨k,b⟩,he,hk⟩:=List.mem_map.1 hm
 obtain ⟨i,h1,h2,h3,_,_⟩:=use_mem he
 have hk:k=q.T (nth 0 q.pages j):=hk
 have h6:0≤q.T (nth 0 q.pages j):=(BR3 hg h).resolve_left h0
 have:=hg.oneT (nth 0 q.pages i) (nth 0 q.pages j) (by omega) (by omega)
 have:=BC1 h2 h this
 omega
theorem mgI_mem {β:Type} {k:Int} {v:β}:∀ {L:List (Int × β)},mgI L k=some v→(k,v) ∈ L
 | [],h=>by cases h
 | e::L,h=>by
  unfold mgI at h
  split at h
  ·rename_i hk;cases h;subst hk;exact List.mem_cons_self ..
  ·exact List.mem_cons_of_mem _ (mgI_mem h)
theorem mem_mgI {β:Type} {k:Int} {v:β} {L:List (Int × β)} (hn:ndI L) (h:(k,v) ∈ L):mgI L k=some v:=by
 obtain ⟨j,hj,e⟩:=List.getElem_of_mem h
 have:=BR6 (d:=(k,v)) hn hj
 rw [P9 hj,e] at this
 exact this
theorem nd_app {β:Type} {k:Int} {v:β} {L:List (Int × β)} (hn:ndI L) (h:mgI L k=none):ndI (L++[(k,v)]):=by
 rw [← Ak9 h];exact Ak8 hn
theorem hel_nd (hg:F3 q):∀ j,j≤q.pages.length→ndI (Ab2 q j)
 | 0,_=>List.nodup_nil
 | j+1,h=>by
  have ih:=hel_nd hg j (by omega)
  rw [hel_s (by omega)]
  split
  ·rename_i c;exact nd_app ih (hel_new hg (by omega) c)
  ·rw [List.append_nil];exact ih
theorem page_ix {p:Nat} (hg:F3 q) (h:q.is p):∃ j,j < q.pages.length∧nth 0 q.pages j=p:=by
 obtain ⟨j,hj,e⟩:=List.getElem_of_mem ((AM3 hg).2 h)
 exact ⟨j,hj,by rw [P9 hj,e]⟩
theorem hel_in {j:Nat} (h:j < q.pages.length) (h0:0≤q.F (nth 0 q.pages j)):(q.F (nth 0 q.pages j),((nth 0 q.pages j:Nat):Int)) ∈ Ab2 q q.pages.length:=by
 unfold Ab2
 rw [As9]
 refine List.mem_filterMap.2 ⟨whE q (nth 0 q.pages j),?_,?_⟩
 ·rw [← Ai0 h];exact AN5 (by rw [AL0];exact h)
 ·unfold helE whE;rw [if_pos h0]
theorem Ag1 (hg:F3 q):WOk q ⟨q.whr,q.dsk,Ab2 q q.pages.length⟩:=by
 refine ⟨whr_nd,dsk_nd,hel_nd hg _ (Nat.le_refl _),fun p=>?_,fun k=>?_,fun f p=>?_⟩
 ·show mgI q.whr p=_
  by_cases hp:0≤p∧q.is p.toNat
  ·rw [if_pos hp]
   obtain ⟨j,hj,e⟩:=page_ix hg hp.2
   have h1:=BR6 (d:=d4) (whr_nd (q:=q)) (j:=j) (by rw [AL0];exact hj)
   rw [Ai0 hj,e] at h1
   have h2:(whE q p.toNat).1=p:=by show ((p.toNat:Nat):Int)=p;omega
   rw [h2] at h1;exact h1
  ·rw [if_neg hp]
   refine AN6.2 fun hm=>hp ?_
   obtain ⟨e,he,hk⟩:=List.mem_map.1 hm
   unfold Sw.whr at he
   obtain ⟨r,hr,rfl⟩:=List.mem_map.1 he
   have hk:((r:Nat):Int)=p:=hk
   exact ⟨by omega,by rw [← hk,Int.toNat_natCast];exact (AM3 hg).1 hr⟩
 ·show mgI q.dsk k=_
  by_cases hp:0≤k∧q.heldT k.toNat
  ·rw [if_pos hp]
   obtain ⟨j,hj,e⟩:=List.getElem_of_mem ((AQ0 hg).2 hp.2)
   have h1:=BR6 (d:=d5) (dsk_nd (q:=q)) (j:=j) (by rw [Ad7];exact hj)
   rw [dsk_nth hj,P9 hj,e] at h1
   have h2:(dkE q k.toNat).1=k:=by show ((k.toNat:Nat):Int)=k;omega
   rw [h2] at h1;exact h1
  ·rw [if_neg hp]
   refine AN6.2 fun hm=>hp ?_
   obtain ⟨e,he,hk⟩:=List.mem_map.1 hm
   unfold Sw.dsk at he
   obtain ⟨r,hr,rfl⟩:=List.mem_map.1 he
   have hk:((r:Nat):Int)=k:=hk
   exact ⟨by omega,by rw [← hk,Int.toNat_natCast];exact (AQ0 hg).1 hr⟩
 ·show mgI (Ab2 q q.pages.length) f=some p ↔ _
  constructor
  ·intro h
   obtain ⟨i,_,h2,h3,h4,h5⟩:=BL0 (mgI_mem h)
   exact ⟨by omega,h5,by rw [h3,Int.toNat_natCast];exact h4.symm⟩
  ·rintro ⟨h1,h2,h3⟩
   obtain ⟨j,hj,e⟩:=page_ix hg (p:=p.toNat) (.inl (by omega))
   have h4:=hel_in (q:=q) hj (by rw [e,h3];exact h2)
   rw [e,h3] at h4
   have h5:((p.toNat:Nat):Int)=p:=by omega
   rw [h5] at h4
   exact mem_mgI (hel_nd hg _ (Nat.le_refl _)) h4
end
end Go.Pol
namespace Go.Pol
open Go.Am Go.Proofs.YtbhgfoikbkaohaaGreat.Sh
section
variable {q:Sw} {t t':WS} {p:SPy}
theorem slots_out (hg:F3 q):q.slots.length=q.outN:=(BR1 hg).symm
theorem use_all (hg:F3 q):(Ay6 q q.pages.length).length=q.slots.length:=by
 have e:∀ l:List Nat,(∀ p ∈ l,q.is p)→((l.map (whE q)).filterMap useE).length=(l.filter fun p=>decide (0≤q.T p)).length:=by
  intro l
  induction l with
  | nil=>intro _;rfl
  | cons p l ih =>
   intro h
   have ih:=ih fun p hp=>h p (List.mem_cons_of_mem _ hp)
   rw [List.map_cons,List.filterMap_cons,List.filter_cons]
   unfold useE whE at *
   by_cases c:0≤q.F p
   ·have h2:¬ 0≤q.T p:=by rcases hg.fr p with h3 | ⟨h3,_⟩<;>omega
    rw [if_pos c,if_neg (by simpa using h2)];exact ih
   ·have h2:0≤q.T p:=(h p (List.mem_cons_self ..)).resolve_left c
    rw [if_neg c,if_pos (by simpa using h2)]
    dsimp only
    rw [List.length_cons,List.length_cons,ih]
 unfold Ay6
 rw [As9]
 unfold Sw.whr
 rw [e _ fun p hp=>(AM3 hg).1 hp,slots_out hg]
 unfold Sw.pages Sw.outN
 rw [List.filter_filter]
 congr 1
 refine List.filter_congr fun p _=>?_
 unfold Sw.is
 by_cases c:0≤q.T p
 ·simp [c]
 ·simp [c]
end
end Go.Pol
namespace Go.Pol
open Go.Am Go.Proofs.YtbhgfoikbkaohaaGreat.Sh
def lastS (q:Sw):Nat→Int
 | 0 => -1
 | j+1=>((nth 0 q.slots j:Nat):Int)
theorem last_0 {q:Sw}:lastS q 0 = -1:=rfl
theorem mapP_nil:MapP []:=by have:=D5 (L:=[]) J5;rwa [AA8] at this
theorem last_lt {q:Sw}:∀ {j:Nat},j < q.slots.length→lastS q j < ((nth 0 q.slots j:Nat):Int)
 | 0,_=>by show (-1:Int) < _;omega
 | j+1,h=>by
  have:=List.pairwise_iff_getElem.1 (BO9 (w:=q)) j (j+1) (by omega) h (by omega)
  show ((nth 0 q.slots j:Nat):Int) < _
  rw [P9 (by omega:j < q.slots.length),P9 h]
  omega
def boE (b:Bool):AV:=.bool b
theorem BB9 (b:Bool):Plain (boE b):=C9
def BD1 (q:Sw):Nat→Int
 | 0 => -1
 | j+1=>((nth 0 q.pages j:Nat):Int)
theorem lastP_0 {q:Sw}:BD1 q 0 = -1:=rfl
theorem lastP_lt {q:Sw}:∀ {j:Nat},j < q.pages.length→BD1 q j < ((nth 0 q.pages j:Nat):Int)
 | 0,_=>by show (-1:Int) < _;omega
 | j+1,h=>by
  have:=List.pairwise_iff_getElem.1 (Au1 (w:=q)) j (j+1) (by omega) h (by omega)
  show ((nth 0 q.pages j:Nat):Int) < _
  rw [P9 (by omega:j < q.pages.length),P9 h]
  omega
theorem page_lt {q:Sw} {j:Nat} (h:j < q.pages.length):nth 0 q.pages j < q.pg:=by
 have:=AN5 (d:=0) h
 unfold Sw.pages at this
 exact List.mem_range.1 (List.mem_filter.1 this).1
theorem useL_len {q:Sw} (hg:F3 q):(Ay6 q q.pages.length).length=q.dsk.length:=by rw [use_all hg,Ad7]
structure LdF (q:Sw) (j:Nat) (e:Int × Int × Int × Int):Prop where
 nt:nth d4 q.whr j=e
 hp:0≤e.1∧e.1 < (q.pg:Nat)
 hl:BD1 q j < e.1
 hz:0≤e.2.2.2∧e.2.2.2≤1000000000000
 ha:((q.a:Nat):Int)≤e.2.1∧e.2.1 < (q.a:Nat)+(q.n:Nat)
 hs:e.2.2.1 = -1
 hH:mgI (Ab2 q j) e.2.1=none
 hD:mgI q.dsk e.2.2.1=none
 mH:mpI (Ab2 q j) e.2.1 e.1=Ab2 q j++[(e.2.1,e.1)]
 sH:Ab2 q (j+1)=Ab2 q j++[(e.2.1,e.1)]
 sU:Ay6 q (j+1)=Ay6 q j
 mW:mpI (q.whr.take j) e.1 e.2=q.whr.take j++[e]
 sW:q.whr.take (j+1)=q.whr.take j++[e]
 nx:BD1 q (j+1)=e.1
structure LdT (q:Sw) (j:Nat) (e:Int × Int × Int × Int) (x:Nat→Int):Prop where
 nt:nth d4 q.whr j=e
 hp:0≤e.1∧e.1 < (q.pg:Nat)
 hl:BD1 q j < e.1
 hz:0≤e.2.2.2∧e.2.2.2≤1000000000000
 hf:e.2.1 = -1
 ht:0≤e.2.2.1
 hH:mgI (Ab2 q j) e.2.1=none
 hD:mgI q.dsk e.2.2.1=some x
 hU:mgI (Ay6 q j) e.2.2.1=none
 mU:mpI (Ay6 q j) e.2.2.1 true=Ay6 q j++[(e.2.2.1,true)]
 sU:Ay6 q (j+1)=Ay6 q j++[(e.2.2.1,true)]
 sH:Ab2 q (j+1)=Ab2 q j
 mW:mpI (q.whr.take j) e.1 e.2=q.whr.take j++[e]
 sW:q.whr.take (j+1)=q.whr.take j++[e]
 nx:BD1 q (j+1)=e.1
theorem ld_cases {q:Sw} (hg:F3 q) {j:Nat} (h:j < q.pages.length):(∃ e,LdF q j e)∨∃ e x,LdT q j e x:=by
 have h1:=page_lt h
 have h2:=lastP_lt h
 have h3:=hg.st (nth 0 q.pages j)
 have h4:=Ai0 h
 have h5:=whr_s h
 have h6:=hel_s h
 have h7:=use_s h
 have h8:BD1 q (j+1)=((nth 0 q.pages j:Nat):Int):=rfl
 have h9:=nd_take (d:=d4) (whr_nd (q:=q)) (j:=j) (by rw [AL0];exact h)
 have hD0:mgI q.dsk (-1)=none:=Af2 (Ag1 hg) (by omega)
 rw [h4] at h9
 unfold whE at h4 h5 h9
 by_cases c:0≤q.F (nth 0 q.pages j)
 ·have hn:=hel_new hg h c
  obtain ⟨f,f1,f2,f3,_⟩:=R5 hg c
  have hT:q.T (nth 0 q.pages j) = -1:=by rcases AX3 hg (nth 0 q.pages j) with e|e<;>omega
  rw [if_pos c] at h6 h7
  rw [List.append_nil] at h7
  rw [f1] at h4 h5 h6 h9 hn
  rw [hT] at h4 h5 h9
  exact .inl ⟨_,h4,⟨Int.natCast_nonneg _,Int.ofNat_lt.2 h1⟩,h2,h3,⟨Int.ofNat_le.2 f2,by show ((f:Nat):Int) < _;omega⟩,rfl,hn,hD0,Ak9 hn,h6,h7,Ak9 h9,h5,h8⟩
 ·have hF:q.F (nth 0 q.pages j) = -1:=by rcases Ay4 hg (nth 0 q.pages j) with e|e<;>omega
  have hn:=use_new hg h c
  have ht:0≤q.T (nth 0 q.pages j):=(BR3 hg h).resolve_left c
  obtain ⟨k,hk⟩:=Int.eq_ofNat_of_zero_le ht
  have hD:=AU9 hg (Ag1 hg) hk
  rw [if_neg c] at h6 h7
  rw [List.append_nil] at h6
  rw [hk] at h4 h5 h7 h9 hn ht
  rw [hF] at h4 h5 h9
  exact .inr ⟨_,_,h4,⟨Int.natCast_nonneg _,Int.ofNat_lt.2 h1⟩,h2,h3,rfl,ht,hel_neg,hD,hn,Ak9 hn,h7,h6,Ak9 h9,h5,h8⟩
theorem slot_lt {q:Sw} {j:Nat} (h:j < q.slots.length):nth 0 q.slots j < q.sl:=by
 have:=AN5 (d:=0) h
 unfold Sw.slots at this
 exact List.mem_range.1 (List.mem_filter.1 this).1
end Go.Pol
namespace Go.Proofs.YtbhgfoikbkaohaaGreat.Sh
open Go Go.Am Go.Pol
theorem plx_Syh {p:Prop} (h:p:=by ((first|exact plw|(with_reducible first|apply R3|apply J7 _|apply J8 _|apply J5 _|apply BB9 _|apply w9|apply Q5|apply J6|apply X0|apply AM1 _|apply AI1 _|apply AM0|apply Z5|apply H9 U6|apply H9 AA4|apply Ak0 _|apply M4 W9|apply AK3|apply AZ2|fail)|fail);first|done|fail)):p:=h
theorem ppx_Syh {p:Prop} (h:p:=by ((first|with_reducible assumption|(with_reducible first|apply G8|apply F6|apply AH8|apply AE7|apply AR3|apply AL6 _|apply AH7 _|apply hpy|apply hy|apply BA4 _|fail)|exact ppw|fail);first|done|fail)):p:=h
open Go.Proofs.YtbhgfoikbkaohaaGreat.Sh renaming plx_Syh → plx
open Go.Proofs.YtbhgfoikbkaohaaGreat.Sh renaming ppx_Syh → ppx
theorem wx_Syh {p q:Prop} (hq:q) (h:Y2 q→p:=by (intro hQz;((repeat' ((try (conv=>whnf));first|refine sxA ?_|refine AG8 hp rfl ?_|refine AK6 hp rfl ?_|refine sxF ?_|refine M0 hc rfl (by decide) ?_|refine L9 hst ?_|refine M0 hkd rfl (by decide) ?_|refine sxH ?_|((with_reducible first|apply U3 hQz|apply U4 hQz)<;>(try intro hsp hQz))|exact hQz.out))<;>(try (conv=>whnf))))):p:=h ⟨hq⟩
theorem wx_Syhn {p q:Prop} (hq:q) (h:Y2 q→p:=by (intro hQz;((repeat' ((try (conv=>whnf));first|(with_reducible first|refine O4 ?_|refine K6 ?_|refine P6 ?_|refine P8 ?_|refine L6 ?_|refine U9 ?_|refine N9 ?_|refine U8 rfl ?_|refine O1 ?_|refine J3 ?_|refine K8 ?_|refine K9 ?_|refine P7 ?_|refine J2 ?_|refine K7 (by decide +kernel) ?_|refine K3 (by decide +kernel) ?_|refine AG0 ?_|refine AG1 ?_|refine An9 ?_|refine r9 ?_|refine AJ5 ?_|refine Af8 (by assumption) ?_|refine Af9 (by assumption) ?_|refine o9 (by omega) ?_|refine AJ3 ?_)|((with_reducible refine AJ6 ?_ ?_);focus omega)|((with_reducible refine AJ7 ?_ ?_);focus omega)|((with_reducible apply U3 hQz)<;>(try intro hsp hQz))|((with_reducible refine An3 ?_ ?_);focus (first|omega|rfl|assumption|decide|(simp only [List.length_map,List.length_cons,List.length_nil];omega)|(simp only [List.length_cons];omega)))|(with_reducible first|refine AI9 ?_|refine o8 ?_|refine l9 ?_|refine AJ1 ?_|refine AJ0 ?_|refine AI7 ?_|refine Am8 ?_|refine I8 ?_|refine l7 ?_|refine P5 ?_|refine O9 ?_|refine I9 ?_|refine AI8 (by omega) ?_|refine l8 (by omega) ?_)|refine AF8 (d:=d5) AA7 (by first|assumption|omega) hnt ?_|refine U2 (by rw [AA7];omega) List.drop_zero (Q7 (by rw [AA7];omega) (List.take_of_length_le (by rw [AA7];omega)) ?_)|refine Q7 (cs:=bcA (q.D k)) (m:=64) (Nat.le_of_eq S9.symm) Ae0 ?_|refine U2 (cs:=bcA (q.D k)) (Nat.zero_le _) List.drop_zero (Q7 (cs:=bcA (q.D k)) (m:=64) (Nat.le_of_eq S9.symm) Ae0 ?_)|refine X6 (by first|(simp only [List.length_cons,List.length_nil];omega)|fail) (Ak4 hyl) ?_|refine AZ9 rfl (q.D k) rfl ?_|refine AF8 (d:=d4) AP7 (by first|assumption|omega) hnt ?_|refine AK6 hH rfl ?_|refine BC8 hD As6 rfl ?_|refine ⟨S9,?_⟩|refine X6 (by simp only [List.length_replicate,S9];omega) hov ?_|refine AZ9 rfl e.1 rfl ?_|refine AZ9 rfl e.2 rfl ?_|refine AG8 hD rfl ?_|refine BC9 hU rfl ?_|refine AZ9 rfl true rfl ?_|refine BR7 rfl ?_|refine sxN ?_|refine sxH ?_|((with_reducible apply U4 hQz)<;>(try intro hsp hQz))|exact hQz.out))<;>(try (conv=>whnf))))):p:=h ⟨hq⟩
set_option maxRecDepth 20000 in
theorem w_Load {q:Sw} (hg:F3 q):LocWN 12 [.agg q.save] q.s q ⟨q.whr,q.dsk,Ab2 q q.pages.length⟩:=by
 have hrng:=hg.rng
 have hcnt:=hg.cnt
 have hpl1:=Ak2 hg
 have hpl2:=Aj0 hg
 have hc:=Ag6 hg.good
 have hst:=Ah2 (q.a:Nat) (q.n:Nat) (q.pg:Nat) (q.sl:Nat)
 rw [decide_eq_true (show U7 (q.a:Nat) (q.n:Nat) (q.pg:Nat) (q.sl:Nat) by unfold U7;omega)] at hst
 unfold Sy.counts at hc
 refine LocWN.mk (G6 F9 b12 rfl ?_) (R9 (M4 W9))
 unfold c12
 unfold Sw.save Ao8
 generalize AU5 q.s.K 0 1024=n0 at *
 generalize AU5 q.s.K 1 1024=n1 at *
 generalize AU5 q.s.K 2 1024=n2 at *
 generalize AU5 q.s.K 3 1024=n3 at *
 generalize cntG q.s.G 64=n4 at *
 have hd0:=dsk_0 (w:=q)
 have hz0:=last_0 (q:=q)
 (refine wx_Syh ?_;repeat' (first|with_reducible refine And.intro ?_ ?_|intro hsp))
 (refine H7 [0,3,8,62,63] (fun (j:Nat)=>[(9,.int .i64 (lastS q j)),(64,.int .i64 (j:Nat))]) (fun (j:Nat)=>⟨[(6,.cells (stC 0 3 4 5 q)),(3,.maps (encW pgE [])),(4,.maps (encW byE (q.dsk.take j))),(5,.maps (encW nuE [])),(0,.cells q.s.a),(1,.cells [.int .i64 (q.a:Nat),.int .i64 (q.n:Nat),.int .i64 (q.pg:Nat),.int .i64 (q.sl:Nat),.isl (q.whr.map swA),.isl (q.dsk.map swD),.int .i64 q.ins,.int .i64 q.outs])],7⟩) (fun (j:Nat)=>j≤q.slots.length) (fun (j:Nat)=>q.slots.length - j) (0) [] rfl (fun _=>by first|exact Nat.zero_le _|(dsimp only;omega)) ?_ (by ((try (conv=>whnf));(rw [hd0,hz0,AA8,AA8,AA8]);exact AX6)) ?_)
 ·exact Nat.zero_le _
 intro j hj
 have hdl:=Ad7 (w:=q)
 by_cases hjl:j < q.slots.length
 ·have hnt:=dsk_nth (q:=q) hjl
  have hlt:=last_lt (q:=q) hjl
  have hsl:=slot_lt (q:=q) hjl
  have hws:=dsk_s hjl
  have hnx:lastS q (j+1)=((nth 0 q.slots j:Nat):Int):=rfl
  have hmn:=nd_take (d:=d5) (dsk_nd (q:=q)) (j:=j) (by rw [hdl];exact hjl)
  rw [hnt] at hmn
  unfold dkE at hnt hws hmn
  generalize nth 0 q.slots j=k at *
  have hmp:=Ak9 (v:=q.D k) hmn
  dsimp only at hmp
  have hyl:(bcA (q.D k)).length=64:=S9
  unfold stC
  (refine wx_Syhn ?_;repeat' (first|with_reducible refine And.intro ?_ ?_|intro hsp))
  all_goals first|(exfalso;omega)|(exfalso;dsimp only at hsp;omega)|exact D7 (j+1) [] (by (try dsimp only);omega) (by first|omega|(dsimp only;omega)) rfl (by ((try dsimp only);rw [hws,hmp,hnx]);exact AX6)
 ·obtain rfl:j=q.slots.length:=by omega
  rw [dsk_all]
  have hw0:=whr_0 (w:=q)
  have hl0:=lastP_0 (q:=q)
  have hh0:=hel_0 (q:=q)
  have hu0:=use_0 (q:=q)
  clear hd0 hz0
  unfold stC
  (refine wx_Syh ?_;repeat' (first|with_reducible refine And.intro ?_ ?_|intro hsp))
  all_goals first|(exfalso;omega)|skip
  (refine H7 [0,3,8,12,92,93] (fun (j:Nat)=>[(9,.int .i64 (BD1 q j)),(94,.int .i64 (j:Nat))]) (fun (j:Nat)=>⟨[(6,.cells (stC 0 3 4 5 q)),(3,.maps (encW pgE (q.whr.take j))),(4,.maps (encW byE q.dsk)),(5,.maps (encW nuE (Ab2 q j))),(7,.maps (encW boE (Ay6 q j))),(0,.cells q.s.a),(1,.cells [.int .i64 (q.a:Nat),.int .i64 (q.n:Nat),.int .i64 (q.pg:Nat),.int .i64 (q.sl:Nat),.isl (q.whr.map swA),.isl (q.dsk.map swD),.int .i64 q.ins,.int .i64 q.outs])],8⟩) (fun (j:Nat)=>j≤q.pages.length) (fun (j:Nat)=>q.pages.length - j) (0) [] rfl (fun _=>by first|exact Nat.zero_le _|(dsimp only;omega)) ?_ (by ((try (conv=>whnf));(rw [hw0,hl0,hh0,hu0,AA8,AA8,AA8]);exact AX6)) ?_)
  ·exact Nat.zero_le _
  intro j hj
  clear hw0 hl0 hh0 hu0
  have hwl:=AL0 (w:=q)
  by_cases hjl:j < q.pages.length
  ·rcases ld_cases hg hjl with ⟨e,hL⟩ | ⟨e,x,hL⟩
   ·obtain ⟨hnt,hp,hl,hz,ha,hs,hH,hD,mH,sH,sU,mW,sW,hnx⟩:=hL
    have hov:=AL1 (x:=fun _=>0)
    unfold stC
    (refine wx_Syhn ?_;repeat' (first|with_reducible refine And.intro ?_ ?_|intro hsp))
    all_goals first|(exfalso;omega)|exact D7 (j+1) [] (by (try dsimp only);omega) (by first|omega|(dsimp only;omega)) rfl (by ((try dsimp only);rw [sW,mW,sH,mH,sU,hnx]);exact AX6)
   ·obtain ⟨hnt,hp,hl,hz,hf,ht,hH,hD,hU,mU,sU,sH,mW,sW,hnx⟩:=hL
    have hov:=AL1 (x:=x)
    unfold stC
    (refine wx_Syhn ?_;repeat' (first|with_reducible refine And.intro ?_ ?_|intro hsp))
    all_goals first|(exfalso;omega)|exact D7 (j+1) [] (by (try dsimp only);omega) (by first|omega|(dsimp only;omega)) rfl (by ((try dsimp only);rw [sW,mW,sH,sU,mU,hnx]);exact AX6)
  ·obtain rfl:j=q.pages.length:=by omega
   rw [As9]
   have huL:=useL_len hg
   have hWO:=Ag1 hg
   have hdl:=Ad7 (w:=q)
   unfold stC
   (refine wx_Syhn ?_;repeat' (first|with_reducible refine And.intro ?_ ?_|intro hsp))
   all_goals first|(exfalso;omega)|skip
   (refine H7 [0,3,8] (fun (i:Nat)=>[(19,.int .i64 ((q.a+i:Nat):Int))]) (fun (i:Nat)=>⟨[(6,.cells (stC 0 3 4 5 q)),(3,.maps (encW pgE q.whr)),(4,.maps (encW byE q.dsk)),(5,.maps (encW nuE (Ab2 q q.pages.length))),(0,.cells q.s.a),(1,.cells [.int .i64 (q.a:Nat),.int .i64 (q.n:Nat),.int .i64 (q.pg:Nat),.int .i64 (q.sl:Nat),.isl (q.whr.map swA),.isl (q.dsk.map swD),.int .i64 q.ins,.int .i64 q.outs])],7⟩) (fun (i:Nat)=>i≤q.n) (fun (i:Nat)=>q.n - i) (0) [] rfl (fun _=>by first|exact Nat.zero_le _|(dsimp only;omega)) ?_ (by ((try (conv=>whnf));exact AX6)) ?_)
   ·exact Nat.zero_le _
   intro i hi
   by_cases hil:i < q.n
   ·have hkd:=BQ7 (s:=q.s) (a:=(q.a+i:Nat))
    have hhd:=held_H hWO hg (f:=q.a+i)
    have hM:=(hg.kind (q.a+i) (by omega) (by omega)).2
    dsimp only at hhd
    by_cases hh:q.heldF (q.a+i)
    ·rw [Y9 (by omega) (heldK hg hh),hM] at hkd
     rw [decide_eq_true hh] at hhd
     obtain ⟨p,hp⟩:=Option.isSome_iff_exists.1 hhd
     unfold stC
     (refine wx_Syh ?_;repeat' (first|with_reducible refine And.intro ?_ ?_|intro hsp))
     all_goals first|(exfalso;omega)|exact D7 (i+1) [] (by (try dsimp only);omega) (by first|omega|(dsimp only;omega)) rfl (by exact AX6)
    ·rw [decide_eq_false hh] at hhd
     have hp:mgI (Ab2 q q.pages.length) ((q.a+i:Nat):Int)=none:=Option.not_isSome_iff_eq_none.1 (by rw [hhd];exact Bool.false_ne_true)
     rcases (hg.kind (q.a+i) (by omega) (by omega)).1 with hk|hk
     ·rw [Y9 (by omega) hk,hM] at hkd
      unfold stC
      (refine wx_Syh ?_;repeat' (first|with_reducible refine And.intro ?_ ?_|intro hsp))
      all_goals first|(exfalso;omega)|exact D7 (i+1) [] (by (try dsimp only);omega) (by first|omega|(dsimp only;omega)) rfl (by exact AX6)
     ·rw [Y9 (by omega) hk,hM] at hkd
      unfold stC
      (refine wx_Syh ?_;repeat' (first|with_reducible refine And.intro ?_ ?_|intro hsp))
      all_goals first|(exfalso;omega)|exact D7 (i+1) [] (by (try dsimp only);omega) (by first|omega|(dsimp only;omega)) rfl (by exact AX6)
   ·obtain rfl:i=q.n:=by omega
    unfold stC
    (refine wx_Syh ?_;repeat' (first|with_reducible refine And.intro ?_ ?_|intro hsp))
    all_goals first|(exfalso;omega)|exact end_Wg (q:=q) (t:=⟨q.whr,q.dsk,Ab2 q q.pages.length⟩) [(1,6),(2,3),(3,4),(4,5)] 1 2 3 4 0 rfl (by decide) rfl (by decide) (fun hs=>AK2 (A9 (U5 (i:=1) rfl (show 1 < 5 by decide)) (A9 (M9 rfl) G7))) rfl rfl rfl rfl rfl
end Go.Proofs.YtbhgfoikbkaohaaGreat.Sh
namespace Go.Proofs.YtbhgfoikbkaohaaGreat.Sh
open Go Go.Am Go.Pol
theorem wx_Szbn {p q:Prop} (hq:q) (h:Y2 q→p:=by (intro hQz;((repeat' ((try (conv=>whnf));first|refine sxA ?_|refine AF3 (by with_reducible assumption) ?_|refine sxN ?_|refine AU4 h2 rfl rfl rfl rfl rfl (by decide) rfl ?_|refine dcx_w h2 rfl rfl rfl rfl rfl rfl rfl ?_|refine Ax2 h3 rfl rfl (by decide) rfl ?_|refine AX1 h3 rfl rfl rfl rfl ?_|refine AU4 h1 rfl rfl rfl rfl rfl (by decide) rfl ?_|refine dcx_w h1 rfl rfl rfl rfl rfl rfl rfl ?_|refine Ax2 h2 rfl rfl (by decide) rfl ?_|refine AX1 h2 rfl rfl rfl rfl ?_|refine AU4 h3 rfl rfl rfl rfl rfl (by decide) rfl ?_|refine dcx_w h3 rfl rfl rfl rfl rfl rfl rfl ?_|refine Ax2 h4 rfl rfl (by decide) rfl ?_|refine AX1 h4 rfl rfl rfl rfl ?_|refine M0 h5 rfl (by decide) ?_|refine Z9 h5 rfl rfl ?_|refine M0 h6 rfl (by decide) ?_|refine Z9 h6 rfl rfl ?_|refine cx_WN hL rfl (by decide) ?_|refine sxH ?_|((with_reducible first|apply U3 hQz|apply U4 hQz)<;>(try intro hsp hQz))|exact hQz.out))<;>(try (conv=>whnf))))):p:=h ⟨hq⟩
section
variable {q:Sw} {t:WS}
theorem stp_Write (hg:F3 q) (h:WOk q t) (x:SAc) (hy:x.w.tmod 14=0∨x.w.tmod 14=1∨x.w.tmod 14=2∨x.w.tmod 14=3∨x.w.tmod 14=4∨x.w.tmod 14=5):∃ t',WOk (q.write x.t x.n x.v).2 t'∧BN6 x q t (q.write x.t x.n x.v).2 t':=by
 obtain ⟨t',h2,hO⟩:=Ai3 hg h x.t x.n x.v
 have h3:=v_Write hg x.t x.n x.v
 refine ⟨t',hO,⟨G6 F9 b18 rfl ?_⟩⟩
 clear hO h hg
 unfold c18
 unfold twN stC Aj3
 generalize q.write x.t x.n x.v=r at *
 rcases hy with hy|hy|hy|hy|hy|hy
 all_goals (refine wx_Szbn ?_;repeat' (first|with_reducible refine And.intro ?_ ?_|intro hsp))
 all_goals first|(exfalso;omega)|exact BM5 (q:=(r).2) (t:=t') [] 0 1 2 3 4 5 6 rfl (by decide) rfl (by decide) (fun hs=>AK2 (A9 (U5 (i:=0) rfl (show 0 < 7 by decide)) (A9 (X8 (by first|rfl|(simp;done))) G7))) rfl rfl rfl rfl rfl rfl rfl
theorem stp_Read (hg:F3 q) (h:WOk q t) (x:SAc) (hy:x.w.tmod 14=6∨x.w.tmod 14=7∨x.w.tmod 14=8∨x.w.tmod 14=9):∃ t',WOk (q.read x.t x.n).2.2 t'∧BN6 x q t (q.read x.t x.n).2.2 t':=by
 obtain ⟨t',h2,hO⟩:=BO1 hg h x.t x.n
 have h3:=v_Read hg x.t x.n
 refine ⟨t',hO,⟨G6 F9 b18 rfl ?_⟩⟩
 clear hO h hg
 unfold c18
 unfold twN stC Aj3
 generalize q.read x.t x.n=r at *
 rcases hy with hy|hy|hy|hy
 all_goals (refine wx_Szbn ?_;repeat' (first|with_reducible refine And.intro ?_ ?_|intro hsp))
 all_goals first|(exfalso;omega)|exact BM5 (q:=(r).2.2) (t:=t') [] 0 1 2 3 4 5 6 rfl (by decide) rfl (by decide) (fun hs=>AK2 (A9 (U5 (i:=0) rfl (show 0 < 7 by decide)) (A9 (X8 (by first|rfl|(simp;done))) G7))) rfl rfl rfl rfl rfl rfl rfl
theorem stp_Out (hg:F3 q) (h:WOk q t) (x:SAc) (hy:x.w.tmod 14=10):∃ t',WOk (q.out x.p).2 t'∧BN6 x q t (q.out x.p).2 t':=by
 obtain ⟨t',h2,hO⟩:=w_Out hg h x.p
 have h3:=v_Out hg x.p
 refine ⟨t',hO,⟨G6 F9 b18 rfl ?_⟩⟩
 clear hO h hg
 unfold c18
 unfold twN stC Aj3
 generalize q.out x.p=r at *
 (refine wx_Szbn ?_;repeat' (first|with_reducible refine And.intro ?_ ?_|intro hsp))
 all_goals first|(exfalso;omega)|exact BM5 (q:=(r).2) (t:=t') [] 0 1 2 3 4 5 6 rfl (by decide) rfl (by decide) (fun hs=>AK2 (A9 (U5 (i:=0) rfl (show 0 < 7 by decide)) (A9 (X8 (by first|rfl|(simp;done))) G7))) rfl rfl rfl rfl rfl rfl rfl
theorem stp_Free (hg:F3 q) (h:WOk q t) (x:SAc) (hy:x.w.tmod 14=11):∃ t',WOk (q.fre x.p).2 t'∧BN6 x q t (q.fre x.p).2 t':=by
 obtain ⟨t',h2,hO⟩:=w_Free hg h x.p
 have h3:=v_Free hg x.p
 refine ⟨t',hO,⟨G6 F9 b18 rfl ?_⟩⟩
 clear hO h hg
 unfold c18
 unfold twN stC Aj3
 generalize q.fre x.p=r at *
 (refine wx_Szbn ?_;repeat' (first|with_reducible refine And.intro ?_ ?_|intro hsp))
 all_goals first|(exfalso;omega)|exact BM5 (q:=(r).2) (t:=t') [] 0 1 2 3 4 5 6 rfl (by decide) rfl (by decide) (fun hs=>AK2 (A9 (U5 (i:=0) rfl (show 0 < 7 by decide)) (A9 (X8 (by first|rfl|(simp;done))) G7))) rfl rfl rfl rfl rfl rfl rfl
theorem stp_Plan (hg:F3 q) (h:WOk q t) (x:SAc) (hy:x.w.tmod 14=13):BN6 x q t { q with s:=(q.s.plan x.l).2 } t:=by
 have hpg:=hg.rng.2.2.2.1
 have h1:=w_Victim hg h
 have h2:=At0 (q:=q) hpg
 have h3:=w_Counts hg h
 have h4:=v_Counts hg
 have h5:=p_plan q.s x.l
 have h6:=q_plan q.s x.l
 refine ⟨G6 F9 b18 rfl ?_⟩
 clear hg h
 unfold c18
 unfold twN stC Aj3
 generalize q.s.plan x.l=r at *
 generalize q.inN=c1 at *
 generalize q.outN=c2 at *
 generalize q.idle=c3 at *
 unfold vicA at h2
 cases hv:q.vic with
 | none =>
  rw [hv] at h1 h2
  dsimp only at h1 h2
  (refine wx_Szbn ?_;repeat' (first|with_reducible refine And.intro ?_ ?_|intro hsp))
  all_goals first|(exfalso;omega)|exact BM5 (q:={ q with s:=r.2 }) (t:=t) [] 0 1 2 3 4 5 6 rfl (by decide) rfl (by decide) (fun hs=>AK2 (A9 (U5 (i:=0) rfl (show 0 < 7 by decide)) (A9 (X8 (by first|rfl|(simp;done))) G7))) rfl rfl rfl rfl rfl rfl rfl
 | some v =>
  rw [hv] at h1 h2
  dsimp only at h1 h2
  (refine wx_Szbn ?_;repeat' (first|with_reducible refine And.intro ?_ ?_|intro hsp))
  all_goals first|(exfalso;omega)|exact BM5 (q:={ q with s:=r.2 }) (t:=t) [] 0 1 2 3 4 5 6 rfl (by decide) rfl (by decide) (fun hs=>AK2 (A9 (U5 (i:=0) rfl (show 0 < 7 by decide)) (A9 (X8 (by first|rfl|(simp;done))) G7))) rfl rfl rfl rfl rfl rfl rfl
theorem stp_Load (hg:F3 q) (h:WOk q t) (x:SAc) (hy:x.w.tmod 14=12):LocSTB x q t q ⟨q.whr,q.dsk,Ab2 q q.pages.length⟩:=by
 have h1:=w_Save hg h
 have hL:=w_Load hg
 unfold Sw.save Ao8 at h1 hL
 refine ⟨G6 F9 b18 rfl ?_⟩
 clear hg h
 generalize (⟨q.whr,q.dsk,Ab2 q q.pages.length⟩:WS)=tl at *
 unfold c18
 unfold twN stC Aj3
 (refine wx_Szbn ?_;repeat' (first|with_reducible refine And.intro ?_ ?_|intro hsp))
 all_goals first|(exfalso;omega)|exact BM5 (q:=q) (t:=tl) [(7,8),(8,9),(9,10),(10,11)] 7 8 9 10 4 5 6 rfl (by decide) rfl (by decide) (fun hs=>AK2 (A9 (U5 (i:=7) rfl (show 7 < 11 by decide)) (A9 (X8 (by first|rfl|(simp;done))) G7))) rfl rfl rfl rfl rfl rfl rfl
theorem l_both (hg:F3 q) (h:WOk q t) (x:SAc) (hw:0≤x.w):∃ t',WOk (q.al x).2 t'∧(x.w.tmod 14 ≠ 12→BN6 x q t (q.al x).2 t')∧(x.w.tmod 14=12→LocSTB x q t (q.al x).2 t'):=by
 have h0:x.w.tmod 14=x.w % 14:=Int.tmod_eq_emod_of_nonneg hw
 have hm:((x.w.toNat % 14:Nat):Int)=x.w.tmod 14:=by rw [h0];omega
 have hw14:0≤x.w.tmod 14∧x.w.tmod 14 < 14:=by rw [h0];omega
 unfold Sw.al Sw.call
 generalize x.w.toNat % 14=w at *
 by_cases c1:w < 6
 ·rw [if_pos c1]
  obtain ⟨t',h1,h2⟩:=stp_Write hg h x (by omega)
  exact ⟨t',h1,fun _=>h2,fun e=>by omega⟩
 rw [if_neg c1]
 by_cases c2:w < 10
 ·rw [if_pos c2]
  obtain ⟨t',h1,h2⟩:=stp_Read hg h x (by omega)
  exact ⟨t',h1,fun _=>h2,fun e=>by omega⟩
 rw [if_neg c2]
 by_cases c3:w=10
 ·rw [if_pos c3]
  obtain ⟨t',h1,h2⟩:=stp_Out hg h x (by omega)
  exact ⟨t',h1,fun _=>h2,fun e=>by omega⟩
 rw [if_neg c3]
 by_cases c4:w=11
 ·rw [if_pos c4]
  obtain ⟨t',h1,h2⟩:=stp_Free hg h x (by omega)
  exact ⟨t',h1,fun _=>h2,fun e=>by omega⟩
 rw [if_neg c4]
 by_cases c5:w=13
 ·rw [if_pos c5]
  exact ⟨t,Ab3 h _,fun _=>stp_Plan hg h x (by omega),fun e=>by omega⟩
 rw [if_neg c5]
 exact ⟨_,Ag1 hg,fun e=>by omega,fun _=>stp_Load hg h x (by omega)⟩
end
end Go.Proofs.YtbhgfoikbkaohaaGreat.Sh
namespace Go.Pol
open Go.Am
def Sy.B2 (s:Sy) (p:Nat):Nat→Int:=if s.K p=2 then s.B p else fun _=>0
theorem saveR_B2 {s:Sy}:s.saveR=⟨F4 s.K 1024,K4 s.G 1024,AA2 s.B2 1024,s.l,s.C,s.H⟩:=rfl
theorem AS0 {s:Sy} {p:Nat} (h:¬ (s.K p=2∧¬ AD3 (s.B p))):AA2 s.B2 (p+1)=AA2 s.B2 p:=by
 refine if_pos ?_
 unfold Sy.B2
 split
 ·exact Classical.byContradiction fun h2=>h ⟨by assumption,h2⟩
 ·intro _ _;rfl
theorem AT5 {s:Sy} {p:Nat} (h:s.K p=2∧¬ AD3 (s.B p)):AA2 s.B2 (p+1)=AA2 s.B2 p++[⟨((p:Nat):Int),s.B p⟩]:=by
 have e:s.B2 p=s.B p:=if_pos h.1
 show (if AD3 (s.B2 p) then _ else _++[(⟨((p:Nat):Int),s.B2 p⟩:Dt)])=_
 rw [e,if_neg h.2]
theorem Am1 {L:List Rn} {r:Rn}:flat rnA (L++[r])=flat rnA L++rnA r:=by simp [flat]
theorem AF2 {L:List Rn}:(flat rnA L).length=L.length * 3:=AT4 AO6 L
theorem Ah1 {L:List Rn} {r:Rn} {m:Nat} (h:L.length=m):(flat rnA (L++[r]))[m * 3+1]? = some (.int .i64 r.n):=by
 rw [Am1,List.getElem?_append_right (by rw [AF2];omega),AF2,h,show m * 3+1 - m * 3=1 by omega];rfl
theorem Ah0 {L:List Rn} {r:Rn} {m:Nat} {v:Int} (h:L.length=m):(flat rnA (L++[r])).set (m * 3+1) (.int .i64 v)=flat rnA (L++[⟨r.p,v,r.k⟩]):=by
 rw [Am1,List.set_append_right _ _ (by rw [AF2];omega),AF2,h,show m * 3+1 - m * 3=1 by omega,Am1];rfl
end Go.Pol
namespace Go.Am
theorem Al2 {α:Type} {f:α→List AV} {L:List α} {i:Nat} {r:List (Nat × AObj)} {ks:List Nat} (h:∀ j o,lk r j=some o→j ∈ ks):∀ j o,lk (AE4 i f L++r) j=some o→j ∈ i::ks:=fun j o hj=>by
 rcases Af0 hj with hj|hj
 ·obtain ⟨rfl,_⟩:=AM7 hj;exact List.mem_cons_self ..
 ·exact List.mem_cons_of_mem _ (h j o hj)
theorem lk_nil_in:∀ j o,lk [] j=some o→j ∈ ([]:List Nat):=fun j o hj=>by cases hj
theorem tl_not {ren:List (Nat × Nat)} {l0 tl:List (Nat × AObj)} {ks:List Nat} {d:Nat} (hk:∀ j o,lk tl j=some o→j ∈ ks) (hn:((l0.map (·.1))++ks).all (fun j=>!(Nat.beq (rn ren j) d))=true):∀ j o,lk (l0++tl) j=some o→rn ren j ≠ d:=fun j o hj e=>by
 rw [List.all_eq_true] at hn
 have hm:j ∈ (l0.map (·.1))++ks:=by
  rcases Af0 hj with hj|hj
  ·obtain ⟨q,hq,rfl⟩:=BS1 hj;exact List.mem_append_left _ (List.mem_map.2 ⟨q,hq,rfl⟩)
  ·exact List.mem_append_right _ (hk j o hj)
 have:=hn j hm
 rw [e] at this;simp at this
end Go.Am
namespace Go.Proofs.YtbhgfoikbkaohaaGreat
open Go Go.Am Go.Pol
open Go.Proofs.YtbhgfoikbkaohaaGreat renaming plx_Tj → plx
open Go.Proofs.YtbhgfoikbkaohaaGreat renaming ppx_Tj → ppx
theorem wtk {p q:Prop} (hq:q) (h:Y2 q→p:=by (intro hQz;((repeat' ((try (conv=>whnf));first|(with_reducible first|refine O4 ?_|refine K6 ?_|refine P6 ?_|refine P8 ?_|refine L6 ?_|refine U9 ?_|refine N9 ?_|refine U8 rfl ?_|refine O1 ?_|refine J3 ?_|refine K8 ?_|refine K9 ?_|refine P7 ?_|refine J2 ?_|refine K7 (by decide +kernel) ?_|refine K3 (by decide +kernel) ?_|refine AG0 ?_|refine AG1 ?_|refine An9 ?_|refine r9 ?_|refine AJ5 ?_|refine Af8 (by assumption) ?_|refine Af9 (by assumption) ?_|refine o9 (by omega) ?_|refine AJ3 ?_)|((with_reducible refine AJ6 ?_ ?_);focus omega)|((with_reducible refine AJ7 ?_ ?_);focus omega)|((with_reducible apply U3 hQz)<;>(try intro hsp hQz))|((with_reducible refine An3 ?_ ?_);focus (first|omega|rfl|assumption|decide|(simp only [List.length_map,List.length_cons,List.length_nil];omega)|(simp only [List.length_cons];omega)))|(with_reducible first|refine AI9 ?_|refine o8 ?_|refine l9 ?_|refine AJ1 ?_|refine AJ0 ?_|refine AI7 ?_|refine Am8 ?_|refine I8 ?_|refine l7 ?_|refine P5 ?_|refine O9 ?_|refine I9 ?_|refine AI8 (by omega) ?_|refine l8 (by omega) ?_)|refine D6 (by with_reducible assumption) ?_|refine AF3 (by with_reducible assumption) ?_|refine L8 (by omega) (by with_reducible assumption) ?_|refine U2 (by rw [AF6];omega) rfl ?_|refine Q7 (by rw [List.length_drop,AF6];omega) (by with_reducible assumption) ?_|refine Q7 (by omega) (BN8 (by with_reducible assumption)) ?_|refine U2 (Nat.zero_le _) y_drop ?_|refine X6 (by first|(simp only [List.length_cons,List.length_nil];omega)|fail) (Ak4 (by with_reducible assumption)) ?_|refine Am7 (by with_reducible assumption) ?_|refine del_tS ?_|refine del_tO rfl ?_|refine del_n ?_|(with_reducible first|refine AB8 ?_|refine Ap4.mk (by kernel_rfl) ?_|refine AD1 rfl ?_|refine AC1 (by decide +kernel) ?_|refine AC0 rfl ?_)|refine AC3 (f:=rnA) (l2:=[⟨((p:Nat):Int),1,s.K p⟩]) AO6 (AA1 rfl (by first|rfl|(simp;done)|(simp [*];done))) (fun hz=>by first|(simp [lk,O8,N8 hz,F8 hz];done)|rfl) (fun hz=>by first|(simp [lk,O8,AN9,Au8 hz,AD9 hz];done)|rfl) (by first|rfl|(simp [flat,rnA];done)|(simp [flat,rnA, *];done)) (by decide) ⟨by omega,by omega⟩ rfl ?_|((with_reducible apply Aa9 hQz);intro hQa hQb;refine AC2 (f:=rnA) (l2:=[⟨((p:Nat):Int),1,s.K p⟩]) AO6 (AA1 rfl (by first|rfl|(simp;done)|(simp [*];done))) (fun hz=>by first|(simp [lk,O8,N8 hz,F8 hz];done)|rfl) (by first|rfl|(simp [flat,rnA];done)|(simp [flat,rnA, *];done)) (by decide) ⟨by omega,by omega⟩ ?_ ?_<;>intro hzz<;>first|(have hQz:=Y2.mk (hQa.out hzz))|(have hQz:=Y2.mk (hQb.out hzz)))|refine AC3 (f:=inA) (l2:=[((p:Nat):Int)]) Al4 (AA1 rfl (by first|rfl|(simp;done)|(simp [*];done))) (fun hz=>by first|(simp [lk,O8,N8 hz,F8 hz];done)|rfl) (fun hz=>by first|(simp [lk,O8,AN9,Au8 hz,AD9 hz];done)|rfl) (by first|rfl|(simp [flat,inA];done)|(simp [flat,inA, *];done)) (by decide) ⟨by omega,by omega⟩ rfl ?_|((with_reducible apply Aa9 hQz);intro hQa hQb;refine AC2 (f:=inA) (l2:=[((p:Nat):Int)]) Al4 (AA1 rfl (by first|rfl|(simp;done)|(simp [*];done))) (fun hz=>by first|(simp [lk,O8,N8 hz,F8 hz];done)|rfl) (by first|rfl|(simp [flat,inA];done)|(simp [flat,inA, *];done)) (by decide) ⟨by omega,by omega⟩ ?_ ?_<;>intro hzz<;>first|(have hQz:=Y2.mk (hQa.out hzz))|(have hQz:=Y2.mk (hQb.out hzz)))|refine AC3 (f:=dtA) (l2:=[⟨((p:Nat):Int),s.B p⟩]) Aa7 (AA1 rfl (by first|rfl|(simp;done)|(simp [*];done))) (fun hz=>by first|(simp [lk,O8,N8 hz,F8 hz];done)|rfl) (fun hz=>by first|(simp [lk,O8,AN9,Au8 hz,AD9 hz];done)|rfl) (by first|rfl|(simp [flat,dtA];done)|(simp [flat,dtA, *];done)) (by decide) ⟨by omega,by omega⟩ rfl ?_|((with_reducible apply Aa9 hQz);intro hQa hQb;refine AC2 (f:=dtA) (l2:=[⟨((p:Nat):Int),s.B p⟩]) Aa7 (AA1 rfl (by first|rfl|(simp;done)|(simp [*];done))) (fun hz=>by first|(simp [lk,O8,N8 hz,F8 hz];done)|rfl) (by first|rfl|(simp [flat,dtA];done)|(simp [flat,dtA, *];done)) (by decide) ⟨by omega,by omega⟩ ?_ ?_<;>intro hzz<;>first|(have hQz:=Y2.mk (hQa.out hzz))|(have hQz:=Y2.mk (hQb.out hzz)))|refine AS3 (BG0 (by omega) rfl (Nat.zero_le _)) ?_|refine AS3 (BN2 src_rl rfl rfl (by omega) (by omega)) ?_|refine I8 ?_|refine I9 ?_|refine AP1 rfl rfl ?_|refine Z6 ?_|refine V6 rfl ?_|refine AP2 rfl ?_|refine AO9 rfl ?_|refine AD0 rfl ?_|refine Q6 ?_|refine As5.mk ?_|((with_reducible apply U4 hQz)<;>(try intro hsp hQz))|exact hQz.out))<;>(try (conv=>whnf))))):p:=h ⟨hq⟩
theorem wk_sl0 {σ:Nat→Nat} {h h':Hp} {d off cp:Nat} {L:List Rl} (h0:L.length=0:=by assumption):WkV Tryz.prog σ h h' (.sl d off 0 cp 4) (.isl (L.map rlA)):=fun c v hR hm hr=>by
 cases List.eq_nil_of_length_eq_zero h0
 obtain ⟨_,_,cap,rfl,_,h5,h6,_⟩:=AK1.1 hr
 exact AC5.2 ⟨_,cap,rfl,Nat.zero_le _,h6,fun hne=>absurd rfl hne⟩
section
variable {s:Sy}
noncomputable def skel (s:Sy) (o:Nat) (ho:o=66624) (hlen:s.l.length≤100000):{ T:Nat→Prop // (∀ p,p≤1024→T p)→d9 11 [] s.b (.agg (vsA s.saveR)) s.b }:=by
 refine ⟨?T,fun step=>?h⟩
 case h =>
  have step:=Y2.mk step
  refine d9.mk (G6 F9 b11 rfl ?_) F6 F6 (fun x hx=>by cases hx) AK3
  unfold c11
  unfold Sy.b
  rw [saveR_B2]
  rw [← ho]
  have hst:=Q0 (K:=s.K) (G:=s.G) (B:=s.B) ho (Y4 (l:=s.l) (C:=s.C) (H:=s.H))
  have hru:=R8 (K:=s.K) (G:=s.G) (B:=s.B) (l:=s.l) (C:=s.C) (H:=s.H) ho
  by_cases hl0:s.l.length=0
  ·(refine wtk ?_;repeat' (first|with_reducible refine And.intro ?_ ?_|intro hsp))
   (refine H7 [0,2] (fun (p:Nat)=>[(3,.ptr 2 0),(4,.int .i64 (p:Nat))]) (fun (p:Nat)=>⟨[(0,.cells (refK s.K s.G s.B (stA s.l s.C s.H))),(1,.cells [.nils,.nils,.nils,.nils,.int .i64 0,.int .i64 0,.int .i64 0,.int .i64 0,.int .i64 0,.int .i64 0,.int .i64 0,.int .i64 0,.int .i64 0,.int .i64 0,.int .i64 0,.int .i64 0,.int .i64 0,.int .i64 0]),(2,.cells [AP3 10 3 (F4 s.K p).length,AP3 11 1 (K4 s.G p).length,AP3 12 65 (AA2 s.B2 p).length,.isl (s.l.map rlA),.int .i64 (s.C 0),.int .i64 (s.C 1),.int .i64 (s.C 2),.int .i64 (s.C 3),.int .i64 (s.C 4),.int .i64 (s.C 5),.int .i64 (s.C 6),.int .i64 (s.H 0),.int .i64 (s.H 1),.int .i64 (s.H 2),.int .i64 (s.H 3),.int .i64 (s.H 4),.int .i64 (s.H 5),.int .i64 (s.H 6)])]++(AE4 10 rnA (F4 s.K p)++(AE4 11 inA (K4 s.G p)++(AE4 12 dtA (AA2 s.B2 p)++[]))),13⟩) (fun (p:Nat)=>p≤1024) (fun (p:Nat)=>1024 - p) (0) [] rfl (fun _=>by first|exact Nat.zero_le _|(dsimp only;omega)) ?_ (by ((try (conv=>whnf));exact AE8)) ?_)
   ·exact Nat.zero_le _
   exact step.out
  ·(refine wtk ?_;repeat' (first|with_reducible refine And.intro ?_ ?_|intro hsp))
   (refine H7 [0,2] (fun (p:Nat)=>[(3,.ptr 2 0),(4,.int .i64 (p:Nat))]) (fun (p:Nat)=>⟨[(0,.cells (refK s.K s.G s.B (stA s.l s.C s.H))),(1,.cells [.nils,.nils,.nils,.nils,.int .i64 0,.int .i64 0,.int .i64 0,.int .i64 0,.int .i64 0,.int .i64 0,.int .i64 0,.int .i64 0,.int .i64 0,.int .i64 0,.int .i64 0,.int .i64 0,.int .i64 0,.int .i64 0]),(2,.cells [AP3 10 3 (F4 s.K p).length,AP3 11 1 (K4 s.G p).length,AP3 12 65 (AA2 s.B2 p).length,.isl (s.l.map rlA),.int .i64 (s.C 0),.int .i64 (s.C 1),.int .i64 (s.C 2),.int .i64 (s.C 3),.int .i64 (s.C 4),.int .i64 (s.C 5),.int .i64 (s.C 6),.int .i64 (s.H 0),.int .i64 (s.H 1),.int .i64 (s.H 2),.int .i64 (s.H 3),.int .i64 (s.H 4),.int .i64 (s.H 5),.int .i64 (s.H 6)])]++(AE4 10 rnA (F4 s.K p)++(AE4 11 inA (K4 s.G p)++(AE4 12 dtA (AA2 s.B2 p)++[]))),13⟩) (fun (p:Nat)=>p≤1024) (fun (p:Nat)=>1024 - p) (0) [] rfl (fun _=>by first|exact Nat.zero_le _|(dsimp only;omega)) ?_ (by ((try (conv=>whnf));exact AE8)) ?_)
   ·exact Nat.zero_le _
   exact step.out
end
end Go.Proofs.YtbhgfoikbkaohaaGreat
namespace Go.Proofs.YtbhgfoikbkaohaaGreat
open Go Go.Am Go.Pol
open Go.Proofs.YtbhgfoikbkaohaaGreat renaming plx_Tj → plx
open Go.Proofs.YtbhgfoikbkaohaaGreat renaming ppx_Tj → ppx
section
variable {s:Sy} {o:Nat} {ho:o=66624} {hlen:s.l.length≤100000} {p:Nat}
theorem rd_end (hp:p=1024):(skel s o ho hlen).1 p:=by
 have hL0:=V4 (K:=s.K) (n:=p)
 have hL1:=V5 (G:=s.G) (n:=p)
 have hL2:=V7 (B:=s.B2) (n:=p)
 have hst:=Q0 (K:=s.K) (G:=s.G) (B:=s.B) ho (Y4 (l:=s.l) (C:=s.C) (H:=s.H))
 have hru:=R8 (K:=s.K) (G:=s.G) (B:=s.B) (l:=s.l) (C:=s.C) (H:=s.H) ho
 subst hp
 unfold skel
 dsimp only
 (refine wtk ?_;repeat' (first|with_reducible refine And.intro ?_ ?_|intro hsp))
 all_goals exact end_save3 (H6 C8)
theorem rd_free_h (hp4:p < 1024) (h0:s.K p=0) (hu:p % 16=0∧s.G (p / 16)=true):(skel s o ho hlen).1 p:=by
 have hL0:=V4 (K:=s.K) (n:=p)
 have hL1:=V5 (G:=s.G) (n:=p)
 have hL2:=V7 (B:=s.B2) (n:=p)
 have hst:=Q0 (K:=s.K) (G:=s.G) (B:=s.B) ho (Y4 (l:=s.l) (C:=s.C) (H:=s.H))
 have hru:=R8 (K:=s.K) (G:=s.G) (B:=s.B) (l:=s.l) (C:=s.C) (H:=s.H) ho
 have hk:(refK s.K s.G s.B (stA s.l s.C s.H))[p]? = some (.int .i64 (s.K p)):=M6 hp4
 have hh:(refK s.K s.G s.B (stA s.l s.C s.H))[1024+p / 16]? = some (.bool (s.G (p / 16))):=Y3 (by omega)
 have hw16:=AU1 (q:=p) (by omega)
 have ht16:((p:Nat):Int).tmod 16=((p % 16:Nat):Int):=by rw [Int.tmod_eq_emod_of_nonneg (by omega)];omega
 have hby:=X5 (K:=s.K) (G:=s.G) (B:=s.B) (P:=stA s.l s.C s.H) hp4
 have hyl:=by_len (s.B p)
 have hyz:=AJ2 (s.B p)
 generalize hy:byA (s.B p)=y at hby hyl hyz
 have e0:F4 s.K (p+1)=F4 s.K p:=if_pos h0
 have e2:=AS0 (s:=s) (p:=p) fun h=>by rw [h0] at h;exact absurd h.1 (by decide)
 have e1:K4 s.G (p+1)=K4 s.G p++[((p:Nat):Int)]:=if_pos hu
 rw [hu.2] at hh
 unfold skel
 dsimp only
 (refine wtk ?_;repeat' (first|with_reducible refine And.intro ?_ ?_|intro hsp))
 all_goals exact D7 (p+1) [(11,14)] (by (try dsimp only);omega) (by first|omega|(dsimp only;omega)) rfl (by ((try dsimp only);rw [e0,e1,e2]);exact AE8)
theorem rd_free (hp4:p < 1024) (h0:s.K p=0) (hu:¬ (p % 16=0∧s.G (p / 16)=true)):(skel s o ho hlen).1 p:=by
 have hL0:=V4 (K:=s.K) (n:=p)
 have hL1:=V5 (G:=s.G) (n:=p)
 have hL2:=V7 (B:=s.B2) (n:=p)
 have hst:=Q0 (K:=s.K) (G:=s.G) (B:=s.B) ho (Y4 (l:=s.l) (C:=s.C) (H:=s.H))
 have hru:=R8 (K:=s.K) (G:=s.G) (B:=s.B) (l:=s.l) (C:=s.C) (H:=s.H) ho
 have hk:(refK s.K s.G s.B (stA s.l s.C s.H))[p]? = some (.int .i64 (s.K p)):=M6 hp4
 have hh:(refK s.K s.G s.B (stA s.l s.C s.H))[1024+p / 16]? = some (.bool (s.G (p / 16))):=Y3 (by omega)
 have hw16:=AU1 (q:=p) (by omega)
 have ht16:((p:Nat):Int).tmod 16=((p % 16:Nat):Int):=by rw [Int.tmod_eq_emod_of_nonneg (by omega)];omega
 have hby:=X5 (K:=s.K) (G:=s.G) (B:=s.B) (P:=stA s.l s.C s.H) hp4
 have hyl:=by_len (s.B p)
 have hyz:=AJ2 (s.B p)
 generalize hy:byA (s.B p)=y at hby hyl hyz
 have e0:F4 s.K (p+1)=F4 s.K p:=if_pos h0
 have e2:=AS0 (s:=s) (p:=p) fun h=>by rw [h0] at h;exact absurd h.1 (by decide)
 have e1:K4 s.G (p+1)=K4 s.G p:=if_neg hu
 unfold skel
 dsimp only
 by_cases h16:p % 16=0
 ·have hG:s.G (p / 16)=false:=by
   cases h:s.G (p / 16) with
   | false=>rfl
   | true=>exact absurd ⟨h16,h⟩ hu
  rw [hG] at hh
  (refine wtk ?_;repeat' (first|with_reducible refine And.intro ?_ ?_|intro hsp))
  all_goals exact D7 (p+1) [] (by (try dsimp only);omega) (by first|omega|(dsimp only;omega)) rfl (by ((try dsimp only);rw [e0,e1,e2]);exact AE8)
 ·(refine wtk ?_;repeat' (first|with_reducible refine And.intro ?_ ?_|intro hsp))
  all_goals exact D7 (p+1) [] (by (try dsimp only);omega) (by first|omega|(dsimp only;omega)) rfl (by ((try dsimp only);rw [e0,e1,e2]);exact AE8)
end
end Go.Proofs.YtbhgfoikbkaohaaGreat
namespace Go.Proofs.YtbhgfoikbkaohaaGreat
open Go Go.Am Go.Pol
open Go.Proofs.YtbhgfoikbkaohaaGreat renaming plx_Tj → plx
open Go.Proofs.YtbhgfoikbkaohaaGreat renaming ppx_Tj → ppx
section
variable {s:Sy} {o:Nat} {ho:o=66624} {hlen:s.l.length≤100000} {p:Nat}
theorem rd_new_00 (hp4:p < 1024) (hp0:0 < p) (h0:¬ s.K p=0) (hb:¬ (0 < p∧s.K (p - 1)=s.K p)) (hu:¬ (p % 16=0∧s.G (p / 16)=true)) (hd:¬ (s.K p=2∧¬ AD3 (s.B p))):(skel s o ho hlen).1 p:=by
 have hL0:=V4 (K:=s.K) (n:=p)
 have hL1:=V5 (G:=s.G) (n:=p)
 have hL2:=V7 (B:=s.B2) (n:=p)
 have hst:=Q0 (K:=s.K) (G:=s.G) (B:=s.B) ho (Y4 (l:=s.l) (C:=s.C) (H:=s.H))
 have hru:=R8 (K:=s.K) (G:=s.G) (B:=s.B) (l:=s.l) (C:=s.C) (H:=s.H) ho
 have hk:(refK s.K s.G s.B (stA s.l s.C s.H))[p]? = some (.int .i64 (s.K p)):=M6 hp4
 have hh:(refK s.K s.G s.B (stA s.l s.C s.H))[1024+p / 16]? = some (.bool (s.G (p / 16))):=Y3 (by omega)
 have hw16:=AU1 (q:=p) (by omega)
 have ht16:((p:Nat):Int).tmod 16=((p % 16:Nat):Int):=by rw [Int.tmod_eq_emod_of_nonneg (by omega)];omega
 have hby:=X5 (K:=s.K) (G:=s.G) (B:=s.B) (P:=stA s.l s.C s.H) hp4
 have hyl:=by_len (s.B p)
 have hyz:=AJ2 (s.B p)
 generalize hy:byA (s.B p)=y at hby hyl hyz
 have e0:F4 s.K (p+1)=F4 s.K p++[⟨((p:Nat):Int),1,s.K p⟩]:=by
  show (if s.K p=0 then _ else if 0 < p∧s.K (p - 1)=s.K p then bump (F4 s.K p) else _)=_
  rw [if_neg h0,if_neg hb]
 have hk1:(refK s.K s.G s.B (stA s.l s.C s.H))[(((p:Nat):Int) - 1).toNat]? = some (.int .i64 (s.K (p - 1))):=by rw [show (((p:Nat):Int) - 1).toNat=p - 1 by omega];exact M6 (by omega)
 have hp1:IntKind.i64.wrap (((p:Nat):Int) - 1)=((p - 1:Nat):Int):=by rw [IntWalk.i64_in _ ⟨by omega,by omega⟩];omega
 have hne:¬ s.K (p - 1)=s.K p:=fun h=>hb ⟨hp0,h⟩
 have e1:K4 s.G (p+1)=K4 s.G p:=if_neg hu
 have e2:=AS0 hd
 unfold skel
 dsimp only
 (refine wtk ?_;repeat' (first|with_reducible refine And.intro ?_ ?_|intro hsp))
 all_goals first|(exfalso;exact hu ⟨(by first|omega|fail),(by first|assumption|fail)⟩)|skip
 all_goals first|(exfalso;exact hd ⟨(by first|assumption|fail),(by first|assumption|fail)⟩)|skip
 all_goals first|(exfalso;exact hne (by first|assumption|fail))|(exfalso;omega)|skip
 all_goals exact D7 (p+1) [(10,42)] (by (try dsimp only);omega) (by first|omega|(dsimp only;omega)) rfl (by ((try dsimp only);rw [e0,e1,e2]);exact AE8)
end
end Go.Proofs.YtbhgfoikbkaohaaGreat
namespace Go.Proofs.YtbhgfoikbkaohaaGreat
open Go Go.Am Go.Pol
open Go.Proofs.YtbhgfoikbkaohaaGreat renaming plx_Tj → plx
open Go.Proofs.YtbhgfoikbkaohaaGreat renaming ppx_Tj → ppx
section
variable {s:Sy} {o:Nat} {ho:o=66624} {hlen:s.l.length≤100000} {p:Nat}
theorem rd_new_01 (hp4:p < 1024) (hp0:0 < p) (h0:¬ s.K p=0) (hb:¬ (0 < p∧s.K (p - 1)=s.K p)) (hu:¬ (p % 16=0∧s.G (p / 16)=true)) (hd:s.K p=2∧¬ AD3 (s.B p)):(skel s o ho hlen).1 p:=by
 have hL0:=V4 (K:=s.K) (n:=p)
 have hL1:=V5 (G:=s.G) (n:=p)
 have hL2:=V7 (B:=s.B2) (n:=p)
 have hst:=Q0 (K:=s.K) (G:=s.G) (B:=s.B) ho (Y4 (l:=s.l) (C:=s.C) (H:=s.H))
 have hru:=R8 (K:=s.K) (G:=s.G) (B:=s.B) (l:=s.l) (C:=s.C) (H:=s.H) ho
 have hk:(refK s.K s.G s.B (stA s.l s.C s.H))[p]? = some (.int .i64 (s.K p)):=M6 hp4
 have hh:(refK s.K s.G s.B (stA s.l s.C s.H))[1024+p / 16]? = some (.bool (s.G (p / 16))):=Y3 (by omega)
 have hw16:=AU1 (q:=p) (by omega)
 have ht16:((p:Nat):Int).tmod 16=((p % 16:Nat):Int):=by rw [Int.tmod_eq_emod_of_nonneg (by omega)];omega
 have hby:=X5 (K:=s.K) (G:=s.G) (B:=s.B) (P:=stA s.l s.C s.H) hp4
 have hyl:=by_len (s.B p)
 have hyz:=AJ2 (s.B p)
 generalize hy:byA (s.B p)=y at hby hyl hyz
 have e0:F4 s.K (p+1)=F4 s.K p++[⟨((p:Nat):Int),1,s.K p⟩]:=by
  show (if s.K p=0 then _ else if 0 < p∧s.K (p - 1)=s.K p then bump (F4 s.K p) else _)=_
  rw [if_neg h0,if_neg hb]
 have hk1:(refK s.K s.G s.B (stA s.l s.C s.H))[(((p:Nat):Int) - 1).toNat]? = some (.int .i64 (s.K (p - 1))):=by rw [show (((p:Nat):Int) - 1).toNat=p - 1 by omega];exact M6 (by omega)
 have hp1:IntKind.i64.wrap (((p:Nat):Int) - 1)=((p - 1:Nat):Int):=by rw [IntWalk.i64_in _ ⟨by omega,by omega⟩];omega
 have hne:¬ s.K (p - 1)=s.K p:=fun h=>hb ⟨hp0,h⟩
 have e1:K4 s.G (p+1)=K4 s.G p:=if_neg hu
 have e2:=AT5 hd
 obtain ⟨hd1,hd2⟩:=hd
 unfold skel
 dsimp only
 (refine wtk ?_;repeat' (first|with_reducible refine And.intro ?_ ?_|intro hsp))
 all_goals first|(exfalso;exact hu ⟨(by first|omega|fail),(by first|assumption|fail)⟩)|skip
 all_goals first|(exfalso;exact hne (by first|assumption|fail))|(exfalso;omega)|skip
 all_goals exact D7 (p+1) [(10,42),(12,56)] (by (try dsimp only);omega) (by first|omega|(dsimp only;omega)) rfl (by ((try dsimp only);rw [e0,e1,e2]);exact AE8)
end
end Go.Proofs.YtbhgfoikbkaohaaGreat
