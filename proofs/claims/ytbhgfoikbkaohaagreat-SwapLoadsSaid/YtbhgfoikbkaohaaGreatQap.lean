/-
 The maps of a store behind each change.
 A page is put into a slot.
 A page is touched.
 A page is touched: all of it;reading and writing.
-/
import Derived.Test.YtbhgfoikbkaohaaGreatQao
set_option linter.unusedSimpArgs false
set_option linter.unusedVariables false
set_option maxHeartbeats 6400000
namespace Go.Pol
open Go.Am Go.Proofs.YtbhgfoikbkaohaaGreat.Sh
section
variable {w:Sw} {t:WS}
theorem Ah4 {f:Nat→Int} {i j:Nat} {v:Int}:F4 f i v j=if j=i then v else f j:=rfl
theorem Af5 (hg:F5 w) (p:Nat):(w.F p = -1)∨(w.T p = -1∧0≤w.F p):=by
 rcases hg.fr p with h | ⟨h1,f,h2,_⟩
 ·exact .inl h
 ·exact .inr ⟨h1,by omega⟩
theorem AO9 (hg:F5 w) (p:Nat):(w.T p = -1)∨(w.F p = -1∧0≤w.T p):=by
 rcases hg.sl p with h | ⟨h1,f,h2,_⟩
 ·exact .inl h
 ·exact .inr ⟨h1,by omega⟩
theorem BA5 {w':Sw} {t':WS} (n1:ndI t'.W) (n2:ndI t'.D) (n3:ndI t'.H) (hf:∀ p,w'.pg≤p→w'.T p = -1)
  (g1:∀ p:Nat,mgI t'.W (p:Nat)=if w'.is p then some (w'.F p,w'.T p,w'.Z p) else none) (g1':∀ p:Int,p < 0→mgI t'.W p=none)
  (g2:∀ k:Nat,(∀ p,w'.T p=(k:Nat)→mgI t'.D (k:Nat)=some (w'.D k))∧((∀ p,w'.T p ≠ (k:Nat))→mgI t'.D (k:Nat)=none)) (g2':∀ k:Int,k < 0→mgI t'.D k=none)
  (g3:∀ (f p:Nat),mgI t'.H (f:Nat)=some ((p:Nat):Int) ↔ w'.F p=(f:Nat)) (g3':∀ f:Int,f < 0→mgI t'.H f=none) (g3n:∀ (f p:Int),mgI t'.H f=some p→0≤p):WOk w' t':=by
 refine ⟨n1,n2,n3,fun p=>?_,fun k=>?_,fun f p=>?_⟩
 ·by_cases h0:0≤p
  ·obtain ⟨m,rfl⟩:=Int.eq_ofNat_of_zero_le h0
   rw [g1,Int.toNat_natCast]
   by_cases hi:w'.is m
   ·rw [if_pos hi,if_pos ⟨h0,hi⟩]
   ·rw [if_neg hi,if_neg fun h=>hi h.2]
  ·rw [g1' p (by omega),if_neg fun h=>h0 h.1]
 ·by_cases h0:0≤k
  ·obtain ⟨m,rfl⟩:=Int.eq_ofNat_of_zero_le h0
   rw [Int.toNat_natCast]
   by_cases hh:w'.heldT m
   ·obtain ⟨p,_,hp⟩:=hh
    rw [if_pos ⟨h0,⟨p,by assumption,hp⟩⟩]
    exact (g2 m).1 p hp
   ·rw [if_neg fun h=>hh h.2]
    refine (g2 m).2 fun p hp=>hh ⟨p,?_,hp⟩
    exact Classical.byContradiction fun hn=>by rw [hf p (by omega)] at hp;omega
  ·rw [g2' k (by omega),if_neg fun h=>h0 h.1]
 ·by_cases h0:0≤f
  ·obtain ⟨m,rfl⟩:=Int.eq_ofNat_of_zero_le h0
   constructor
   ·intro h
    have hp:=g3n _ _ h
    obtain ⟨j,rfl⟩:=Int.eq_ofNat_of_zero_le hp
    rw [Int.toNat_natCast]
    exact ⟨hp,h0,(g3 m j).1 h⟩
   ·rintro ⟨h1,_,h3⟩
    obtain ⟨j,rfl⟩:=Int.eq_ofNat_of_zero_le h1
    rw [Int.toNat_natCast] at h3
    exact (g3 m j).2 h3
  ·rw [g3' f (by omega)]
   exact ⟨fun h=>(by cases h),fun h=>absurd h.2.1 h0⟩
theorem gW_n (h:WOk w t) (p:Nat):mgI t.W (p:Nat)=if w.is p then some (w.F p,w.T p,w.Z p) else none:=by
 by_cases hi:w.is p
 ·rw [if_pos hi,Aa4 h.ww hi]
 ·rw [if_neg hi,gW_no h.ww hi]
theorem BF2 (h:WOk w t) {p:Int} (hp:p < 0):mgI t.W p=none:=by rw [h.gW,if_neg fun h2=>by have:=h2.1;omega]
theorem Ag8 (h:WOk w t) {k:Int} (hk:k < 0):mgI t.D k=none:=by rw [h.gD,if_neg fun h2=>by have:=h2.1;omega]
theorem Aa5 (hg:F5 w) (h:WOk w t) {p k:Nat} (hp:w.T p=(k:Nat)):mgI t.D (k:Nat)=some (w.D k):=by
 rw [h.gD,if_pos ⟨by omega,by rw [Int.toNat_natCast];exact ⟨p,AT7 hg (by omega),hp⟩⟩,Int.toNat_natCast]
theorem BF3 (h:WOk w t) {k:Nat} (hp:∀ p,w.T p ≠ (k:Nat)):mgI t.D (k:Nat)=none:=by
 rw [h.gD,if_neg fun h2=>by
  have:=h2.2
  rw [Int.toNat_natCast] at this
  obtain ⟨p,_,h3⟩:=this
  exact hp p h3]
theorem gH_n (h:WOk w t) (f p:Nat):mgI t.H (f:Nat)=some ((p:Nat):Int) ↔ w.F p=(f:Nat):=by
 rw [h.gH,Int.toNat_natCast]
 exact ⟨fun h=>h.2.2,fun h=>⟨by omega,by omega,h⟩⟩
theorem At4 (h:WOk w t) {f:Int} (hf:f < 0):mgI t.H f=none:=by
 cases hm:mgI t.H f with
 | none=>rfl
 | some p=>have:=((h.gH f p).1 hm).2.1;omega
theorem gH_ge (h:WOk w t) {f p:Int} (hf:mgI t.H f=some p):0≤p:=((h.gH f p).1 hf).1
theorem Aj8 (h:WOk w t) (s':Sy):WOk { w with s:=s' } t:=⟨h.ndW,h.ndD,h.ndH,h.gW,h.gD,h.gH⟩
theorem wok_stamp (hg:F5 w) (h:WOk w t) {p:Nat} (hp:0≤w.F p) (now:Int):WOk { w with Z:=F4 w.Z p now } ⟨mpI t.W (p:Nat) (w.F p,w.T p,now),t.D,t.H⟩:=by
 refine BA5 (Am0 h.ndW) h.ndD h.ndH (fun j hj=>(hg.far j hj).2) (fun j=>?_) (fun j hj=>?_) (fun k=>⟨fun j hj=>Aa5 hg h hj,fun hj=>BF3 h hj⟩) (fun k hk=>Ag8 h hk) (fun f j=>gH_n h f j) (fun f hf=>At4 h hf) (fun f j hj=>gH_ge h hj)
 ·show mgI (mpI t.W (p:Nat) (w.F p,w.T p,now)) (j:Nat)=if w.is j then some (w.F j,w.T j,F4 w.Z p now j) else none
  rw [AH6,Ah4,gW_n h]
  by_cases e:j=p
  ·subst e;rw [if_pos rfl,if_pos (.inl hp),if_pos rfl]
  ·rw [if_neg (by omega),if_neg e]
 ·show mgI (mpI t.W (p:Nat) (w.F p,w.T p,now)) j=none
  rw [AH6,if_neg (by omega),BF2 h hj]
theorem wok_brg (hg:F5 w) (h:WOk w t) {p f:Nat} (hp:p < w.pg) (hn:¬ 0≤w.F p) (hf:¬ w.heldF f) (now:Int) (x:Nat→Int):WOk (w.brg p f now x) ⟨mpI t.W (p:Nat) ((f:Nat),-1,now),mdI t.D (w.T p),mpI t.H (f:Nat) (p:Nat)⟩:=by
 have hfn:∀ j,w.F j ≠ (f:Nat):=fun j hj=>hf ⟨j,AL5 hg (by omega),hj⟩
 have hFp:w.F p = -1:=(Af5 hg p).resolve_right fun h=>hn h.2
 refine BA5 (Am0 h.ndW) (BL5 h.ndD) (Am0 h.ndH) (fun j hj=>?_) (fun j=>?_) (fun j hj=>?_) (fun k=>⟨fun j hj=>?_,fun hj=>?_⟩) (fun k hk=>?_) (fun g j=>?_) (fun g hg'=>?_) (fun g j hj=>?_)
 ·show F4 w.T p (-1) j = -1
  rw [Ah4]
  split
  ·rfl
  ·exact (hg.far j hj).2
 ·show mgI (mpI t.W (p:Nat) ((f:Nat),-1,now)) (j:Nat)=if (0≤F4 w.F p (f:Nat) j∨0≤F4 w.T p (-1) j) then some (F4 w.F p (f:Nat) j,F4 w.T p (-1) j,F4 w.Z p now j) else none
  rw [AH6,Ah4,Ah4,Ah4,gW_n h]
  by_cases e:j=p
  ·subst e;rw [if_pos rfl,if_pos rfl,if_pos rfl,if_pos rfl,if_pos (.inl (by omega))]
  ·rw [if_neg (by omega),if_neg e,if_neg e,if_neg e];rfl
 ·show mgI (mpI t.W (p:Nat) ((f:Nat),-1,now)) j=none
  rw [AH6,if_neg (by omega),BF2 h hj]
 ·have hj':F4 w.T p (-1) j=(k:Nat):=hj
  rw [Ah4] at hj'
  show mgI (mdI t.D (w.T p)) (k:Nat)=some (w.D k)
  split at hj'
  ·omega
  ·rename_i e
   rw [AL7 h.ndD,if_neg fun e2=>e (hg.oneT j p (by omega) (by omega)),Aa5 hg h hj']
 ·show mgI (mdI t.D (w.T p)) (k:Nat)=none
  rw [AL7 h.ndD]
  by_cases e:((k:Nat):Int)=w.T p
  ·rw [if_pos e]
  ·rw [if_neg e]
   refine BF3 h fun i hi=>?_
   have:=hj i
   have h2:F4 w.T p (-1) i ≠ (k:Nat):=this
   rw [Ah4] at h2
   split at h2
   ·rename_i e2;subst e2;exact e hi.symm
   ·exact h2 hi
 ·show mgI (mdI t.D (w.T p)) k=none
  rw [AL7 h.ndD,Ag8 h hk];split<;>rfl
 ·show mgI (mpI t.H (f:Nat) (p:Nat)) (g:Nat)=some ((j:Nat):Int) ↔ F4 w.F p (f:Nat) j=(g:Nat)
  rw [AH6,Ah4]
  by_cases e:g=f
  ·subst e
   rw [if_pos rfl]
   by_cases e2:j=p
   ·subst e2;rw [if_pos rfl];simp
   ·rw [if_neg e2]
    exact ⟨fun h=>absurd (Option.some.inj h) (by omega),fun h=>absurd h (hfn j)⟩
  ·rw [if_neg (by omega),gH_n h]
   by_cases e2:j=p
   ·subst e2;rw [if_pos rfl,hFp];exact ⟨fun h=>by omega,fun h=>by omega⟩
   ·rw [if_neg e2]
 ·show mgI (mpI t.H (f:Nat) (p:Nat)) g=none
  rw [AH6,if_neg (by omega),At4 h hg']
 ·have hj':mgI (mpI t.H (f:Nat) (p:Nat)) g=some j:=hj
  rw [AH6] at hj'
  split at hj'
  ·cases hj';omega
  ·exact gH_ge h hj'
theorem BI6 (hg:F5 w) (h:WOk w t) {p v f k:Nat} (hp:p < w.pg) (hn:¬ 0≤w.F p) (hv:w.F v=(f:Nat)) (hk:((k:Nat):Int)=w.T p∨¬ w.heldT k) (now:Int) (x:Nat→Int) :
  WOk ((w.put v k).brg p (w.F v).toNat now x) ⟨mpI (mpI t.W (v:Nat) (-1,(k:Nat),w.Z v)) (p:Nat) ((f:Nat),-1,now),mpI (mdI t.D (w.T p)) (k:Nat) (w.s.B f),mpI (mdI t.H (f:Nat)) (f:Nat) (p:Nat)⟩:=by
 have hFp:w.F p = -1:=(Af5 hg p).resolve_right fun h=>hn h.2
 have hvp:v ≠ p:=fun e=>by rw [e,hFp] at hv;omega
 have hTv:w.T v = -1:=(AO9 hg v).resolve_right fun h=>by rw [h.1] at hv;omega
 have hkn:∀ j,j ≠ p→w.T j ≠ (k:Nat):=fun j hj e=>by
  rcases hk with hk|hk
  ·exact hj (hg.oneT j p (by omega) (by omega))
  ·exact hk ⟨j,AT7 hg (by omega),e⟩
 have hfn:∀ j,j ≠ v→w.F j ≠ (f:Nat):=fun j hj e=>hj (hg.oneF j v (by omega) (by omega))
 have hft:(w.F v).toNat=f:=by rw [hv,Int.toNat_natCast]
 have eF:∀ j,((w.put v k).brg p (w.F v).toNat now x).F j=if j=p then ((f:Nat):Int) else if j=v then -1 else w.F j:=fun j=>by
  show F4 (F4 w.F v (-1)) p ((w.F v).toNat:Nat) j=_
  rw [hft,Ah4,Ah4]
 have eT:∀ j,((w.put v k).brg p (w.F v).toNat now x).T j=if j=p then -1 else if j=v then ((k:Nat):Int) else w.T j:=fun j=>by
  show F4 (F4 w.T v (k:Nat)) p (-1) j=_
  rw [Ah4,Ah4]
 have eZ:∀ j,((w.put v k).brg p (w.F v).toNat now x).Z j=if j=p then now else w.Z j:=fun j=>rfl
 have eD:∀ j,((w.put v k).brg p (w.F v).toNat now x).D j=if j=k then w.s.B f else w.D j:=fun j=>by
  show AA7 w.D k (w.s.B (w.F v).toNat) j=_
  rw [hft];rfl
 have hpg:((w.put v k).brg p (w.F v).toNat now x).pg=w.pg:=rfl
 have hvl:v < w.pg:=AL5 hg (by omega)
 have eis:∀ j,((w.put v k).brg p (w.F v).toNat now x).is j ↔ (j=p∨j=v∨w.is j):=fun j=>by
  unfold Sw.is
  rw [eF,eT]
  by_cases e1:j=p
  ·rw [if_pos e1,if_pos e1];exact ⟨fun _=>.inl e1,fun _=>.inl (by omega)⟩
  ·rw [if_neg e1,if_neg e1]
   by_cases e2:j=v
   ·rw [if_pos e2,if_pos e2];exact ⟨fun _=>.inr (.inl e2),fun _=>.inr (by omega)⟩
   ·rw [if_neg e2,if_neg e2]
    exact ⟨fun h=>.inr (.inr h),fun h=>h.elim (fun h=>absurd h e1) fun h=>h.elim (fun h=>absurd h e2) id⟩
 generalize (w.put v k).brg p (w.F v).toNat now x=w' at *
 refine BA5 (Am0 (Am0 h.ndW)) (Am0 (BL5 h.ndD)) (Am0 (BL5 h.ndH)) (fun j hj=>?_) (fun j=>?_) (fun j hj=>?_) (fun m=>⟨fun j hj=>?_,fun hj=>?_⟩) (fun m hm=>?_) (fun g j=>?_) (fun g hg'=>?_) (fun g j hj=>?_)
 ·rw [eT,if_neg (by omega),if_neg (by omega)];exact (hg.far j (by omega)).2
 ·dsimp only
  rw [AH6,AH6,gW_n h,eF,eT,eZ]
  by_cases e1:j=p
  ·subst e1;rw [if_pos rfl,if_pos rfl,if_pos rfl,if_pos rfl,if_pos ((eis j).2 (.inl rfl))]
  ·rw [if_neg (by omega),if_neg e1,if_neg e1,if_neg e1]
   by_cases e2:j=v
   ·subst e2;rw [if_pos rfl,if_pos rfl,if_pos rfl,if_pos ((eis j).2 (.inr (.inl rfl)))]
   ·rw [if_neg (by omega),if_neg e2,if_neg e2]
    by_cases hi:w.is j
    ·rw [if_pos hi,if_pos ((eis j).2 (.inr (.inr hi)))]
    ·rw [if_neg hi,if_neg fun h2=>((eis j).1 h2).elim e1 fun h3=>h3.elim e2 hi]
 ·dsimp only
  rw [AH6,if_neg (by omega),AH6,if_neg (by omega),BF2 h hj]
 ·rw [eT] at hj
  dsimp only
  rw [AH6,eD]
  by_cases e:m=k
  ·subst e;rw [if_pos rfl,if_pos rfl]
  ·rw [if_neg (by omega),if_neg e,AL7 h.ndD]
   split at hj
   ·omega
   ·rename_i e1
    split at hj
    ·omega
    ·rw [if_neg fun e2=>e1 (hg.oneT j p (by omega) (by omega)),Aa5 hg h hj]
 ·dsimp only
  have hne:m ≠ k:=fun e=>by
   have:=hj v
   rw [eT,if_neg hvp,if_pos rfl] at this
   exact this (by omega)
  rw [AH6,if_neg (by omega),AL7 h.ndD]
  by_cases e:((m:Nat):Int)=w.T p
  ·rw [if_pos e]
  ·rw [if_neg e]
   refine BF3 h fun i hi=>?_
   have h2:=hj i
   rw [eT] at h2
   split at h2
   ·rename_i e2;subst e2;exact e hi.symm
   ·split at h2
    ·rename_i e2;subst e2;omega
    ·exact h2 hi
 ·dsimp only
  rw [AH6,if_neg (by omega),AL7 h.ndD,Ag8 h hm];split<;>rfl
 ·dsimp only
  rw [AH6,eF]
  by_cases e:g=f
  ·subst e
   rw [if_pos rfl]
   by_cases e2:j=p
   ·subst e2;rw [if_pos rfl];simp
   ·rw [if_neg e2]
    constructor
    ·intro h;exact absurd (Option.some.inj h) (by omega)
    ·intro h2
     split at h2
     ·omega
     ·rename_i e3;exact absurd h2 (hfn j e3)
  ·rw [if_neg (by omega),AL7 h.ndH,if_neg (by omega),gH_n h]
   by_cases e2:j=p
   ·subst e2;rw [if_pos rfl,hFp];exact ⟨fun h=>by omega,fun h=>by omega⟩
   ·rw [if_neg e2]
    by_cases e3:j=v
    ·subst e3;rw [if_pos rfl,hv];exact ⟨fun h=>by omega,fun h=>by omega⟩
    ·rw [if_neg e3]
 ·dsimp only
  rw [AH6,if_neg (by omega),AL7 h.ndH,At4 h hg'];split<;>rfl
 ·dsimp only at hj
  rw [AH6] at hj
  split at hj
  ·cases hj;omega
  ·rw [AL7 h.ndH] at hj
   split at hj
   ·cases hj
   ·exact gH_ge h hj
theorem wok_out (hg:F5 w) (h:WOk w t) {p f k:Nat} (hv:w.F p=(f:Nat)) (hk:¬ w.heldT k):WOk (w.put p k) ⟨mpI t.W (p:Nat) (-1,(k:Nat),w.Z p),mpI t.D (k:Nat) (w.s.B f),mdI t.H (f:Nat)⟩:=by
 have hTp:w.T p = -1:=(AO9 hg p).resolve_right fun h=>by rw [h.1] at hv;omega
 have hpl:p < w.pg:=AL5 hg (by omega)
 have hkn:∀ j,w.T j ≠ (k:Nat):=fun j e=>hk ⟨j,AT7 hg (by omega),e⟩
 have hft:(w.F p).toNat=f:=by rw [hv,Int.toNat_natCast]
 have eF:∀ j,(w.put p k).F j=if j=p then -1 else w.F j:=fun j=>rfl
 have eT:∀ j,(w.put p k).T j=if j=p then ((k:Nat):Int) else w.T j:=fun j=>rfl
 have eZ:∀ j,(w.put p k).Z j=w.Z j:=fun j=>rfl
 have eD:∀ j,(w.put p k).D j=if j=k then w.s.B f else w.D j:=fun j=>by
  show AA7 w.D k (w.s.B (w.F p).toNat) j=_
  rw [hft];rfl
 have hpg:(w.put p k).pg=w.pg:=rfl
 have eis:∀ j,(w.put p k).is j ↔ (j=p∨w.is j):=fun j=>by
  unfold Sw.is
  rw [eF,eT]
  by_cases e1:j=p
  ·rw [if_pos e1,if_pos e1];exact ⟨fun _=>.inl e1,fun _=>.inr (by omega)⟩
  ·rw [if_neg e1,if_neg e1]
   exact ⟨fun h=>.inr h,fun h=>h.elim (fun h=>absurd h e1) id⟩
 generalize w.put p k=w' at *
 refine BA5 (Am0 h.ndW) (Am0 h.ndD) (BL5 h.ndH) (fun j hj=>?_) (fun j=>?_) (fun j hj=>?_) (fun m=>⟨fun j hj=>?_,fun hj=>?_⟩) (fun m hm=>?_) (fun g j=>?_) (fun g hg'=>?_) (fun g j hj=>?_)
 ·rw [eT,if_neg (by omega)];exact (hg.far j (by omega)).2
 ·dsimp only
  rw [AH6,gW_n h,eF,eT,eZ]
  by_cases e1:j=p
  ·subst e1;rw [if_pos rfl,if_pos rfl,if_pos rfl,if_pos ((eis j).2 (.inl rfl))]
  ·rw [if_neg (by omega),if_neg e1,if_neg e1]
   by_cases hi:w.is j
   ·rw [if_pos hi,if_pos ((eis j).2 (.inr hi))]
   ·rw [if_neg hi,if_neg fun h2=>((eis j).1 h2).elim e1 hi]
 ·dsimp only
  rw [AH6,if_neg (by omega),BF2 h hj]
 ·rw [eT] at hj
  dsimp only
  rw [AH6,eD]
  by_cases e:m=k
  ·subst e;rw [if_pos rfl,if_pos rfl]
  ·rw [if_neg (by omega),if_neg e]
   split at hj
   ·omega
   ·exact Aa5 hg h hj
 ·dsimp only
  have hne:m ≠ k:=fun e=>by
   have:=hj p
   rw [eT,if_pos rfl] at this
   exact this (by omega)
  rw [AH6,if_neg (by omega)]
  refine BF3 h fun i hi=>?_
  have h2:=hj i
  rw [eT] at h2
  split at h2
  ·rename_i e2;subst e2;omega
  ·exact h2 hi
 ·dsimp only
  rw [AH6,if_neg (by omega),Ag8 h hm]
 ·dsimp only
  rw [AL7 h.ndH,eF]
  by_cases e:g=f
  ·subst e
   rw [if_pos rfl]
   constructor
   ·intro h;cases h
   ·intro h2
    split at h2
    ·omega
    ·rename_i e3;exact absurd (hg.oneF j p (by omega) (by omega)) e3
  ·rw [if_neg (by omega),gH_n h]
   by_cases e2:j=p
   ·subst e2;rw [if_pos rfl,hv];exact ⟨fun h=>by omega,fun h=>by omega⟩
   ·rw [if_neg e2]
 ·dsimp only
  rw [AL7 h.ndH,At4 h hg'];split<;>rfl
 ·dsimp only at hj
  rw [AL7 h.ndH] at hj
  split at hj
  ·cases hj
  ·exact gH_ge h hj
theorem wok_fre (hg:F5 w) (h:WOk w t) {p:Nat} (hi:w.is p):WOk { w with F:=F4 w.F p (-1),T:=F4 w.T p (-1),Z:=F4 w.Z p 0 } ⟨mdI t.W (p:Nat),mdI t.D (w.T p),mdI t.H (w.F p)⟩:=by
 have eF:∀ j,({ w with F:=F4 w.F p (-1),T:=F4 w.T p (-1),Z:=F4 w.Z p 0 }:Sw).F j=if j=p then -1 else w.F j:=fun j=>rfl
 have eT:∀ j,({ w with F:=F4 w.F p (-1),T:=F4 w.T p (-1),Z:=F4 w.Z p 0 }:Sw).T j=if j=p then -1 else w.T j:=fun j=>rfl
 have eZ:∀ j,j ≠ p→({ w with F:=F4 w.F p (-1),T:=F4 w.T p (-1),Z:=F4 w.Z p 0 }:Sw).Z j=w.Z j:=fun j hj=>if_neg hj
 have eD:∀ j,({ w with F:=F4 w.F p (-1),T:=F4 w.T p (-1),Z:=F4 w.Z p 0 }:Sw).D j=w.D j:=fun j=>rfl
 have hpg:({ w with F:=F4 w.F p (-1),T:=F4 w.T p (-1),Z:=F4 w.Z p 0 }:Sw).pg=w.pg:=rfl
 have eis:∀ j,({ w with F:=F4 w.F p (-1),T:=F4 w.T p (-1),Z:=F4 w.Z p 0 }:Sw).is j ↔ (j ≠ p∧w.is j):=fun j=>by
  unfold Sw.is
  rw [eF,eT]
  by_cases e1:j=p
  ·rw [if_pos e1,if_pos e1];exact ⟨fun h=>by omega,fun h=>absurd e1 h.1⟩
  ·rw [if_neg e1,if_neg e1]
   exact ⟨fun h=>⟨e1,h⟩,fun h=>h.2⟩
 generalize ({ w with F:=F4 w.F p (-1),T:=F4 w.T p (-1),Z:=F4 w.Z p 0 }:Sw)=w' at *
 refine BA5 (BL5 h.ndW) (BL5 h.ndD) (BL5 h.ndH) (fun j hj=>?_) (fun j=>?_) (fun j hj=>?_) (fun m=>⟨fun j hj=>?_,fun hj=>?_⟩) (fun m hm=>?_) (fun g j=>?_) (fun g hg'=>?_) (fun g j hj=>?_)
 ·rw [eT];split
  ·rfl
  ·exact (hg.far j (by omega)).2
 ·dsimp only
  rw [AL7 h.ndW,gW_n h]
  by_cases e1:j=p
  ·subst e1;rw [if_pos rfl,if_neg fun h2=>((eis j).1 h2).1 rfl]
  ·rw [if_neg (by omega),eF,eT,if_neg e1,if_neg e1,eZ j e1]
   by_cases hi:w.is j
   ·rw [if_pos hi,if_pos ((eis j).2 ⟨e1,hi⟩)]
   ·rw [if_neg hi,if_neg fun h2=>hi ((eis j).1 h2).2]
 ·dsimp only
  rw [AL7 h.ndW,BF2 h hj];split<;>rfl
 ·rw [eT] at hj
  dsimp only
  rw [AL7 h.ndD,eD]
  split at hj
  ·omega
  ·rename_i e1
   rw [if_neg fun e2=>e1 (hg.oneT j p (by omega) (by omega)),Aa5 hg h hj]
 ·dsimp only
  rw [AL7 h.ndD]
  by_cases e:((m:Nat):Int)=w.T p
  ·rw [if_pos e]
  ·rw [if_neg e]
   refine BF3 h fun i hti=>?_
   have h2:=hj i
   rw [eT] at h2
   split at h2
   ·rename_i e2;exact e (by rw [← e2];exact hti.symm)
   ·exact h2 hti
 ·dsimp only
  rw [AL7 h.ndD,Ag8 h hm];split<;>rfl
 ·dsimp only
  rw [AL7 h.ndH,eF]
  by_cases e:((g:Nat):Int)=w.F p
  ·rw [if_pos e]
   constructor
   ·intro h;cases h
   ·intro h2
    split at h2
    ·omega
    ·rename_i e3;exact absurd (hg.oneF j p (by omega) (by omega)) e3
  ·rw [if_neg e,gH_n h]
   by_cases e2:j=p
   ·subst e2;rw [if_pos rfl];exact ⟨fun h=>absurd h.symm e,fun h=>by omega⟩
   ·rw [if_neg e2]
 ·dsimp only
  rw [AL7 h.ndH,At4 h hg'];split<;>rfl
 ·dsimp only at hj
  rw [AL7 h.ndH] at hj
  split at hj
  ·cases hj
  ·exact gH_ge h hj
end
end Go.Pol
namespace Go.Am
section
variable {P:Program} {G:Gl}
theorem BP9 {a b:At} {rd:List Nat}:∀ {up:Up},(∀ i ∈ rd,b i=a i)→(∀ j o,(j,o) ∈ up→j ∈ rd∧a j=o)→upd b up=b
 | [],_,_=>rfl
 | (i,o)::r,h1,h2=>by
  have ih:=BP9 (up:=r) h1 fun j o h=>h2 j o (List.mem_cons_of_mem _ h)
  funext j
  show (if j=i then o else upd b r j)=b j
  split
  ·rename_i e
   obtain ⟨k1,k2⟩:=h2 i o (List.mem_cons_self ..)
   rw [e,h1 i k1,k2]
  ·rw [ih]
theorem fnU_keep {f:Nat} {args:List AV} {rd:List Nat} {at_:At} {r:AV} {up:Up} {id:Nat} (h:FnU P G f args rd at_ r up id) (hup:∀ j o,(j,o) ∈ up→j ∈ rd∧at_ j=o) (hid:id ∉ rd):FnU P G f args rd at_ r [] id:=by
 refine ⟨h.1,fun c vs hR hG hu hat ha=>(h.2 c vs hR hG hu hat ha).mono ?_⟩
 rintro e w' ⟨v,c',h1,h2,h3,h4,h5,h6,h7⟩
 refine ⟨v,c',h1,h2,h3,h4,h5,?_,fun i=>?_⟩
 ·rw [h6,BP9 hat hup];rfl
 ·rw [h7]
  have : AB5 up id=[]:=by
   unfold AB5
   rw [if_neg]
   simp only [List.any_eq_true,beq_iff_eq,not_exists,not_and]
   rintro ⟨j,o⟩ hq e
   exact hid (by rw [← show j=id from e];exact (hup j o hq).1)
  rw [this];rfl
theorem Ay3 {g:Nat} {avs:List AV} {h:Hp} {K:AV→Up→List Nat→Prop} (hd:AP2 P G g avs h fun r up rd=>(∀ j o,(j,o) ∈ up→j ∈ rd∧lk h.l j=o)∧h.next ∉ rd∧K r [] rd):AP2 P G g avs h K:=by
 obtain ⟨r,up,rd,h1,h2,h3,h4⟩:=hd.out
 exact ⟨r,[],rd,fnU_keep h1 h2 h3,h4⟩
end
end Go.Am
namespace Go.Pol
theorem AL6 {x:Int}:min (x+1) 1000000000=AV1 x:=by
 unfold AV1
 split<;>omega
end Go.Pol
namespace Go.Proofs.YtbhgfoikbkaohaaGreat.Sh
open Go Go.Am Go.Pol
theorem wx_Sxg {p q:Prop} (hq:q) (h:Y3 q→p:=by (intro hQz;((repeat' ((try (conv=>whnf));first|refine sxA ?_|refine AC4 hW rfl ?_|refine AM8 rfl (q.s.B f) rfl ?_|refine AM8 rfl ((-1:Int),k,z) rfl ?_|refine mdel_i rfl ?_|refine sxF ?_|refine dcx_wk hgt rfl rfl rfl rfl rfl rfl rfl ?_|refine sxH ?_|((with_reducible first|apply U1 hQz|apply U2 hQz)<;>(try intro hsp hQz))|exact hQz.out))<;>(try (conv=>whnf))))):p:=h ⟨hq⟩
section
variable {q:Sw} {t:WS}
theorem dcx_wk {f:Nat} {avs:List AV} {o w d m s:Nat} {h:Hp} {r:AV} {K:AV→Up→List Nat→Prop} (hc:W9 f avs q t r q t)
  (g0:lk h.l o=some (.cells (stC s w d m q))) (g1:lk h.l w=some (.maps (encW pgE t.W))) (g2:lk h.l d=some (.maps (encW byE t.D))) (g3:lk h.l m=some (.maps (encW nuE t.H))) (g4:lk h.l s=some (.cells q.s.a))
  (hd:Ad7 [o,w,d,m,s]=true) (hnx':[o,w,d,m,s].contains h.next=false)
  (hk:K r [] [o,w,d,m,s]):AP2 Tryz.prog G0 f (.ptr o 0::avs) h K:=by
 refine Ay3 (dcx_w hc g0 g1 g2 g3 g4 hd hnx' ⟨fun j x hx=>?_,fun hm=>by rw [List.contains_eq_mem,decide_eq_false_iff_not] at hnx';exact hnx' hm,hk⟩)
 simp only [List.mem_cons,Prod.mk.injEq,List.not_mem_nil,or_false] at hx ⊢
 rcases hx with ⟨rfl,rfl⟩ | ⟨rfl,rfl⟩ | ⟨rfl,rfl⟩ | ⟨rfl,rfl⟩ | ⟨rfl,rfl⟩
 ·exact ⟨.inl rfl,g0⟩
 ·exact ⟨.inr (.inl rfl),g1⟩
 ·exact ⟨.inr (.inr (.inl rfl)),g2⟩
 ·exact ⟨.inr (.inr (.inr (.inl rfl))),g3⟩
 ·exact ⟨.inr (.inr (.inr (.inr rfl))),g4⟩
theorem w_outM {v f:Nat} {z sl k:Int} (hW:mgI t.W (v:Nat)=some (((f:Nat):Int),sl,z)) (hf:f < 1024) (hk:q.s.K f=2) (hc:0≤q.outs∧q.outs≤1000000000):W9 69 [.int .i64 (v:Nat),.int .i64 k] q t (.tup []) { q with outs:=AV1 q.outs } ⟨mpI t.W (v:Nat) (-1,k,z),mpI t.D k (q.s.B f),mdI t.H (f:Nat)⟩:=by
 refine W9.mk (I8 G9 b69 rfl ?_) (fun x hx=>by
  simp only [List.mem_cons,List.not_mem_nil,or_false] at hx
  rcases hx with rfl|rfl<;>exact A8) O7
 have hgt:=w_get (t:=t) hf hk
 have hadd:=AL6 (x:=q.outs)
 unfold c69
 unfold stN stC
 (refine wx_Sxg ?_;repeat' (first|with_reducible refine And.intro ?_ ?_|intro hsp))
 all_goals first|(exfalso;omega)|(simp only [hadd];exact Y5 (q:={ q with outs:=AV1 q.outs }) (t:=⟨mpI t.W (v:Nat) (-1,k,z),mpI t.D k (q.s.B f),mdI t.H (f:Nat)⟩) rfl O7 rfl rfl rfl rfl rfl)
end
end Go.Proofs.YtbhgfoikbkaohaaGreat.Sh
namespace Go.Pol
open Go.Am Go.Proofs.YtbhgfoikbkaohaaGreat.Sh
def Ah5 (q:Sw) (s1:Sy) (i:Int) (p f:Nat) (now:Int) (x:Nat→Int):Sw:={ q with ins:=i,T:=F4 q.T p (-1),F:=F4 q.F p (f:Nat),Z:=F4 q.Z p now,s:=s1.page f x }
theorem brg_R {q:Sw} {s1:Sy} {p f:Nat} {now:Int} {x:Nat→Int}:({ q with s:=s1 }:Sw).brg p f now x=Ah5 q s1 (if 0≤q.T p then AV1 q.ins else q.ins) p f now x:=rfl
theorem brg_R0 {q:Sw} {p f:Nat} {now:Int} {x:Nat→Int}:q.brg p f now x=Ah5 q q.s (if 0≤q.T p then AV1 q.ins else q.ins) p f now x:=rfl
theorem put_R {q:Sw} {p v k f:Nat} {now:Int} {x:Nat→Int} (h:v ≠ p):(q.put v k).brg p f now x=Ah5 (q.put v k) q.s (if 0≤q.T p then AV1 q.ins else q.ins) p f now x:=by
 unfold Sw.brg Ah5
 have e:(q.put v k).T p=q.T p:=if_neg fun e=>h e.symm
 rw [e];rfl
theorem AA9 {s:Sy} {f:Nat} {y:Int} (hf:f < 1024) (h:s.K f=y):s.kind (f:Nat)=[.int .i64 y,.bool (s.M f),.int .i64 0]:=by
 unfold Sy.kind
 rw [if_neg (by omega),Int.toNat_natCast,h]
end Go.Pol
namespace Go.Proofs.YtbhgfoikbkaohaaGreat.Sh
open Go Go.Am Go.Pol
theorem wx_Sxh {p q:Prop} (hq:q) (h:Y3 q→p:=by (intro hQz;((repeat' ((try (conv=>whnf));first|refine sxA ?_|refine AC5 hW rfl ?_|refine AM8 rfl (q.F p,q.T p,now) rfl ?_|refine sxF ?_|refine sxH ?_|((with_reducible first|apply U1 hQz|apply U2 hQz)<;>(try intro hsp hQz))|exact hQz.out))<;>(try (conv=>whnf))))):p:=h ⟨hq⟩
theorem wx_Sxhn {p q:Prop} (hq:q) (h:Y3 q→p:=by (intro hQz;((repeat' ((try (conv=>whnf));first|refine sxA ?_|refine AC5 hW rfl ?_|refine AH5 hW rfl ?_|refine mlook_d hD Aj6 rfl ?_|refine ⟨L8,?_⟩|refine U4 (by simp only [List.length_replicate,L8];omega) hov ?_|refine mdel_i rfl ?_|refine AM8 rfl (((f:Nat):Int),(-1:Int),now) rfl ?_|refine AM8 rfl ((p:Nat):Int) rfl ?_|refine R4 (by rw [L8];omega) List.drop_zero (J7 (by rw [L8];omega) AG9 ?_)|refine AC4 hWv rfl ?_|refine sxN ?_|refine cx_L hL hy rfl rfl rfl rfl rfl rfl rfl rfl ?_|refine Ab0 hS rfl rfl rfl rfl rfl (by decide) rfl ?_|refine K3 hkd rfl (by decide) ?_|refine K3 hcom rfl (by decide) ?_|refine Ab0 (hset (min (q.ins+1) 1000000000)) rfl rfl rfl rfl rfl (by decide) rfl ?_|refine Ab0 (hset q.ins) rfl rfl rfl rfl rfl (by decide) rfl ?_|refine Ab0 hV rfl rfl rfl rfl rfl (by decide) rfl ?_|refine Ab0 hO rfl rfl rfl rfl rfl (by decide) rfl ?_|refine Ab0 (hset (min (q1.ins+1) 1000000000)) rfl rfl rfl rfl rfl (by decide) rfl ?_|refine Ab0 (hset q1.ins) rfl rfl rfl rfl rfl (by decide) rfl ?_|refine sxH ?_|((with_reducible first|apply U1 hQz|apply U2 hQz)<;>(try intro hsp hQz))|exact hQz.out))<;>(try (conv=>whnf))))):p:=h ⟨hq⟩
section
variable {q:Sw} {t:WS}
theorem dcx_L {o w d m s b:Nat} {h:Hp} {K:AV→Up→List Nat→Prop} {y:Int} (hc:LocL q t) (hy:opA q.free=y)
  (g0:lk h.l o=some (.cells (stC s w d m q))) (g1:lk h.l w=some (.maps (encW pgE t.W))) (g2:lk h.l d=some (.maps (encW byE t.D))) (g3:lk h.l m=some (.maps (encW nuE t.H))) (g4:lk h.l s=some (.cells q.s.a)) (g5:lk h.l b=some (.cells [.ptr o 0]))
  (hd:Ad7 [o,w,d,m,s,b]=true) (hnx':[o,w,d,m,s,b].contains h.next=false)
  (hk:K (.int .i64 y) [] [o,w,d,m,s,b]):AP2 Tryz.prog G0 91 [.int .i64 (q.a:Nat),.int .i64 ((q.a:Int)+(q.n:Nat)),.fn 92 [] [.ptr b 0]] h K:=by
 subst hy
 have hnx:h.next ∉ [o,w,d,m,s,b]:=fun hm=>by rw [List.contains_eq_mem,decide_eq_false_iff_not] at hnx';exact hnx' hm
 have e0:enter [o,w,d,m,s,b] o 0:=rfl
 have e1:enter [o,w,d,m,s,b] w 1:=rfl
 have e2:enter [o,w,d,m,s,b] d 2:=rfl
 have e3:enter [o,w,d,m,s,b] m 3:=rfl
 have e4:enter [o,w,d,m,s,b] s 4:=rfl
 have e5:enter [o,w,d,m,s,b] b 5:=rfl
 have k0:j4 [o,w,d,m,s,b] 0 o:=rfl
 have k1:j4 [o,w,d,m,s,b] 1 w:=rfl
 have k2:j4 [o,w,d,m,s,b] 2 d:=rfl
 have k3:j4 [o,w,d,m,s,b] 3 m:=rfl
 have k4:j4 [o,w,d,m,s,b] 4 s:=rfl
 have k5:j4 [o,w,d,m,s,b] 5 b:=rfl
 refine Ay3 (Ay2 (l1:=[(o,AObj.cells (stC s w d m q)),(w,.maps (encW pgE t.W)),(d,.maps (encW byE t.D)),(m,.maps (encW nuE t.H)),(s,.cells q.s.a),(b,AObj.cells [AV.ptr o 0])]) [o,w,d,m,s,b] hc.out J3 hd
  (.cons e0 g0 (Al0 e4 e1 e2 e3) (.maps e1 g1 (E5 N8) (.maps e2 g2 (E5 N9) (.maps e3 g3 (E5 M6) (.cons e4 g4 (D8 F7) (.cons e5 g5 ⟨Z9 e0,trivial⟩ .nil))))))
  hnx ?_ ?_ ⟨G5 A8,G5 A8,rn_fn trivial ⟨Z9 e5,trivial⟩,trivial⟩ (G5 A8)
  (.cons k0 (Al0 k4 k1 k2 k3) (.maps k1 (E5 N8) (.maps k2 (E5 N9) (.maps k3 (E5 M6) (.cons k4 (D8 F7) (.cons k5 (cs:=[AV.ptr 0 0]) ⟨Z9 k0,trivial⟩ .nil)))))) ⟨fun j x hx=>?_,hnx,hk⟩)
 ·intro x hx
  simp only [lk]
  repeat' split
  all_goals first|exact ⟨_,rfl⟩|(exfalso;simp only [List.mem_cons,List.not_mem_nil,or_false] at hx;omega)
 ·intro j x hx
  have : j < 6:=(List.getElem?_eq_some_iff.1 hx).1
  simp only [stN,List.cons_append,List.nil_append,lk]
  repeat' split
  all_goals first|exact ⟨_,rfl⟩|(exfalso;omega)
 ·simp only [Aq2,List.map_cons,List.map_nil,List.mem_cons,Prod.mk.injEq,List.not_mem_nil,or_false] at hx ⊢
  rcases hx with ⟨rfl,rfl⟩ | ⟨rfl,rfl⟩ | ⟨rfl,rfl⟩ | ⟨rfl,rfl⟩ | ⟨rfl,rfl⟩ | ⟨rfl,rfl⟩
  ·exact ⟨.inl rfl,g0⟩
  ·exact ⟨.inr (.inl rfl),g1⟩
  ·exact ⟨.inr (.inr (.inl rfl)),g2⟩
  ·exact ⟨.inr (.inr (.inr (.inl rfl))),g3⟩
  ·exact ⟨.inr (.inr (.inr (.inr (.inl rfl)))),g4⟩
  ·exact ⟨.inr (.inr (.inr (.inr (.inr rfl)))),g5⟩
theorem cx_L {o w d m s b:Nat} {h:Hp} {K:AV→Hp→Prop} {y:Int} (hc:LocL q t) (hy:opA q.free=y)
  (g0:lk h.l o=some (.cells (stC s w d m q))) (g1:lk h.l w=some (.maps (encW pgE t.W))) (g2:lk h.l d=some (.maps (encW byE t.D))) (g3:lk h.l m=some (.maps (encW nuE t.H))) (g4:lk h.l s=some (.cells q.s.a)) (g5:lk h.l b=some (.cells [.ptr o 0]))
  (hd:Ad7 [o,w,d,m,s,b]=true) (hnx':[o,w,d,m,s,b].contains h.next=false)
  (hk:K (.int .i64 y) h):AN4 Tryz.prog G0 (.fn 91 [] []) [.int .i64 (q.a:Nat),.int .i64 ((q.a:Int)+(q.n:Nat)),.fn 92 [] [.ptr b 0]] h K:=by
 obtain ⟨r,up,rd,h1,rfl,rfl⟩:=(dcx_L (K:=fun r up _=>r = .int .i64 y∧up=[]) hc hy g0 g1 g2 g3 g4 g5 hd hnx' ⟨rfl,rfl⟩).out
 exact cx_fnU (rd:=rd) h1 hk
theorem look_out (hg:F5 q) (h:WOk q t) {p:Nat} (hn:¬ 0≤q.F p):(∃ z,mgI t.W (p:Nat)=some ((-1:Int),q.T p,z)∧0≤q.T p)∨(mgI t.W (p:Nat)=none∧q.T p = -1):=by
 have hF:q.F p = -1:=(Af5 hg p).resolve_right fun h=>hn h.2
 by_cases hi:q.is p
 ·left
  refine ⟨q.Z p,?_,hi.resolve_left hn⟩
  rw [Aa4 h.ww hi,hF]
 ·right
  refine ⟨gW_no h.ww hi,(AO9 hg p).resolve_right fun h2=>hi (.inr h2.2)⟩
theorem look_D (hg:F5 q) (h:WOk q t) (p:Nat):(match mgI t.D (q.T p) with|some b=>b|none=>fun _=>0)=q.got p:=by
 unfold Sw.got
 rcases AO9 hg p with h1 | ⟨_,h1⟩
 ·rw [if_neg (by omega),Ag8 h (by omega)]
 ·rw [if_pos h1]
  obtain ⟨k,hk⟩:=Int.eq_ofNat_of_zero_le h1
  rw [hk,Aa5 hg h hk,Int.toNat_natCast]
theorem w_touchA (hg:F5 q) (h:WOk q t) {p:Nat} {now:Int} (hF:0≤q.F p):W9 65 [.int .i64 (p:Nat),.int .i64 now] q t (.int .i64 0) { q with Z:=F4 q.Z p now } ⟨mpI t.W (p:Nat) (q.F p,q.T p,now),t.D,t.H⟩:=by
 refine W9.mk (I8 G9 b65 rfl ?_) (fun x hx=>by
  simp only [List.mem_cons,List.not_mem_nil,or_false] at hx
  rcases hx with rfl|rfl<;>exact A8) A8
 have hW:=Aa4 h.ww (p:=p) (.inl hF)
 unfold c65
 unfold stN stC
 (refine wx_Sxh ?_;repeat' (first|with_reducible refine And.intro ?_ ?_|intro hsp))
 all_goals first|(exfalso;omega)|exact Y5 (q:={ q with Z:=F4 q.Z p now }) (t:=⟨mpI t.W (p:Nat) (q.F p,q.T p,now),t.D,t.H⟩) rfl A8 rfl rfl rfl rfl rfl
theorem w_touchF {p:Nat} {now τ y:Int} {x:Nat→Int} (hrng:q.a+q.n≤1024) (hci:0≤q.ins∧q.ins≤1000000000) (hL:LocL q t) (hy:opA q.free=y) (hWT:(∃ z,mgI t.W (p:Nat)=some ((-1:Int),τ,z)∧0≤τ)∨(mgI t.W (p:Nat)=none∧τ = -1)) (hD:(match mgI t.D τ with|some b=>b|none=>fun _=>0)=x) (hn:y = -1) (hS:W9 68 [.int .i64 τ] q t (.int .i64 (-1)) q t):W9 65 [.int .i64 (p:Nat),.int .i64 now] q t (.int .i64 5) q t:=by
 refine W9.mk (I8 G9 b65 rfl ?_) (fun x hx=>by
  simp only [List.mem_cons,List.not_mem_nil,or_false] at hx
  rcases hx with rfl|rfl<;>exact A8) A8
 have hov:=Z4 (x:=x)
 have hadd:=AL6 (x:=q.ins)
 unfold c65
 unfold stN stC
 subst hn
 clear hadd
 rcases hWT with ⟨z,hW,hT⟩ | ⟨hW,hT⟩
 ·(refine wx_Sxhn ?_;repeat' (first|with_reducible refine And.intro ?_ ?_|intro hsp))
  all_goals first|(exfalso;omega)|exact Y5 rfl A8 rfl rfl rfl rfl rfl
 ·subst hT
  (refine wx_Sxhn ?_;repeat' (first|with_reducible refine And.intro ?_ ?_|intro hsp))
  all_goals first|(exfalso;omega)|exact Y5 rfl A8 rfl rfl rfl rfl rfl
theorem w_touchE {p:Nat} {now τ y:Int} {x:Nat→Int} (hrng:q.a+q.n≤1024) (hci:0≤q.ins∧q.ins≤1000000000) (hL:LocL q t) (hy:opA q.free=y) (hWT:(∃ z,mgI t.W (p:Nat)=some ((-1:Int),τ,z)∧0≤τ)∨(mgI t.W (p:Nat)=none∧τ = -1)) (hD:(match mgI t.D τ with|some b=>b|none=>fun _=>0)=x) {f:Nat} {e:Int} {s1:Sy} {b1:Bool} (hn:y=(f:Nat)) (hkd:j6 42 [.int .i64 (f:Nat)] q.s.a (.tup [.int .i64 1,.bool b1,.int .i64 0]) q.s.a) (hcom:j6 93 [.int .i64 (f:Nat),.int .i64 1] q.s.a (.int .i64 e) s1.a) (he:e ≠ 0):W9 65 [.int .i64 (p:Nat),.int .i64 now] q t (.int .i64 e) { q with s:=s1 } t:=by
 refine W9.mk (I8 G9 b65 rfl ?_) (fun x hx=>by
  simp only [List.mem_cons,List.not_mem_nil,or_false] at hx
  rcases hx with rfl|rfl<;>exact A8) A8
 have hov:=Z4 (x:=x)
 have hadd:=AL6 (x:=q.ins)
 unfold c65
 unfold stN stC
 subst hn
 clear hadd
 rcases hWT with ⟨z,hW,hT⟩ | ⟨hW,hT⟩
 ·(refine wx_Sxhn ?_;repeat' (first|with_reducible refine And.intro ?_ ?_|intro hsp))
  all_goals first|(exfalso;omega)|exact Y5 (q:={ q with s:=s1 }) rfl A8 rfl rfl rfl rfl rfl
 ·subst hT
  (refine wx_Sxhn ?_;repeat' (first|with_reducible refine And.intro ?_ ?_|intro hsp))
  all_goals first|(exfalso;omega)|exact Y5 (q:={ q with s:=s1 }) rfl A8 rfl rfl rfl rfl rfl
theorem w_touchC {p:Nat} {now τ y:Int} {x:Nat→Int} (hrng:q.a+q.n≤1024) (hci:0≤q.ins∧q.ins≤1000000000) (hL:LocL q t) (hy:opA q.free=y) (hWT:(∃ z,mgI t.W (p:Nat)=some ((-1:Int),τ,z)∧0≤τ)∨(mgI t.W (p:Nat)=none∧τ = -1)) (hD:(match mgI t.D τ with|some b=>b|none=>fun _=>0)=x) {f:Nat} {s1:Sy} {b1:Bool} (hn:y=(f:Nat)) (hkd:j6 42 [.int .i64 (f:Nat)] q.s.a (.tup [.int .i64 1,.bool b1,.int .i64 0]) q.s.a) (hcom:j6 93 [.int .i64 (f:Nat),.int .i64 1] q.s.a (.int .i64 0) s1.a) (hset:∀ i,W9 94 [.int .i64 (f:Nat),.agg (bcA x)] { q with s:=s1,ins:=i } ⟨mpI t.W (p:Nat) ((f:Nat),-1,now),mdI t.D τ,mpI t.H (f:Nat) (p:Nat)⟩ (.tup []) { q with s:=s1.page f x,ins:=i } ⟨mpI t.W (p:Nat) ((f:Nat),-1,now),mdI t.D τ,mpI t.H (f:Nat) (p:Nat)⟩):W9 65 [.int .i64 (p:Nat),.int .i64 now] q t (.int .i64 0) (Ah5 q s1 (if 0≤τ then AV1 q.ins else q.ins) p f now x) ⟨mpI t.W (p:Nat) ((f:Nat),-1,now),mdI t.D τ,mpI t.H (f:Nat) (p:Nat)⟩:=by
 refine W9.mk (I8 G9 b65 rfl ?_) (fun x hx=>by
  simp only [List.mem_cons,List.not_mem_nil,or_false] at hx
  rcases hx with rfl|rfl<;>exact A8) A8
 have hov:=Z4 (x:=x)
 have hadd:=AL6 (x:=q.ins)
 unfold c65
 unfold stN stC
 subst hn
 rcases hWT with ⟨z,hW,hT⟩ | ⟨hW,hT⟩
 ·rw [if_pos hT]
  (refine wx_Sxhn ?_;repeat' (first|with_reducible refine And.intro ?_ ?_|intro hsp))
  all_goals first|(exfalso;omega)|(simp only [hadd];exact Y5 (q:=Ah5 q s1 (AV1 q.ins) p f now x) (t:=⟨mpI t.W (p:Nat) ((f:Nat),-1,now),mdI t.D τ,mpI t.H (f:Nat) (p:Nat)⟩) rfl A8 rfl rfl rfl rfl rfl)|exact Y5 (q:=Ah5 q s1 (AV1 q.ins) p f now x) (t:=⟨mpI t.W (p:Nat) ((f:Nat),-1,now),mdI t.D τ,mpI t.H (f:Nat) (p:Nat)⟩) rfl A8 rfl rfl rfl rfl rfl
 ·subst hT
  rw [if_neg (by omega)]
  (refine wx_Sxhn ?_;repeat' (first|with_reducible refine And.intro ?_ ?_|intro hsp))
  all_goals first|(exfalso;omega)|(simp only [hadd];exact Y5 (q:=Ah5 q s1 q.ins p f now x) (t:=⟨mpI t.W (p:Nat) ((f:Nat),-1,now),mdI t.D (-1),mpI t.H (f:Nat) (p:Nat)⟩) rfl A8 rfl rfl rfl rfl rfl)|exact Y5 (q:=Ah5 q s1 q.ins p f now x) (t:=⟨mpI t.W (p:Nat) ((f:Nat),-1,now),mdI t.D (-1),mpI t.H (f:Nat) (p:Nat)⟩) rfl A8 rfl rfl rfl rfl rfl
theorem w_touchG {p:Nat} {now τ y:Int} {x:Nat→Int} (hrng:q.a+q.n≤1024) (hci:0≤q.ins∧q.ins≤1000000000) (hL:LocL q t) (hy:opA q.free=y) (hWT:(∃ z,mgI t.W (p:Nat)=some ((-1:Int),τ,z)∧0≤τ)∨(mgI t.W (p:Nat)=none∧τ = -1)) (hD:(match mgI t.D τ with|some b=>b|none=>fun _=>0)=x) {f:Nat} {b1:Bool} (hn:y=(f:Nat)) (hkd:j6 42 [.int .i64 (f:Nat)] q.s.a (.tup [.int .i64 2,.bool b1,.int .i64 0]) q.s.a) (hset:∀ i,W9 94 [.int .i64 (f:Nat),.agg (bcA x)] { q with ins:=i } ⟨mpI t.W (p:Nat) ((f:Nat),-1,now),mdI t.D τ,mpI t.H (f:Nat) (p:Nat)⟩ (.tup []) { q with s:=q.s.page f x,ins:=i } ⟨mpI t.W (p:Nat) ((f:Nat),-1,now),mdI t.D τ,mpI t.H (f:Nat) (p:Nat)⟩):W9 65 [.int .i64 (p:Nat),.int .i64 now] q t (.int .i64 0) (Ah5 q q.s (if 0≤τ then AV1 q.ins else q.ins) p f now x) ⟨mpI t.W (p:Nat) ((f:Nat),-1,now),mdI t.D τ,mpI t.H (f:Nat) (p:Nat)⟩:=by
 refine W9.mk (I8 G9 b65 rfl ?_) (fun x hx=>by
  simp only [List.mem_cons,List.not_mem_nil,or_false] at hx
  rcases hx with rfl|rfl<;>exact A8) A8
 have hov:=Z4 (x:=x)
 have hadd:=AL6 (x:=q.ins)
 unfold c65
 unfold stN stC
 subst hn
 rcases hWT with ⟨z,hW,hT⟩ | ⟨hW,hT⟩
 ·rw [if_pos hT]
  (refine wx_Sxhn ?_;repeat' (first|with_reducible refine And.intro ?_ ?_|intro hsp))
  all_goals first|(exfalso;omega)|(simp only [hadd];exact Y5 (q:=Ah5 q q.s (AV1 q.ins) p f now x) (t:=⟨mpI t.W (p:Nat) ((f:Nat),-1,now),mdI t.D τ,mpI t.H (f:Nat) (p:Nat)⟩) rfl A8 rfl rfl rfl rfl rfl)|exact Y5 (q:=Ah5 q q.s (AV1 q.ins) p f now x) (t:=⟨mpI t.W (p:Nat) ((f:Nat),-1,now),mdI t.D τ,mpI t.H (f:Nat) (p:Nat)⟩) rfl A8 rfl rfl rfl rfl rfl
 ·subst hT
  rw [if_neg (by omega)]
  (refine wx_Sxhn ?_;repeat' (first|with_reducible refine And.intro ?_ ?_|intro hsp))
  all_goals first|(exfalso;omega)|(simp only [hadd];exact Y5 (q:=Ah5 q q.s q.ins p f now x) (t:=⟨mpI t.W (p:Nat) ((f:Nat),-1,now),mdI t.D (-1),mpI t.H (f:Nat) (p:Nat)⟩) rfl A8 rfl rfl rfl rfl rfl)|exact Y5 (q:=Ah5 q q.s q.ins p f now x) (t:=⟨mpI t.W (p:Nat) ((f:Nat),-1,now),mdI t.D (-1),mpI t.H (f:Nat) (p:Nat)⟩) rfl A8 rfl rfl rfl rfl rfl
theorem w_touchS {p:Nat} {now τ y:Int} {x:Nat→Int} (hrng:q.a+q.n≤1024) (hci:0≤q.ins∧q.ins≤1000000000) (hL:LocL q t) (hy:opA q.free=y) (hWT:(∃ z,mgI t.W (p:Nat)=some ((-1:Int),τ,z)∧0≤τ)∨(mgI t.W (p:Nat)=none∧τ = -1)) (hD:(match mgI t.D τ with|some b=>b|none=>fun _=>0)=x) {f v k:Nat} {tv zv:Int} {q1:Sw} (hci:0≤q1.ins∧q1.ins≤1000000000) (hn:y = -1) (hS:W9 68 [.int .i64 τ] q t (.int .i64 (k:Nat)) q t) (hV:W9 87 [] q ⟨t.W,mdI t.D τ,t.H⟩ (.int .i64 (v:Nat)) q ⟨t.W,mdI t.D τ,t.H⟩) (hO:W9 69 [.int .i64 (v:Nat),.int .i64 (k:Nat)] q ⟨t.W,mdI t.D τ,t.H⟩ (.tup []) q1 ⟨mpI t.W (v:Nat) (-1,(k:Nat),zv),mpI (mdI t.D τ) (k:Nat) (q.s.B f),mdI t.H (f:Nat)⟩) (hWv:mgI t.W (v:Nat)=some (((f:Nat):Int),tv,zv))
  (hset:∀ i,W9 94 [.int .i64 (f:Nat),.agg (bcA x)] { q1 with ins:=i } ⟨mpI (mpI t.W (v:Nat) (-1,(k:Nat),zv)) (p:Nat) ((f:Nat),-1,now),mpI (mdI t.D τ) (k:Nat) (q.s.B f),mpI (mdI t.H (f:Nat)) (f:Nat) (p:Nat)⟩ (.tup []) { q1 with s:=q1.s.page f x,ins:=i } ⟨mpI (mpI t.W (v:Nat) (-1,(k:Nat),zv)) (p:Nat) ((f:Nat),-1,now),mpI (mdI t.D τ) (k:Nat) (q.s.B f),mpI (mdI t.H (f:Nat)) (f:Nat) (p:Nat)⟩):W9 65 [.int .i64 (p:Nat),.int .i64 now] q t (.int .i64 0) (Ah5 q1 q1.s (if 0≤τ then AV1 q1.ins else q1.ins) p f now x) ⟨mpI (mpI t.W (v:Nat) (-1,(k:Nat),zv)) (p:Nat) ((f:Nat),-1,now),mpI (mdI t.D τ) (k:Nat) (q.s.B f),mpI (mdI t.H (f:Nat)) (f:Nat) (p:Nat)⟩:=by
 refine W9.mk (I8 G9 b65 rfl ?_) (fun x hx=>by
  simp only [List.mem_cons,List.not_mem_nil,or_false] at hx
  rcases hx with rfl|rfl<;>exact A8) A8
 have hov:=Z4 (x:=x)
 have hadd:=AL6 (x:=q1.ins)
 unfold c65
 unfold stN stC
 subst hn
 rcases hWT with ⟨z,hW,hT⟩ | ⟨hW,hT⟩
 ·rw [if_pos hT]
  (refine wx_Sxhn ?_;repeat' (first|with_reducible refine And.intro ?_ ?_|intro hsp))
  all_goals first|(exfalso;omega)|(simp only [hadd];exact Y5 (q:=Ah5 q1 q1.s (AV1 q1.ins) p f now x) (t:=⟨mpI (mpI t.W (v:Nat) (-1,(k:Nat),zv)) (p:Nat) ((f:Nat),-1,now),mpI (mdI t.D τ) (k:Nat) (q.s.B f),mpI (mdI t.H (f:Nat)) (f:Nat) (p:Nat)⟩) rfl A8 rfl rfl rfl rfl rfl)|exact Y5 (q:=Ah5 q1 q1.s (AV1 q1.ins) p f now x) (t:=⟨mpI (mpI t.W (v:Nat) (-1,(k:Nat),zv)) (p:Nat) ((f:Nat),-1,now),mpI (mdI t.D τ) (k:Nat) (q.s.B f),mpI (mdI t.H (f:Nat)) (f:Nat) (p:Nat)⟩) rfl A8 rfl rfl rfl rfl rfl
 ·subst hT
  rw [if_neg (by omega)]
  (refine wx_Sxhn ?_;repeat' (first|with_reducible refine And.intro ?_ ?_|intro hsp))
  all_goals first|(exfalso;omega)|(simp only [hadd];exact Y5 (q:=Ah5 q1 q1.s q1.ins p f now x) (t:=⟨mpI (mpI t.W (v:Nat) (-1,(k:Nat),zv)) (p:Nat) ((f:Nat),-1,now),mpI (mdI t.D (-1)) (k:Nat) (q.s.B f),mpI (mdI t.H (f:Nat)) (f:Nat) (p:Nat)⟩) rfl A8 rfl rfl rfl rfl rfl)|exact Y5 (q:=Ah5 q1 q1.s q1.ins p f now x) (t:=⟨mpI (mpI t.W (v:Nat) (-1,(k:Nat),zv)) (p:Nat) ((f:Nat),-1,now),mpI (mdI t.D (-1)) (k:Nat) (q.s.B f),mpI (mdI t.H (f:Nat)) (f:Nat) (p:Nat)⟩) rfl A8 rfl rfl rfl rfl rfl
end
end Go.Proofs.YtbhgfoikbkaohaaGreat.Sh
namespace Go.Pol
open Go.Am Go.Proofs.YtbhgfoikbkaohaaGreat.Sh
section
variable {q:Sw}
theorem AY3 (hg:F5 q) (hf:q.free=none):∃ v,q.vic=some v:=by
 cases hv:q.vic with
 | some v=>exact ⟨v,rfl⟩
 | none =>
  exfalso
  have hr:=hg.rng
  obtain ⟨p,hp,hF⟩:=freeW_none hf q.a (Nat.le_refl _) (by omega)
  have:=(AN7 (w:=q) q.pg).2 hv p hp
  omega
theorem vic_at (hg:F5 q) {v:Nat} (hv:q.vic=some v):v < q.pg∧0≤q.F v:=⟨((AN7 (w:=q) q.pg).1 v hv).1,((AN7 (w:=q) q.pg).1 v hv).2.1⟩
theorem R3 {x:AV} (h:Plain x):∀ y ∈ [x],Plain y:=fun y hy=>by obtain rfl:=List.mem_singleton.1 hy;exact h
theorem Q9 {x x2:AV} (h:Plain x) (h2:Plain x2):∀ y ∈ [x,x2],Plain y:=fun y hy=>by
 simp only [List.mem_cons,List.not_mem_nil,or_false] at hy
 rcases hy with rfl|rfl
 ·exact h
 ·exact h2
theorem plain_three {x x2 x3:AV} (h:Plain x) (h2:Plain x2) (h3:Plain x3):∀ y ∈ [x,x2,x3],Plain y:=fun y hy=>by
 simp only [List.mem_cons,List.not_mem_nil,or_false] at hy
 rcases hy with rfl|rfl|rfl
 ·exact h
 ·exact h2
 ·exact h3
theorem emod64 {a:Nat}:((a:Nat):Int) % 64=((a % 64:Nat):Int):=by omega
end
end Go.Pol
namespace Go.Proofs.YtbhgfoikbkaohaaGreat.Sh
open Go Go.Am Go.Pol
theorem wx_Sxi {p q:Prop} (hq:q) (h:Y3 q→p:=by (intro hQz;((repeat' ((try (conv=>whnf));first|refine sxA ?_|refine AE7 hq64 ?_|refine AE7 hm64 ?_|refine AH5 hW rfl ?_|refine AC5 hW rfl ?_|refine AC4 hW' rfl ?_|refine sxF ?_|refine Ab0 w_is rfl rfl rfl rfl rfl (by decide) rfl ?_|refine Ab0 hN rfl rfl rfl rfl rfl (by decide) rfl ?_|refine Ab0 hT rfl rfl rfl rfl rfl (by decide) rfl ?_|refine K3 hR rfl (by decide) ?_|refine sxH ?_|((with_reducible first|apply U1 hQz|apply U2 hQz)<;>(try intro hsp hQz))|exact hQz.out))<;>(try (conv=>whnf))))):p:=h ⟨hq⟩
section
variable {q:Sw} {t:WS}
theorem Ai3 {f:Nat} {avs:List AV} {q q1 q2:Sw} {t t1:WS} {r:AV} (h:W9 f avs q t r q1 t1) (e:stN q2 t1 0 1 2 3 4=stN q1 t1 0 1 2 3 4):W9 f avs q t r q2 t1:=⟨by rw [e];exact h.out,h.pa,h.pr⟩
theorem w_touch (hg:F5 q) (h:WOk q t) {p:Nat} {now:Int} (hp:p < q.pg):∃ t',W9 65 [.int .i64 (p:Nat),.int .i64 now] q t (.int .i64 (q.touch p now).1) (q.touch p now).2 t'∧WOk (q.touch p now).2 t':=by
 have hrng:=hg.rng
 have hcnt:=hg.cnt
 by_cases hF:0≤q.F p
 ·have e:q.touch p now=(0,{ q with Z:=F4 q.Z p now }):=by unfold Sw.touch;rw [if_pos hF]
  rw [e]
  exact ⟨_,w_touchA hg h hF,wok_stamp hg h hF now⟩
 ·have hWT:=look_out hg h hF
  have hD:=look_D hg h p
  have hL:=w_free hg h
  cases hfr:q.free with
  | some f =>
   obtain ⟨f1,f2,f3⟩:=AE6 hfr
   have hy:opA q.free=((f:Nat):Int):=by rw [hfr];rfl
   rcases (hg.kind f f1 f2).1 with hk|hk
   ·have hkd:=BS5 (s:=q.s) (a:=(f:Nat))
    rw [AA9 (by omega) hk] at hkd
    have hcom:=p_commit (s:=q.s) (a:=(f:Nat)) (n:=1) hg.good
    obtain ⟨e,s1,hc⟩:∃ e s1,q.s.chg (f:Nat) 1 1 2 2=(e,s1):=⟨_,_,rfl⟩
    have hcw:=comW hg ⟨f1,f2⟩ hk hc
    rw [hc] at hcom
    dsimp only at hcom
    by_cases he:e=0
    ·subst he
     have et:q.touch p now=(0,Sw.brg { q with s:=s1 } p f now (q.got p)):=by unfold Sw.touch;rw [if_neg hF,hfr];dsimp only;rw [if_pos hk,hc,if_pos rfl]
     rw [et]
     refine ⟨_,?_,wok_brg hcw.1 (Aj8 h s1) hp hF f3 now (q.got p)⟩
     dsimp only
     rw [brg_R]
     exact w_touchC (by omega) ⟨hcnt.1,hcnt.2.1⟩ hL hy hWT hD rfl hkd hcom fun i=>w_set (q:={ q with s:=s1,ins:=i }) hcw.1.good (by omega) (hcw.2.1 rfl) (q.got p)
    ·have et:q.touch p now=(e,{ q with s:=s1 }):=by unfold Sw.touch;rw [if_neg hF,hfr];dsimp only;rw [if_pos hk,hc,if_neg he]
     rw [et]
     exact ⟨_,w_touchE (by omega) ⟨hcnt.1,hcnt.2.1⟩ hL hy hWT hD rfl hkd hcom he,Aj8 h s1⟩
   ·have hkd:=BS5 (s:=q.s) (a:=(f:Nat))
    rw [AA9 (by omega) hk] at hkd
    have et:q.touch p now=(0,q.brg p f now (q.got p)):=by unfold Sw.touch;rw [if_neg hF,hfr];dsimp only;rw [if_neg (by omega)]
    rw [et]
    refine ⟨_,?_,wok_brg hg h hp hF f3 now (q.got p)⟩
    dsimp only
    rw [brg_R0]
    exact w_touchG (by omega) ⟨hcnt.1,hcnt.2.1⟩ hL hy hWT hD rfl hkd fun i=>w_set (q:={ q with ins:=i }) hg.good (by omega) hk (q.got p)
  | none =>
   have hy:opA q.free = -1:=by rw [hfr];rfl
   have hS:=w_slot h hrng.2.2.2.2 (q.T p)
   cases hsl:q.slot (q.T p) with
   | none =>
    rw [hsl] at hS
    have et:q.touch p now=(5,q):=by unfold Sw.touch;rw [if_neg hF,hfr];dsimp only;rw [hsl]
    rw [et]
    exact ⟨_,w_touchF (by omega) ⟨hcnt.1,hcnt.2.1⟩ hL hy hWT hD rfl hS,h⟩
   | some k =>
    rw [hsl] at hS
    obtain ⟨v,hv⟩:=AY3 hg hfr
    obtain ⟨v1,v2⟩:=vic_at hg hv
    obtain ⟨f,f0,f1,f2,f3⟩:=AA3 hg v2
    have hV:=w_victim (t:=⟨t.W,mdI t.D (q.T p),t.H⟩) hg h.ww
    rw [hv] at hV
    have hvp:v ≠ p:=fun e=>hF (by rw [← e];exact v2)
    have hWv:=Aa4 h.ww (p:=v) (.inl v2)
    rw [f0] at hWv
    have et:q.touch p now=(0,(q.put v k).brg p f now (q.got p)):=by unfold Sw.touch;rw [if_neg hF,hfr];dsimp only;rw [hsl,hv];dsimp only;rw [f0];rfl
    rw [et]
    have hw:=BI6 hg h hp hF f0 (AE0 hsl).2 now (q.got p)
    rw [f0,Int.toNat_natCast] at hw
    refine ⟨_,?_,hw⟩
    dsimp only
    rw [put_R hvp]
    have hO:=w_outM (t:=⟨t.W,mdI t.D (q.T p),t.H⟩) (k:=(k:Nat)) hWv (by omega) f3 hcnt.2.2
    have hO2:=Ai3 (q2:=q.put v k) hO rfl
    exact w_touchS (q1:=q.put v k) (by omega) ⟨hcnt.1,hcnt.2.1⟩ hL hy hWT hD ⟨hcnt.1,hcnt.2.1⟩ rfl hS hV hO2 hWv fun i=>w_set (q:={ q.put v k with ins:=i }) hg.good (by omega) f3 (q.got p)
section
variable {a f:Nat} {at_ now e e2 v:Int} {q':Sw} {t':WS} {x x' y z:Int}
theorem w_ReadN (hN:W9 64 [.int .i64 at_,.int .i64 now] q t (.bool false) q t):W9 23 [.int .i64 at_,.int .i64 now] q t (.tup [.int .u8 0,.int .i64 7]) q t:=by
 refine W9.mk (I8 G9 b23 rfl ?_) (Q9 A8 A8) (F6 (Q9 A8 A8))
 unfold c23
 unfold stN stC
 (refine wx_Sxi ?_;repeat' (first|with_reducible refine And.intro ?_ ?_|intro hsp))
 all_goals first|(exfalso;omega)|exact Y5 rfl (F6 (Q9 A8 A8)) rfl rfl rfl rfl rfl
theorem w_ReadZ (hN:W9 64 [.int .i64 (a:Nat),.int .i64 now] q t (.bool true) q t) (ha:a < 100000) (hW:mgI t.W ((a / 64:Nat):Int)=none):W9 23 [.int .i64 (a:Nat),.int .i64 now] q t (.tup [.int .u8 0,.int .i64 0]) q t:=by
 refine W9.mk (I8 G9 b23 rfl ?_) (Q9 A8 A8) (F6 (Q9 A8 A8))
 have hq64:=q64 ha
 have hm64:=m64 (t:=a)
 unfold c23
 unfold stN stC
 (refine wx_Sxi ?_;repeat' (first|with_reducible refine And.intro ?_ ?_|intro hsp))
 all_goals first|(exfalso;omega)|exact Y5 rfl (F6 (Q9 A8 A8)) rfl rfl rfl rfl rfl
theorem w_ReadE (hN:W9 64 [.int .i64 (a:Nat),.int .i64 now] q t (.bool true) q t) (ha:a < 100000) (hW:mgI t.W ((a / 64:Nat):Int)=some (x,y,z)) (hT:W9 65 [.int .i64 ((a / 64:Nat):Int),.int .i64 now] q t (.int .i64 e) q' t') (he:e ≠ 0):W9 23 [.int .i64 (a:Nat),.int .i64 now] q t (.tup [.int .u8 0,.int .i64 e]) q' t':=by
 refine W9.mk (I8 G9 b23 rfl ?_) (Q9 A8 A8) (F6 (Q9 A8 A8))
 have hq64:=q64 ha
 have hm64:=m64 (t:=a)
 unfold c23
 unfold stN stC
 (refine wx_Sxi ?_;repeat' (first|with_reducible refine And.intro ?_ ?_|intro hsp))
 all_goals first|(exfalso;omega)|exact Y5 (q:=q') rfl (F6 (Q9 A8 A8)) rfl rfl rfl rfl rfl
theorem w_ReadY {x2:Int} (hN:W9 64 [.int .i64 (a:Nat),.int .i64 now] q t (.bool true) q t) (ha:a < 100000) (hf:f < 1024) (hW:mgI t.W ((a / 64:Nat):Int)=some (x,y,z)) (hT:W9 65 [.int .i64 ((a / 64:Nat):Int),.int .i64 now] q t (.int .i64 0) q' t') (hW':mgI t'.W ((a / 64:Nat):Int)=some (((f:Nat):Int),x2,x'))
  (hR:j6 67 [.int .i64 (((f:Nat):Int) * 64+((a % 64:Nat):Int))] q'.s.a (.tup [.int .u8 v,.int .i64 e2]) q'.s.a):W9 23 [.int .i64 (a:Nat),.int .i64 now] q t (.tup [.int .u8 v,.int .i64 e2]) q' t':=by
 refine W9.mk (I8 G9 b23 rfl ?_) (Q9 A8 A8) (F6 (Q9 A8 A8))
 have hq64:=q64 ha
 have hm64:=m64 (t:=a)
 have hml:a % 64 < 64:=Nat.mod_lt _ (by decide)
 unfold c23
 unfold stN stC
 (refine wx_Sxi ?_;repeat' (first|with_reducible refine And.intro ?_ ?_|intro hsp))
 all_goals first|(exfalso;omega)|exact Y5 (q:=q') rfl (F6 (Q9 A8 A8)) rfl rfl rfl rfl rfl
theorem w_WriteN (hN:W9 64 [.int .i64 at_,.int .i64 now] q t (.bool false) q t):W9 22 [.int .i64 at_,.int .i64 now,.int .u8 v] q t (.int .i64 7) q t:=by
 refine W9.mk (I8 G9 b22 rfl ?_) (plain_three A8 A8 A8) A8
 unfold c22
 unfold stN stC
 (refine wx_Sxi ?_;repeat' (first|with_reducible refine And.intro ?_ ?_|intro hsp))
 all_goals first|(exfalso;omega)|exact Y5 rfl A8 rfl rfl rfl rfl rfl
theorem w_WriteE (hN:W9 64 [.int .i64 (a:Nat),.int .i64 now] q t (.bool true) q t) (ha:a < 100000) (hT:W9 65 [.int .i64 ((a / 64:Nat):Int),.int .i64 now] q t (.int .i64 e) q' t') (he:e ≠ 0):W9 22 [.int .i64 (a:Nat),.int .i64 now,.int .u8 v] q t (.int .i64 e) q' t':=by
 refine W9.mk (I8 G9 b22 rfl ?_) (plain_three A8 A8 A8) A8
 have hq64:=q64 ha
 have hm64:=m64 (t:=a)
 unfold c22
 unfold stN stC
 (refine wx_Sxi ?_;repeat' (first|with_reducible refine And.intro ?_ ?_|intro hsp))
 all_goals first|(exfalso;omega)|exact Y5 (q:=q') rfl A8 rfl rfl rfl rfl rfl
theorem w_WriteY {s2:Sy} (hN:W9 64 [.int .i64 (a:Nat),.int .i64 now] q t (.bool true) q t) (ha:a < 100000) (hf:f < 1024) (hT:W9 65 [.int .i64 ((a / 64:Nat):Int),.int .i64 now] q t (.int .i64 0) q' t') (hW':mgI t'.W ((a / 64:Nat):Int)=some (((f:Nat):Int),x,x'))
  (hR:j6 66 [.int .i64 (((f:Nat):Int) * 64+((a % 64:Nat):Int)),.int .u8 v] q'.s.a (.int .i64 e2) s2.a):W9 22 [.int .i64 (a:Nat),.int .i64 now,.int .u8 v] q t (.int .i64 e2) { q' with s:=s2 } t':=by
 refine W9.mk (I8 G9 b22 rfl ?_) (plain_three A8 A8 A8) A8
 have hq64:=q64 ha
 have hm64:=m64 (t:=a)
 have hml:a % 64 < 64:=Nat.mod_lt _ (by decide)
 unfold c22
 unfold stN stC
 (refine wx_Sxi ?_;repeat' (first|with_reducible refine And.intro ?_ ?_|intro hsp))
 all_goals first|(exfalso;omega)|exact Y5 (q:={ q' with s:=s2 }) rfl A8 rfl rfl rfl rfl rfl
end
end
end Go.Proofs.YtbhgfoikbkaohaaGreat.Sh
