/-
 Spaces that share nothing,plain (TopCopies).
 A book and spaces that share nothing,plain (TopCopies).
 A book of spaces,plain: a new one.
 A book of spaces,plain: filling a page,counting frames,the example.
-/
import Derived.Test.YtphggldkligldaaGreatSnD
set_option linter.unusedSimpArgs false
set_option linter.unusedVariables false
namespace Go.Pol
open Go.Am Go.Proofs.YtphggldkligldaaGreat.Sh
structure SpR (R:Nat→Nat→Option Int) (s:Sy):Prop where
 good:GoodS s
 l:s.l=[]
 M:∀ p,s.M p=false
 K:∀ p,8≤p→s.K p=0
 at_:∀ p,p < 8→(s.K p=1∧∀ j,j < 64→R p j=none)∨(s.K p=2∧∀ j,j < 64→R p j=some (s.B p j))
def Sy.com (s:Sy) (p:Nat):Sy:=(s.chg (p:Nat) 1 1 2 2).2
def Sy.dec (s:Sy) (p:Nat):Sy:=(s.chg (p:Nat) 1 2 1 3).2
theorem SpR.congr {R R':Nat→Nat→Option Int} {s:Sy} (h:SpR R s) (e:∀ p j,p < 8→j < 64→R' p j=R p j):SpR R' s:=⟨h.good,h.l,h.M,h.K,fun p hp=>(h.at_ p hp).imp (fun h2=>⟨h2.1,fun j hj=>(e p j hp hj).trans (h2.2 j hj)⟩) fun h2=>⟨h2.1,fun j hj=>(e p j hp hj).trans (h2.2 j hj)⟩⟩
theorem chg_no {s:Sy} {f:Nat} {v w:Int} {k:Nat} (hf:f < 1024) (hk:s.K f ≠ v):(s.chg (f:Nat) 1 v w k).2=s:=by
 unfold Sy.chg
 have hok:¬ okR s.K s.M ((f:Nat):Int).toNat (1:Int).toNat v:=fun hc=>hk (by
  have:=(hc 0 (show 0 < 1 by decide)).1
  rwa [show ((f:Nat):Int).toNat+0=f by omega] at this)
 split
 ·rfl
 ·first|rfl|rw [if_neg hok]
section
variable {R:Nat→Nat→Option Int} {s:Sy}
theorem sp_turn (h:SpR R s) {p k:Nat} {w:Int} {R':Nat→Nat→Option Int} (hp:p < 8) (hw:w=1∨w=2) (hM:s.M p=false) (hR:∀ j,j < 64→R' p j=if w=2 then some 0 else none) (ho:∀ q j,q ≠ p→R' q j=R q j):SpR R' (s.turn p w k):=by
 refine ⟨good_turn h.good (by omega) (by omega) rfl hM,h.l,h.M,fun q hq=>?_,fun q hq=>?_⟩
 ·rw [turn_K,if_neg (by omega)];exact h.K q hq
 ·rw [turn_K,turn_B]
  by_cases e:q=p
  ·subst e
   rw [if_pos rfl,if_pos rfl]
   rcases hw with rfl|rfl
   ·exact .inl ⟨rfl,fun j hj=>by rw [hR j hj];rfl⟩
   ·exact .inr ⟨rfl,fun j hj=>by rw [hR j hj];rfl⟩
  ·rw [if_neg e,if_neg e]
   exact (h.at_ q hq).imp (fun h2=>⟨h2.1,fun j hj=>(ho q j e).trans (h2.2 j hj)⟩) fun h2=>⟨h2.1,fun j hj=>(ho q j e).trans (h2.2 j hj)⟩
theorem sp_com (h:SpR R s) {p:Nat} (hp:p < 8) (hn:R p 0=none):s.com p=s.turn p 2 2∧SpR (fun q j=>if q=p then some 0 else R q j) (s.com p):=by
 have hk:s.K p=1:=by
  rcases h.at_ p hp with h2|h2
  ·exact h2.1
  ·have:=h2.2 0 (by decide);rw [hn] at this;cases this
 have e:s.com p=s.turn p 2 2:=by
  unfold Sy.com
  rw [chg_one (by omega) hk (h.M p),h.l,isR_nilE];rfl
 refine ⟨e,?_⟩
 rw [e]
 exact sp_turn h hp (.inr rfl) (h.M p) (fun j _=>by rw [if_pos rfl];rfl) fun q j hq=>if_neg hq
theorem sp_dec (h:SpR R s) {p:Nat} (hp:p < 8):SpR (fun q j=>if q=p then none else R q j) (s.dec p):=by
 rcases h.at_ p hp with h2|h2
 ·have e:s.dec p=s:=chg_no (by omega) (by rw [h2.1];decide)
  rw [e]
  refine h.congr fun q j _ hj=>?_
  by_cases e:q=p
  ·subst e;rw [if_pos rfl,h2.2 j hj]
  ·rw [if_neg e]
 ·have e:s.dec p=s.turn p 1 3:=by
   unfold Sy.dec
   rw [chg_one (by omega) h2.1 (h.M p),h.l,isR_nilE];rfl
  rw [e]
  exact sp_turn h hp (.inl rfl) (h.M p) (fun j _=>by rw [if_pos rfl];rfl) fun q j hq=>if_neg hq
def Sy.clr (s:Sy):Nat→Sy
 | 0=>s
 | n+1=>(s.clr n).dec n
theorem sp_clr (h:SpR R s):∀ n,n≤8→SpR (fun q j=>if q < n then none else R q j) (s.clr n)
 | 0,_=>h.congr fun q j _ _=>by rw [if_neg (by omega)]
 | n+1,hn=>(sp_dec (sp_clr h n (by omega)) (show n < 8 by omega)).congr fun q j _ _=>by
  by_cases e:q=n
  ·rw [if_pos e,if_pos (by omega)]
  ·rw [if_neg e]
   by_cases e2:q < n
   ·rw [if_pos e2,if_pos (by omega)]
   ·rw [if_neg e2,if_neg (by omega)]
theorem sp_write (h:SpR R s) {p i:Nat} {v:Int} (hp:p < 8) (hi:i < 64) (hn:R p 0 ≠ none):SpR (fun q j=>if q=p∧j=i then some v else R q j) (s.write ((p * 64+i:Nat):Int) v).2:=by
 rcases h.at_ p hp with h2|h2
 ·exact absurd (h2.2 0 (by decide)) hn
 have e:(s.write ((p * 64+i:Nat):Int) v).2={ s with B:=updP s.B p (updI (s.B p) i v) }:=by
  unfold Sy.write
  rw [if_neg (by omega),show ((p * 64+i:Nat):Int).toNat / 64=p by omega,if_pos h2.1,show ((p * 64+i:Nat):Int).toNat % 64=i by omega]
 have hg:=good_write (a:=((p * 64+i:Nat):Int)) (b:=v) h.good
 rw [e] at hg ⊢
 refine ⟨hg,h.l,h.M,h.K,fun q hq=>?_⟩
 by_cases e3:q=p
 ·subst e3
  refine .inr ⟨h2.1,fun j hj=>?_⟩
  show _=some (updP s.B q (updI (s.B q) i v) q j)
  have e4:updP s.B q (updI (s.B q) i v) q j=if j=i then v else s.B q j:=by unfold updP;rw [if_pos rfl];rfl
  rw [e4]
  by_cases e5:j=i
  ·rw [if_pos ⟨rfl,e5⟩,if_pos e5]
  ·rw [if_neg fun hc=>e5 hc.2,if_neg e5];exact h2.2 j hj
 ·have e4:updP s.B p (updI (s.B p) i v) q=s.B q:=by unfold updP;rw [if_neg e3]
  show (s.K q=1∧_)∨(s.K q=2∧∀ j,j < 64→_=some (updP s.B p (updI (s.B p) i v) q j))
  rw [e4]
  exact (h.at_ q hq).imp (fun h3=>⟨h3.1,fun j hj=>by rw [if_neg fun hc=>e3 hc.1];exact h3.2 j hj⟩) fun h3=>⟨h3.1,fun j hj=>by rw [if_neg fun hc=>e3 hc.1];exact h3.2 j hj⟩
def cpyK (s1 s2:Sy) (k:Nat):Sy:=if s1.K k=2 then (s2.com k).page k (s1.B k) else s2
def cpyN (s1 s2:Sy):Nat→Sy
 | 0=>s2.clr 8
 | n+1=>cpyK s1 (cpyN s1 s2 n) n
theorem sp_page (h:SpR R s) {p:Nat} {x:Nat→Int} (hp:p < 8) (hn:R p 0 ≠ none):SpR (fun q j=>if q=p then some (x j) else R q j) (s.page p x):=by
 rcases h.at_ p hp with h2|h2
 ·exact absurd (h2.2 0 (by decide)) hn
 refine ⟨good_page h.good h2.1,h.l,h.M,h.K,fun q hq=>?_⟩
 have hB:(s.page p x).B q=if q=p then (fun j=>if j < 64 then x j else 0) else s.B q:=rfl
 rw [hB]
 show (s.K q=1∧_)∨(s.K q=2∧_)
 by_cases e3:q=p
 ·subst e3
  refine .inr ⟨h2.1,fun j hj=>?_⟩
  rw [if_pos rfl,if_pos rfl,if_pos hj]
 ·rw [if_neg e3]
  exact (h.at_ q hq).imp (fun h3=>⟨h3.1,fun j hj=>by rw [if_neg e3];exact h3.2 j hj⟩) fun h3=>⟨h3.1,fun j hj=>by rw [if_neg e3];exact h3.2 j hj⟩
theorem sp_cpy {R1:Nat→Nat→Option Int} {s1:Sy} (h1:SpR R1 s1) (h:SpR R s):∀ n,n≤8→SpR (fun q j=>if q < n then R1 q j else none) (cpyN s1 s n)
 | 0,_=>(sp_clr h 8 (Nat.le_refl _)).congr fun q j hq _=>by rw [if_neg (by omega),if_pos hq]
 | n+1,hn=>by
  have ih:=sp_cpy h1 h n (by omega)
  show SpR _ (cpyK s1 (cpyN s1 s n) n)
  unfold cpyK
  rcases h1.at_ n (by omega) with h2|h2
  ·rw [if_neg (by rw [h2.1];decide)]
   refine ih.congr fun q j _ hj=>?_
   by_cases e:q=n
   ·subst e;rw [if_pos (by omega),if_neg (by omega)];exact h2.2 j hj
   ·by_cases e2:q < n
    ·rw [if_pos e2,if_pos (by omega)]
    ·rw [if_neg e2,if_neg (by omega)]
  ·rw [if_pos h2.1]
   obtain ⟨_,hc⟩:=sp_com ih (p:=n) (by omega) (by rw [if_neg (by omega)])
   refine (sp_page hc (p:=n) (x:=s1.B n) (by omega) (by rw [if_pos rfl];simp)).congr fun q j _ hj=>?_
   by_cases e:q=n
   ·subst e;rw [if_pos rfl,if_pos (by omega)];exact h2.2 j hj
   ·rw [if_neg e,if_neg e]
    by_cases e2:q < n
    ·rw [if_pos e2,if_pos (by omega)]
    ·rw [if_neg e2,if_neg (by omega)]
end
end Go.Pol
namespace Go.Pol
open Go.Am Go.Proofs.YtphggldkligldaaGreat.Sh
structure TcR (b:Bk) (A:Nat→Sy):Prop where
 lt:∀ v ∈ b.L,v.1 < 4∧v.2.1 < 8
 sp:∀ a,a < 4→SpR (b.rd a) (A a)
def updA (A:Nat→Sy) (i:Nat) (s:Sy):Nat→Sy:=fun k=>if k=i then s else A k
section
variable {b:Bk} {A:Nat→Sy}
theorem tc_upd {b':Bk} {i:Nat} {s:Sy} (h:TcR b A) (hl:∀ v ∈ b'.L,v.1 < 4∧v.2.1 < 8) (hs:SpR (b'.rd i) s) (ho:∀ a,a < 4→a ≠ i→∀ p j,p < 8→j < 64→b'.rd a p j=b.rd a p j):TcR b' (updA A i s):=by
 refine ⟨hl,fun a ha=>?_⟩
 unfold updA
 by_cases e:a=i
 ·subst e;rw [if_pos rfl];exact hs
 ·rw [if_neg e];exact (h.sp a ha).congr fun p j hp hj=>ho a ha e p j hp hj
theorem tc_no (hg:GoodB b) (ho:OwnB b) (h:TcR b A) (w:Nat) (x y t v:Int) (l:List Rl) (he:(b.call w x y t v l).1 ≠ 0):TcR (b.call w x y t v l).2 A:=by
 obtain ⟨hL,hB⟩:=call_no hg ho w x y t v l he
 exact ⟨by rw [hL];exact h.lt,fun a ha=>(h.sp a ha).congr fun p j _ _=>rd_same hL (fun v hv=>hB _ (cnt_posE.2 ⟨v,hv,rfl⟩)) a p j⟩
theorem tc_map (hg:GoodB b) (h:TcR b A) {x k:Nat} (hx:x < 4) (hk:k < 8) (he:(b.map (x:Nat) (k:Nat)).1=0):TcR (b.map (x:Nat) (k:Nat)).2 (updA A x ((A x).com k)):=by
 have hm:=fun a c j hj=>map_rd hg (x:Nat) (k:Nat) he a c j hj
 have hn:fndL b.L x k=none:=(hm 0 0 0 (by decide)).2.2.1
 refine tc_upd h ?_ ((sp_com (h.sp x hx) hk (rd_none.2 hn)).2.congr fun p j hp hj=>?_) fun a ha hne p j hp hj=>?_
 ·unfold Bk.map at he ⊢
  split at he
  ·exact absurd he (by decide:¬ (7:Int)=0)
  rename_i c1;rw [if_neg c1]
  split at he
  ·exact absurd he (by decide:¬ (8:Int)=0)
  rename_i c2;rw [if_neg c2]
  split at he
  ·exact absurd he (by decide:¬ (5:Int)=0)
  rename_i c3;rw [if_neg c3]
  split at he
  ·rename_i c4;rw [if_pos c4]
   intro v hv
   dsimp only at hv
   rcases mem_ins.1 hv with rfl|hv
   ·exact ⟨hx,hk⟩
   ·exact h.lt v hv
  ·rename_i c4;exact absurd he c4
 ·rw [(hm x p j hj).2.2.2]
  by_cases e:p=k
  ·rw [if_pos e,if_pos ⟨rfl,e.symm⟩]
  ·rw [if_neg e,if_neg fun hc=>e hc.2.symm]
 ·rw [(hm a p j hj).2.2.2,if_neg fun hc=>hne hc.1.symm]
theorem tc_unmap (hg:GoodB b) (h:TcR b A) {x k:Nat} (hx:x < 4) (hk:k < 8) (he:(b.unmap (x:Nat) (k:Nat)).1=0):TcR (b.unmap (x:Nat) (k:Nat)).2 (updA A x ((A x).dec k)):=by
 have hm:=fun a c j=>unmap_rd hg (x:Nat) (k:Nat) he a c j
 refine tc_upd h ?_ ((sp_dec (h.sp x hx) hk).congr fun p j hp hj=>?_) fun a ha hne p j hp hj=>?_
 ·unfold Bk.unmap
  split
  ·exact h.lt
  ·split
   ·exact h.lt
   ·intro v hv
    exact h.lt v (mem_del.1 hv).1
 ·rw [(hm x p j).2.2.2]
  by_cases e:p=k
  ·rw [if_pos e,if_pos ⟨rfl,e.symm⟩]
  ·rw [if_neg e,if_neg fun hc=>e hc.2.symm]
 ·rw [(hm a p j).2.2.2,if_neg fun hc=>hne hc.1.symm]
theorem frk_lt {x y:Nat} {L:List Vw} (hL:∀ v ∈ L,v.1 < 4∧v.2.1 < 8) (hy:y < 4):∀ v ∈ frkL x y L,v.1 < 4∧v.2.1 < 8:=fun v hv=>by
 rcases frk_mem.1 hv with ⟨u,hu,rfl⟩ | ⟨u,hu,_,rfl⟩
 ·exact hL u hu
 ·exact ⟨hy,(hL u hu).2⟩
theorem tc_take (hg:GoodB b) (h:TcR b A) {x y:Nat} (hx:x < 4) (hy:y < 4) (he:(b.take (x:Nat) (y:Nat)).2.1=0):TcR (b.take (x:Nat) (y:Nat)).2.2 (updA A y (cpyN (A x) (A y) 8)):=by
 have r4:∀ a c j,(b.take (x:Nat) (y:Nat)).2.2.rd a c j=if a=y then b.rd x c j else b.rd a c j:=(take_rd hg (x:Nat) (y:Nat) he).2.2.2
 refine tc_upd h ?_ ((sp_cpy (h.sp x hx) (h.sp y hy) 8 (Nat.le_refl _)).congr fun p j hp hj=>?_) fun a ha hne p j hp hj=>?_
 ·unfold Bk.take
  split
  ·exact h.lt
  split
  ·exact h.lt
  split
  ·exact h.lt
  split
  ·exact h.lt
  exact frk_lt h.lt hy
 ·rw [r4,if_pos rfl,if_pos hp]
 ·rw [r4,if_neg hne]
theorem tc_revert (hg:GoodB b) (h:TcR b A) {x y:Nat} (hx:x < 4) (hy:y < 4) (he:(b.revert (x:Nat) (y:Nat)).2.1=0):TcR (b.revert (x:Nat) (y:Nat)).2.2 (updA A x (cpyN (A y) (A x) 8)):=by
 have r4:∀ a c j,(b.revert (x:Nat) (y:Nat)).2.2.rd a c j=if a=x then b.rd y c j else b.rd a c j:=(revert_rd hg (x:Nat) (y:Nat) he).2.2.2
 refine tc_upd h ?_ ((sp_cpy (h.sp y hy) (h.sp x hx) 8 (Nat.le_refl _)).congr fun p j hp hj=>?_) fun a ha hne p j hp hj=>?_
 ·unfold Bk.revert
  split
  ·exact h.lt
  split
  ·exact h.lt
  split
  ·exact h.lt
  exact frk_lt (fun v hv=>h.lt v (mem_noA.1 hv).1) hx
 ·rw [r4,if_pos rfl,if_pos hp]
 ·rw [r4,if_neg hne]
theorem tc_drop (hg:GoodB b) (h:TcR b A) {x:Nat} (hx:x < 4) (he:(b.drop (x:Nat)).2.1=0):TcR (b.drop (x:Nat)).2.2 (updA A x ((A x).clr 8)):=by
 have r4:∀ a c j,(b.drop (x:Nat)).2.2.rd a c j=if a=x then none else b.rd a c j:=(drop_rd hg (x:Nat) he).2
 refine tc_upd h ?_ ((sp_clr (h.sp x hx) 8 (Nat.le_refl _)).congr fun p j hp hj=>?_) fun a ha hne p j hp hj=>?_
 ·unfold Bk.drop
  split
  ·exact h.lt
  ·intro v hv
   exact h.lt v (mem_noA.1 hv).1
 ·rw [r4,if_pos rfl,if_pos hp]
 ·rw [r4,if_neg hne]
theorem tc_write (hg:GoodB b) (ho:OwnB b) (h:TcR b A) {x k i:Nat} {v:Int} (hx:x < 4) (hk:k < 8) (hi:i < 64) (he:(b.write (x:Nat) ((k * 64+i:Nat):Int) v).1=0):TcR (b.write (x:Nat) ((k * 64+i:Nat):Int) v).2 (updA A x ((A x).write ((k * 64+i:Nat):Int) v).2):=by
 rcases wr_rd hg ho (x:Nat) ((k * 64+i:Nat):Int) v with hw|hn
 ·have e1:((k * 64+i:Nat):Int).toNat / 64=k:=by omega
  have e2:((k * 64+i:Nat):Int).toNat % 64=i:=by omega
  have hrd:=hw.rd
  have hwas:=hw.was
  rw [e1] at hwas
  rw [e1,e2] at hrd
  refine tc_upd h ?_ ((sp_write (h.sp x hx) hk hi (v:=v) fun hc=>?_).congr fun p j hp hj=>?_) fun a ha hne p j hp hj=>?_
  ·intro u hu
   have hs:=wr_spec (b:=b) (x:Nat) ((k * 64+i:Nat):Int) v
   generalize b.write (x:Nat) ((k * 64+i:Nat):Int) v=q at hs hu
   have hset:∀ {g:Vw→Vw} {c d:Nat} {w:Vw},(∀ v,(g v).1=v.1∧(g v).2.1=v.2.1)→w ∈ setL g c d b.L→w.1 < 4∧w.2.1 < 8:=fun {g c d w} hgg hw=>by
    obtain ⟨z,hz,rfl⟩:=set_mem.1 hw
    split
    ·rw [(hgg z).1,(hgg z).2];exact h.lt z hz
    ·exact h.lt z hz
   cases hs with
   | no e h'=>exact h.lt u hu
   | own u' hi hf hw=>rw [put_L] at hu;exact h.lt u hu
   | pr u' hi hf hw h1=>rw [put_L] at hu;exact hset (g:=prV true) (fun v=>⟨rfl,rfl⟩) hu
   | fr u' r hi hf hw h1 hr he2=>rw [put_L] at hu;exact hset (g:=frV r.2.1) (fun v=>⟨rfl,rfl⟩) hu
   | full u' r hr he2=>exact h.lt u hu
  ·have hc:fndL b.L x k=none:=rd_none.1 hc
   have hwas:(fndL b.L x k).isSome=true:=hwas
   rw [hc] at hwas;cases hwas
  ·rw [hrd x p j hj]
   by_cases e:p=k∧j=i
   ·rw [if_pos e,if_pos ⟨rfl,e.1.symm,e.2.symm⟩]
   ·rw [if_neg e,if_neg fun hc=>e ⟨hc.2.1.symm,hc.2.2.symm⟩]
  ·rw [hrd a p j hj,if_neg fun hc=>hne hc.1.symm]
 ·exact absurd he hn.e
theorem tc_used (hg:GoodB b) (h:TcR b A):b.used≤sumN (fun a=>cntK (A a).K 2 1024) 4∧b.used≤b.n:=by
 obtain ⟨h1,h2⟩:=used_le hg
 refine ⟨Nat.le_trans h1 (pages_le hg (fun v hv=>(h.lt v hv).1) (K:=fun a=>(A a).K) fun a p ha hf=>?_),h2⟩
 cases hq:fndL b.L a p with
 | none=>exact absurd hq hf
 | some v =>
  obtain ⟨hv,hva⟩:=fnd_some hq
  have hp:p < 8:=by have:=(h.lt v hv).2;rw [show v.2.1=p from hva.2] at this;exact this
  rcases (h.sp a ha).at_ p hp with h3|h3
  ·have:=rd_none.1 (h3.2 0 (by decide));exact absurd this hf
  ·exact h3.1
theorem tc_read (hg:GoodB b) (h:TcR b A) {a p i:Nat} (ha:a < 4) (hp:p < 8) (hi:i < 64):let r:=b.read (a:Nat) ((p * 64+i:Nat):Int);let s:=(A a).read ((p * 64+i:Nat):Int);r.1=s.1∧(r.2=0 ↔ s.2=0)∧(r.2=0∨r.2=220):=by
 dsimp only
 have e1:((p * 64+i:Nat):Int).toNat / 64=p:=by omega
 have e2:((p * 64+i:Nat):Int).toNat % 64=i:=by omega
 rw [read_rd hg,if_pos ⟨⟨by omega,by omega⟩,⟨by omega,by omega⟩⟩,e1,e2,show ((a:Nat):Int).toNat=a from rfl]
 unfold Sy.read
 rw [if_neg (by omega),e1,e2]
 rcases (h.sp a ha).at_ p hp with h3|h3
 ·rw [h3.2 i hi,if_neg (by rw [h3.1];decide)]
  exact ⟨rfl,by decide,.inr rfl⟩
 ·rw [h3.2 i hi,if_pos h3.1]
  exact ⟨rfl,Iff.rfl,.inl rfl⟩
end
end Go.Pol
namespace Go.Pol
open Go.Am Go.Proofs.YtphggldkligldaaGreat.Sh
theorem new_chg {l:List Rl} {a n:Int} (he:((Sy.new l).chg a n 0 1 0).1=0):(∀ p,((Sy.new l).chg a n 0 1 0).2.K p=if a.toNat≤p∧p < a.toNat+n.toNat then 1 else 0)∧(∀ p,((Sy.new l).chg a n 0 1 0).2.M p=false)∧(∀ p j,((Sy.new l).chg a n 0 1 0).2.B p j=0)∧((Sy.new l).chg a n 0 1 0).2.l=l:=by
 unfold Sy.chg at he ⊢
 split at he
 ·exact absurd he (by decide:¬ (7:Int)=0)
 rename_i c1
 rw [if_neg c1]
 split at he
 ·rename_i c2
  rw [if_pos c2]
  split at he
  ·exact absurd he (by decide:¬ (60:Int)=0)
  ·rename_i c3
   rw [if_neg c3]
   refine ⟨fun p=>?_,fun p=>rfl,fun p j=>?_,rfl⟩
   ·show setR (Sy.new l).K _ _ 1 p=_
    unfold setR;rfl
   ·show setP (Sy.new l).B _ _ p j=0
    unfold setP;split<;>rfl
 ·exact absurd he (by decide:¬ (9:Int)=0)
theorem new_book {l:List Rl} {a n:Int} (hc:(chkP l).2=0) (hi:0≤a∧1≤n∧a+n≤1024) (he:((Sy.new l).chg a n 0 1 0).1=0) (b:Bk) (hb:b=⟨a.toNat,n.toNat,[],((Sy.new l).chg a n 0 1 0).2⟩):GoodB b∧OutB b∧OwnB b∧ByS b.s∧(l=[]→Tight b):=by
 obtain ⟨k1,k2,k3,k4⟩:=new_chg he
 subst hb
 refine ⟨⟨good_chg (good_new hc) (by decide),⟨by show 1≤n.toNat;omega,by show a.toNat+n.toNat≤1024;omega⟩,fun f h1 h2=>⟨.inl ?_,k2 f⟩,fun f hf=>absurd (show 0 < 0 from hf) (Nat.lt_irrefl 0),List.Pairwise.nil,fun v hv=>(by cases hv),Nat.zero_le _⟩,fun p hp=>?_,fun v hv=>(by cases hv),fun p j=>?_,fun hl=>⟨?_,fun f h1 h2 hk=>?_⟩⟩
 ·show ((Sy.new l).chg a n 0 1 0).2.K f=1
  rw [k1,if_pos ⟨h1,h2⟩]
 ·show ((Sy.new l).chg a n 0 1 0).2.K p=0
  rw [k1,if_neg hp]
 ·show 0≤((Sy.new l).chg a n 0 1 0).2.B p j∧((Sy.new l).chg a n 0 1 0).2.B p j < 256
  rw [k3];decide
 ·exact k4.trans hl
 ·have hk:((Sy.new l).chg a n 0 1 0).2.K f=2:=hk
  rw [k1,if_pos ⟨h1,h2⟩] at hk
  exact absurd hk (by decide)
theorem new_sp (he:(((Sy.new []).chg 0 8 0 1 0).1)=0) (hc:(chkP []).2=0):SpR (fun _ _=>none) ((Sy.new []).chg 0 8 0 1 0).2:=by
 obtain ⟨k1,k2,k3,k4⟩:=new_chg he
 refine ⟨good_chg (good_new hc) (by decide),k4,k2,fun p hp=>?_,fun p hp=>.inl ⟨?_,fun _ _=>rfl⟩⟩
 ·rw [k1,if_neg]
  rintro ⟨_,h2⟩
  have h2:p < 0+8:=h2
  omega
 ·rw [k1,if_pos ⟨Nat.zero_le _,by show p < 0+8;omega⟩]
end Go.Pol
namespace Go.Pol
open Go.Am Go.Proofs.YtphggldkligldaaGreat.Sh
def wrK (s:Sy) (f:Nat) (x:Nat→Int) (k:Nat):Sy:={ s with B:=updP s.B f fun j=>if j < k then x j else s.B f j }
theorem wrK_0 {s:Sy} {f:Nat} {x:Nat→Int}:wrK s f x 0=s:=by
 unfold wrK
 have : updP s.B f (fun j=>if j < 0 then x j else s.B f j)=s.B:=funext fun p=>by
  unfold updP
  split
  ·rename_i e;subst e;exact funext fun j=>if_neg (by omega)
  ·rfl
 rw [this]
theorem wrK_K {s:Sy} {f:Nat} {x:Nat→Int} {k:Nat}:(wrK s f x k).K=s.K:=rfl
theorem wrK_s {s:Sy} {f:Nat} {x:Nat→Int} {k:Nat} (hk:s.K f=2) (hf:f < 1024) (hj:k < 64):(wrK s f x k).write ((f:Int) * 64+(k:Nat)) (x k)=(0,wrK s f x (k+1)):=by
 unfold Sy.write
 have h1:((f:Int) * 64+(k:Nat)).toNat / 64=f:=by omega
 have h2:((f:Int) * 64+(k:Nat)).toNat % 64=k:=by omega
 rw [if_neg (by omega),h1,h2,wrK_K,if_pos hk]
 unfold wrK
 dsimp only
 have : updP (updP s.B f fun j=>if j < k then x j else s.B f j) f (updI (updP s.B f (fun j=>if j < k then x j else s.B f j) f) k (x k))=updP s.B f fun j=>if j < k+1 then x j else s.B f j:=funext fun p=>by
  unfold updP
  by_cases e:p=f
  ·rw [if_pos e,if_pos e,if_pos rfl]
   refine funext fun j=>?_
   unfold updI
   by_cases h3:j=k
   ·subst h3;rw [if_pos rfl,if_pos (by omega)]
   ·rw [if_neg h3]
    show (if j < k then x j else s.B f j)=if j < k+1 then x j else s.B f j
    by_cases h4:j < k
    ·rw [if_pos h4,if_pos (by omega)]
    ·rw [if_neg h4,if_neg (by omega)]
  ·rw [if_neg e,if_neg e,if_neg e]
 rw [this]
theorem wrK_all {s:Sy} (hg:GoodS s) {f:Nat} {x:Nat→Int}:wrK s f x 64=s.page f x:=by
 unfold wrK Sy.page
 have : (fun j=>if j < 64 then x j else s.B f j)=fun j=>if j < 64 then x j else 0:=funext fun j=>by
  by_cases h:j < 64
  ·rw [if_pos h,if_pos h]
  ·rw [if_neg h,if_neg h,hg.cB f j (by omega)]
 rw [this]
theorem read_at {s:Sy} {f k:Nat} (hk:s.K f=2) (hf:f < 1024) (hj:k < 64):s.read ((f:Int) * 64+(k:Nat))=(s.B f k,0):=by
 unfold Sy.read
 rw [if_neg (by omega),show ((f:Int) * 64+(k:Nat)).toNat / 64=f by omega,show ((f:Int) * 64+(k:Nat)).toNat % 64=k by omega,if_pos hk]
theorem range_cut {a n i:Nat} (h:i≤n):List.range' a n=List.range' a i++List.range' (a+i) (n - i):=by
 rw [List.range'_append_1,Nat.add_sub_cancel' h]
theorem free_at {L:List Vw} {a n i:Nat} (hi:i < n) (h1:∀ j,j < i→0 < cntF L (a+j)) (h2:cntF L (a+i)=0):freeF L a n=some (a+i):=by
 unfold freeF
 rw [range_cut (Nat.le_of_lt hi),List.find?_append]
 have e1:(List.range' a i).find? (fun f=>decide (cntF L f=0))=none:=List.find?_eq_none.2 fun f hf=>by
  rw [List.mem_range'_1] at hf
  have:=h1 (f - a) (by omega)
  rw [show a+(f - a)=f by omega] at this
  simp;omega
 obtain ⟨m,hm⟩:∃ m,n - i=m+1:=⟨n - i - 1,by omega⟩
 rw [e1,hm,List.range'_succ,List.find?_cons,decide_eq_true h2]
 rfl
theorem free_not {L:List Vw} {a n:Nat} (h:∀ j,j < n→0 < cntF L (a+j)):freeF L a n=none:=List.find?_eq_none.2 fun f hf=>by
 rw [List.mem_range'_1] at hf
 have:=h (f - a) (by omega)
 rw [show a+(f - a)=f by omega] at this
 simp;omega
def cntR (p:Nat→Bool) (a i:Nat):Nat:=((List.range' a i).filter p).length
theorem cntR_s {p:Nat→Bool} {a i:Nat}:cntR p a (i+1)=cntR p a i+if p (a+i) then 1 else 0:=by
 unfold cntR
 rw [range_cut (Nat.le_add_right i 1),List.filter_append,List.length_append,Nat.add_sub_cancel_left]
 by_cases h:p (a+i)<;>simp [List.range'_succ,h]
theorem cntR_le {p:Nat→Bool} {a i:Nat}:cntR p a i≤i:=Nat.le_trans (List.length_filter_le ..) (by rw [List.length_range'];exact Nat.le_refl _)
theorem used_R (b:Bk):b.used=cntR (fun f=>decide (0 < cntF b.L f)) b.a b.n:=rfl
theorem idle_R (b:Bk):b.idle=cntR (fun f=>decide (cntF b.L f=0∧b.s.K f=2)) b.a b.n:=rfl
theorem many_R (b:Bk):b.many=cntR (fun f=>decide (1 < cntF b.L f)) b.a b.n:=rfl
def sh0:Bk:=⟨8,2,[],((Sy.new []).chg 8 2 0 1 0).2⟩
def sh1:Bk:=(sh0.map 0 3).2
def sh2:Bk:=(sh1.write 0 192 7).2
def sh3:Bk:=(sh2.take 0 1).2.2
def sh4:Bk:=(sh3.write 0 192 8).2
def sh5:Bk:=(sh4.take 1 2).2.2
def sh6:Bk:=(sh5.write 2 192 9).2
def sh7:Bk:=(sh6.drop 0).2.2
def sh8:Bk:=(sh7.write 2 192 9).2
set_option maxRecDepth 100000 in
theorem sh_0:((Sy.new []).chg 8 2 0 1 0).1=0:=by decide +kernel
set_option maxRecDepth 100000 in
theorem sh_1:(sh0.map 0 3).1=0:=by decide +kernel
set_option maxRecDepth 100000 in
theorem sh_2:(sh1.write 0 192 7).1=0:=by decide +kernel
set_option maxRecDepth 100000 in
theorem sh_3:(sh2.take 0 1).1=1∧(sh2.take 0 1).2.1=0:=by decide +kernel
set_option maxRecDepth 100000 in
theorem sh_4:(sh3.write 0 192 8).1=0:=by decide +kernel
set_option maxRecDepth 100000 in
theorem sh_r4:sh4.read 1 192=(7,0):=by decide +kernel
end Go.Pol
