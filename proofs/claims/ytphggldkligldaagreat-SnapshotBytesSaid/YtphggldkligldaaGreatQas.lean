/-
 A book of spaces,plain: views that may be written are alone;what a write does.
 A book of spaces,plain: what a space reads after a write.
 A book of spaces,plain: any call keeps a good book;bytes are bytes.
 A book of spaces,plain: what each space has,followed without the book (SnapshotBytes).
 A book of spaces,plain: counts of frames (SnapshotFits,SnapshotCopies,SnapshotBack).
 A book of spaces,plain: what a write takes;a snapshot does not differ (SnapshotCopies).
 A book of spaces,plain: sums;frames that are used are not more than views (TopCopies).
 Spaces that share nothing,plain (TopCopies).
 A book and spaces that share nothing,plain (TopCopies).
 A book of spaces,plain: a new one.
 A book of spaces,plain: filling a page,counting frames,the example.
-/
import Derived.Test.YtphggldkligldaaGreatQar
set_option linter.unusedSimpArgs false
set_option linter.unusedVariables false
namespace Go.Pol
open Go.Am Go.Proofs.YtphggldkligldaaGreat.Sh
def AQ5 (b:Bk):Prop:=∀ v ∈ b.L,v.2.2.2=true→∀ w ∈ b.L,w.2.2.1=v.2.2.1→w=v
theorem cnt_one {L:List Vw} {v w:Vw} (h:cntF L v.2.2.1=1) (hv:v ∈ L) (hw:w ∈ L) (e:w.2.2.1=v.2.2.1):w=v:=by
 unfold cntF at h
 obtain ⟨u,hu⟩:=List.length_eq_one_iff.1 h
 have h1:v ∈ [u]:=hu▸List.mem_filter.2 ⟨hv,by simp⟩
 have h2:w ∈ [u]:=hu▸List.mem_filter.2 ⟨hw,by simpa using e⟩
 rw [List.mem_singleton.1 h1,List.mem_singleton.1 h2]
theorem BM1 {g:Vw→Vw} {L:List Vw} {u v:Vw} (hs:srt L) (hu:u ∈ L):v ∈ AQ7 g u.1 u.2.1 L ↔ v=g u∨(v ∈ L∧v ≠ u):=by
 rw [AR7]
 constructor
 ·rintro ⟨w,hw,rfl⟩
  by_cases e:atV (u.1,u.2.1) w
  ·rw [if_pos e,Ap2 hs hw hu e.1 e.2];exact .inl rfl
  ·rw [if_neg e];exact .inr ⟨hw,fun e2=>e (by rw [e2];exact ⟨rfl,rfl⟩)⟩
 ·rintro (rfl | ⟨hv,hne⟩)
  ·exact ⟨u,hu,by rw [if_pos ⟨rfl,rfl⟩]⟩
  ·exact ⟨v,hv,by rw [if_neg fun e=>hne (Ap2 hs hv hu e.1 e.2)]⟩
section
variable {b:Bk}
theorem BG3 {b':Bk} (ho:AQ5 b) (hs:∀ v ∈ b'.L,v ∈ b.L):AQ5 b':=fun v hv hw w hwm e=>ho v (hs v hv) hw w (hs w hwm) e
theorem own_map (h:H6 b) (ho:AQ5 b) (x k:Int):AQ5 (b.map x k).2:=by
 unfold Bk.map
 split
 ·exact ho
 split
 ·exact ho
 split
 ·exact ho
 have tk:=h.tk fun _=>0
 split
 ·rename_i he
  obtain ⟨u1,u2,u3,u4,u5⟩:=tk.got he
  intro v hv hvw w hw e
  dsimp only at hv hw
  generalize tkP b.a b.n b.L b.s (fun _=>0)=r at *
  have hno:∀ u ∈ b.L,u.2.2.1 ≠ r.2.1:=fun u hu e2=>by
   have:=Y4.2 ⟨u,hu,e2⟩;omega
  rcases AA4.1 hv with rfl|hv
  ·rcases AA4.1 hw with rfl|hw
   ·rfl
   ·exact absurd e (hno w hw)
  ·rcases AA4.1 hw with rfl|hw
   ·exact absurd e.symm (hno v hv)
   ·exact ho v hv hvw w hw e
 ·exact ho
theorem own_unmap (ho:AQ5 b) (x k:Int):AQ5 (b.unmap x k).2:=by
 unfold Bk.unmap
 split
 ·exact ho
 cases hf:Q6 b.L x.toNat k.toNat with
 | none=>exact ho
 | some v=>exact BG3 ho fun u hu=>(AY7.1 hu).1
theorem own_frk {b':Bk} {x y:Nat} {L:List Vw} (hL:b'.L=BV9 x y L) (ho:∀ v ∈ L,v.2.2.2=true→∀ w ∈ L,w.2.2.1=v.2.2.1→w=v):AQ5 b':=by
 intro v hv hvw w hw e
 rw [hL] at hv hw
 rcases AS4.1 hv with ⟨u,hu,rfl⟩ | ⟨u,hu,h1,rfl⟩
 ·have hu2:u.2.2.2=true∧u.1 ≠ x:=by
   have : (u.2.2.2 && !decide (u.1=x))=true:=hvw
   simpa using this
  rcases AS4.1 hw with ⟨z,hz,rfl⟩ | ⟨z,hz,h1,rfl⟩
  ·rw [ho u hu hu2.1 z hz e]
  ·have:=ho u hu hu2.1 z hz e
   exact absurd (this▸h1) hu2.2
 ·exact absurd hvw (by show ¬ false=true;decide)
theorem own_take (ho:AQ5 b) (x y:Int):AQ5 (b.take x y).2.2:=by
 unfold Bk.take
 split
 ·exact ho
 split
 ·exact ho
 split
 ·exact ho
 split
 ·exact ho
 exact own_frk rfl ho
theorem own_drop (ho:AQ5 b) (x:Int):AQ5 (b.drop x).2.2:=by
 unfold Bk.drop
 split
 ·exact ho
 ·exact BG3 ho fun u hu=>(AA3.1 hu).1
theorem BU8 (ho:AQ5 b) (x y:Int):AQ5 (b.revert x y).2.2:=by
 unfold Bk.revert
 split
 ·exact ho
 split
 ·exact ho
 split
 ·exact ho
 exact own_frk rfl fun v hv hvw w hw e=>ho v (AA3.1 hv).1 hvw w (AA3.1 hw).1 e
theorem put_L (x t v:Int):(b.put x t v).2.L=b.L:=by unfold Bk.put;split<;>rfl
theorem own_set {L:List Vw} {u g:Vw} (ho:∀ v ∈ L,v.2.2.2=true→∀ w ∈ L,w.2.2.1=v.2.2.1→w=v) (hg:∀ w ∈ L,w ≠ u→w.2.2.1 ≠ g.2.2.1) {v w:Vw} (hv:v=g∨(v ∈ L∧v ≠ u)) (hvw:v.2.2.2=true) (hw:w=g∨(w ∈ L∧w ≠ u)) (e:w.2.2.1=v.2.2.1):w=v:=by
 rcases hv with rfl | ⟨hv,hvu⟩
 ·rcases hw with rfl | ⟨hw,hwu⟩
  ·rfl
  ·exact absurd e (hg w hw hwu)
 ·rcases hw with rfl | ⟨hw,hwu⟩
  ·exact absurd e.symm (hg v hv hvu)
  ·exact ho v hv hvw w hw e
def Bk.pr (b:Bk) (x k:Nat):Bk:={ b with L:=AQ7 (prV true) x k b.L }
def Bk.fr (b:Bk) (x k:Nat) (r:Int × Nat × Sy):Bk:={ b with L:=AQ7 (frV r.2.1) x k b.L,s:=r.2.2 }
theorem own_pr (h:H6 b) (ho:AQ5 b) {x k:Nat} {u:Vw} (hf:Q6 b.L x k=some u) (h1:cntF b.L u.2.2.1=1):AQ5 (b.pr x k):=by
 obtain ⟨hu,ha⟩:=J2 hf
 have ha1:u.1=x:=ha.1
 have ha2:u.2.1=k:=ha.2
 intro p hp hpw q hq e
 have hp:p ∈ AQ7 (prV true) x k b.L:=hp
 have hq:q ∈ AQ7 (prV true) x k b.L:=hq
 rw [← ha1,← ha2] at hp hq
 exact own_set (u:=u) (g:=prV true u) ho (fun w hw hne e2=>hne (cnt_one h1 hu hw e2)) ((BM1 h.sr hu).1 hp) hpw ((BM1 h.sr hu).1 hq) e
theorem own_fr (h:H6 b) (ho:AQ5 b) {x k:Nat} {u:Vw} (hf:Q6 b.L x k=some u) {r:Int × Nat × Sy} (h0:cntF b.L r.2.1=0):AQ5 (b.fr x k r):=by
 obtain ⟨hu,ha⟩:=J2 hf
 have ha1:u.1=x:=ha.1
 have ha2:u.2.1=k:=ha.2
 intro p hp hpw q hq e
 have hp:p ∈ AQ7 (frV r.2.1) x k b.L:=hp
 have hq:q ∈ AQ7 (frV r.2.1) x k b.L:=hq
 rw [← ha1,← ha2] at hp hq
 refine own_set (u:=u) (g:=frV r.2.1 u) ho (fun w hw hne e2=>?_) ((BM1 h.sr hu).1 hp) hpw ((BM1 h.sr hu).1 hq) e
 have:=Y4.2 ⟨w,hw,e2⟩
 have e3:(frV r.2.1 u).2.2.1=r.2.1:=rfl
 rw [e3] at this;omega
inductive WrS (b:Bk) (x t v:Int):Int × Bk→Prop
 | no (e:Int) (h:e ≠ 0):WrS b x t v (e,b)
 | own (u:Vw) (hi:inR 64 x∧inR 65536 t) (hf:Q6 b.L x.toNat (t.toNat / 64)=some u) (hw:u.2.2.2=true):WrS b x t v (b.put x t v)
 | pr (u:Vw) (hi:inR 64 x∧inR 65536 t) (hf:Q6 b.L x.toNat (t.toNat / 64)=some u) (hw:u.2.2.2=false) (h1:cntF b.L u.2.2.1=1):WrS b x t v ((b.pr x.toNat (t.toNat / 64)).put x t v)
 | fr (u:Vw) (r:Int × Nat × Sy) (hi:inR 64 x∧inR 65536 t) (hf:Q6 b.L x.toNat (t.toNat / 64)=some u) (hw:u.2.2.2=false) (h1:cntF b.L u.2.2.1 ≠ 1) (hr:r=tkP b.a b.n b.L b.s (b.s.B u.2.2.1)) (he:r.1=0):WrS b x t v ((b.fr x.toNat (t.toNat / 64) r).put x t v)
 | full (u:Vw) (r:Int × Nat × Sy) (hr:r=tkP b.a b.n b.L b.s (b.s.B u.2.2.1)) (he:r.1 ≠ 0):WrS b x t v (r.1,{ b with s:=r.2.2 })
theorem BD9 (x t v:Int):WrS b x t v (b.write x t v):=by
 unfold Bk.write
 split
 ·exact .no 7 (by decide)
 rename_i hi
 have hi:inR 64 x∧inR 65536 t:=Classical.not_not.1 hi
 cases hf:Q6 b.L x.toNat (t.toNat / 64) with
 | none=>exact .no 220 (by decide)
 | some u =>
  dsimp only
  split
  ·rename_i hw;exact .own u hi hf hw
  ·rename_i hw
   have hw:u.2.2.2=false:=by simpa using hw
   split
   ·rename_i h1;exact .pr u hi hf hw h1
   ·rename_i h1
    split
    ·rename_i he;exact .fr u _ hi hf hw h1 rfl he
    ·rename_i he;exact .full u _ rfl he
theorem BG4 (x t v:Int) (h:AQ5 b):AQ5 (b.put x t v).2:=BG3 h fun w hw=>by rwa [put_L] at hw
theorem own_write (h:H6 b) (ho:AQ5 b) (x t v:Int):AQ5 (b.write x t v).2:=by
 have:=BD9 (b:=b) x t v
 generalize b.write x t v=q at this
 cases this with
 | no e h=>exact ho
 | own u hi hf hw=>exact BG4 x t v ho
 | pr u hi hf hw h1=>exact BG4 x t v (own_pr h ho hf h1)
 | fr u r hi hf hw h1 hr he=>exact BG4 x t v (own_fr h ho hf (by subst hr;exact ((h.tk _).got he).2.2.1))
 | full u r hr he=>exact ho
theorem Av0 {x t:Int} {w:Bool} {u:Vw} (hi:inR 64 x∧inR 65536 t) (hf:Q6 b.L x.toNat (t.toNat / 64)=some u) (hw:w=true→u.2.2.2=true):b.where_ x t w=(((u.2.2.1 * 64+t.toNat % 64:Nat):Int),0):=by
 unfold Bk.where_
 rw [if_neg (fun hn=>hn hi),hf]
 dsimp only
 rw [if_neg fun hc=>by rw [hw hc.1] at hc;exact absurd hc.2 (by decide)]
theorem read_yes (h:H6 b) {x t:Int} {u:Vw} (hi:inR 64 x∧inR 65536 t) (hf:Q6 b.L x.toNat (t.toNat / 64)=some u):b.read x t=(b.s.B u.2.2.1 (t.toNat % 64),0):=by
 obtain ⟨hu,_⟩:=J2 hf
 obtain ⟨w1,w2,w3⟩:=h.view hu
 have hr:=h.rng
 have hok:=h.ok u hu
 unfold Bk.read
 rw [Av0 hi hf (by simp),if_pos rfl]
 unfold Sy.read
 dsimp only
 rw [if_neg (by omega),show ((u.2.2.1 * 64+t.toNat % 64:Nat):Int).toNat / 64=u.2.2.1 by omega,if_pos w3,show ((u.2.2.1 * 64+t.toNat % 64:Nat):Int).toNat % 64=t.toNat % 64 by omega]
theorem read_rd (h:H6 b) (x t:Int):b.read x t=if inR 64 x∧inR 65536 t then (match b.rd x.toNat (t.toNat / 64) (t.toNat % 64) with|some v=>((v,0):Int × Int)|none=>(0,220)) else (0,7):=by
 by_cases hi:inR 64 x∧inR 65536 t
 ·rw [if_pos hi]
  unfold Bk.rd
  cases hf:Q6 b.L x.toNat (t.toNat / 64) with
  | none =>
   have hw:b.where_ x t false=(0,220):=by unfold Bk.where_;rw [if_neg (fun hn=>hn hi),hf]
   unfold Bk.read
   rw [hw,if_neg (by decide)];rfl
  | some u=>rw [read_yes h hi hf];rfl
 ·rw [if_neg hi]
  have hw:b.where_ x t false=(0,7):=by unfold Bk.where_;rw [if_pos hi]
  unfold Bk.read
  rw [hw,if_neg (by decide)]
def Bk.byte (b:Bk) (f i:Nat) (v:Int):Bk:={ b with s:={ b.s with B:=AL2 b.s.B f (J9 (b.s.B f) i v) } }
theorem BF9 (hok:GoodS b.s) {x t v:Int} {u:Vw} (hi:inR 64 x∧inR 65536 t) (hf:Q6 b.L x.toNat (t.toNat / 64)=some u) (hw:u.2.2.2=true) (hlt:u.2.2.1 < 1024) (hk:b.s.K u.2.2.1=2):b.put x t v=(0,b.byte u.2.2.1 (t.toNat % 64) v):=by
 unfold Bk.put
 rw [Av0 hi hf (fun _=>hw),if_pos rfl]
 have : b.s.write ((u.2.2.1 * 64+t.toNat % 64:Nat):Int) v=(0,{ b.s with B:=AL2 b.s.B u.2.2.1 (J9 (b.s.B u.2.2.1) (t.toNat % 64) v) }):=by
  unfold Sy.write
  rw [if_neg (by omega),show ((u.2.2.1 * 64+t.toNat % 64:Nat):Int).toNat / 64=u.2.2.1 by omega,if_pos hk,show ((u.2.2.1 * 64+t.toNat % 64:Nat):Int).toNat % 64=t.toNat % 64 by omega]
 dsimp only
 rw [this];rfl
end
end Go.Pol
namespace Go.Pol
open Go.Am Go.Proofs.YtphggldkligldaaGreat.Sh
section
variable {b:Bk}
theorem BK1 (ho:AQ5 b) {x k i:Nat} {v:Int} {u:Vw} (hf:Q6 b.L x k=some u) (hw:u.2.2.2=true) (a c j:Nat):(b.byte u.2.2.1 i v).rd a c j=if x=a∧k=c∧i=j then some v else b.rd a c j:=by
 obtain ⟨hu,hua⟩:=J2 hf
 unfold Bk.rd Bk.byte
 dsimp only
 cases hq:Q6 b.L a c with
 | none =>
  rw [if_neg]
  ·simp only [Option.map_none]
  ·rintro ⟨rfl,rfl,_⟩;rw [hf] at hq;cases hq
 | some w =>
  obtain ⟨hwm,hwa⟩:=J2 hq
  simp only [Option.map_some]
  by_cases e:w.2.2.1=u.2.2.1
  ·have:=ho u hu hw w hwm e
   subst this
   have e1:x=a:=hua.1.symm.trans hwa.1
   have e2:k=c:=hua.2.symm.trans hwa.2
   have e3:AL2 b.s.B w.2.2.1 (J9 (b.s.B w.2.2.1) i v) w.2.2.1 j=if j=i then v else b.s.B w.2.2.1 j:=by unfold AL2;rw [if_pos rfl];rfl
   rw [e3]
   by_cases e4:i=j
   ·rw [if_pos e4.symm,if_pos ⟨e1,e2,e4⟩]
   ·rw [if_neg (Ne.symm e4),if_neg fun h=>e4 h.2.2]
  ·rw [if_neg]
   ·unfold AL2;rw [if_neg e]
   ·rintro ⟨rfl,rfl,_⟩;rw [hf] at hq;cases hq;exact e rfl
theorem pr_fnd (h:H6 b) {x k:Nat} {u:Vw} (hf:Q6 b.L x k=some u):Q6 (b.pr x k).L x k=some (prV true u):=by
 show Q6 (AQ7 (prV true) x k b.L) x k=_
 rw [As1 (g:=prV true) h.sr (fun v=>⟨rfl,rfl⟩),hf]
 simp only [Option.map_some,and_self,if_true]
theorem pr_rd (h:H6 b) (x k a c j:Nat):(b.pr x k).rd a c j=b.rd a c j:=rd_of (b:=b) (b':=b.pr x k) (g:=fun v=>if x=a∧k=c then prV true v else v) (As1 (g:=prV true) h.sr (fun v=>⟨rfl,rfl⟩) x k a c) fun v _ _ _=>by
 show b.s.B (if x=a∧k=c then prV true _ else _).2.2.1 _=_
 split<;>rfl
theorem fr_fnd (h:H6 b) {x k:Nat} {u:Vw} (hf:Q6 b.L x k=some u) (r:Int × Nat × Sy):Q6 (b.fr x k r).L x k=some (frV r.2.1 u):=by
 show Q6 (AQ7 (frV r.2.1) x k b.L) x k=_
 rw [As1 (g:=frV r.2.1) h.sr (fun v=>⟨rfl,rfl⟩),hf]
 simp only [Option.map_some,and_self,if_true]
theorem fr_rd (h:H6 b) {x k:Nat} {u:Vw} (hf:Q6 b.L x k=some u) {r:Int × Nat × Sy} (hr:r=tkP b.a b.n b.L b.s (b.s.B u.2.2.1)) (he:r.1=0) (a c j:Nat) (hj:j < 64):(b.fr x k r).rd a c j=b.rd a c j:=by
 have tk:=h.tk (b.s.B u.2.2.1)
 rw [← hr] at tk
 obtain ⟨u1,u2,u3,u4,u5⟩:=tk.got he
 refine rd_of (b:=b) (b':=b.fr x k r) (g:=fun v=>if x=a∧k=c then frV r.2.1 v else v) (As1 (g:=frV r.2.1) h.sr (fun v=>⟨rfl,rfl⟩) x k a c) fun v hv h1 h2=>?_
 show r.2.2.B (if x=a∧k=c then frV r.2.1 v else v).2.2.1 j=_
 split
 ·rename_i e
  have : v=u:=by
   have:=Ab8 h.sr hv h1 h2
   rw [← e.1,← e.2,hf] at this
   exact (Option.some.inj this).symm
  subst this
  exact u5 j hj
 ·exact congrFun (tk.old _ (Y4.2 ⟨v,hv,rfl⟩)) j
theorem view_of (h:H6 b) {u:Vw} (hu:u ∈ b.L):u.2.2.1 < 1024∧b.s.K u.2.2.1=2:=by
 obtain ⟨w1,w2,w3⟩:=h.view hu
 exact ⟨(h.ok u hu).2.2,w3⟩
structure WrY (b:Bk) (x t v:Int) (q:Int × Bk):Prop where
 e:q.1=0
 hi:inR 64 x∧inR 65536 t
 was:(Q6 b.L x.toNat (t.toNat / 64)).isSome=true
 rd:∀ a c j,j < 64→q.2.rd a c j=if x.toNat=a∧t.toNat / 64=c∧t.toNat % 64=j then some v else b.rd a c j
structure WrN (b:Bk) (q:Int × Bk):Prop where
 e:q.1 ≠ 0
 L:q.2.L=b.L
 B:∀ f,0 < cntF b.L f→q.2.s.B f=b.s.B f
theorem wr_rd (h:H6 b) (ho:AQ5 b) (x t v:Int):WrY b x t v (b.write x t v)∨WrN b (b.write x t v):=by
 have hs:=BD9 (b:=b) x t v
 generalize b.write x t v=q at hs
 cases hs with
 | no e he=>exact .inr ⟨he,rfl,fun _ _=>rfl⟩
 | own u hi hf hw =>
  obtain ⟨hu,_⟩:=J2 hf
  obtain ⟨k1,k2⟩:=view_of h hu
  rw [BF9 h.good hi hf hw k1 k2]
  exact .inl ⟨rfl,hi,by rw [hf];rfl,fun a c j _=>BK1 ho hf hw a c j⟩
 | pr u hi hf hw h1 =>
  obtain ⟨hu,_⟩:=J2 hf
  obtain ⟨k1,k2⟩:=view_of h hu
  have hf2:=pr_fnd h hf
  rw [BF9 (b:=b.pr x.toNat (t.toNat / 64)) h.good hi hf2 rfl k1 k2]
  refine .inl ⟨rfl,hi,by rw [hf];rfl,fun a c j _=>?_⟩
  rw [← pr_rd h x.toNat (t.toNat / 64) a c j]
  exact BK1 (own_pr h ho hf h1) hf2 rfl a c j
 | fr u r hi hf hw h1 hr he =>
  have tk:=h.tk (b.s.B u.2.2.1)
  rw [← hr] at tk
  obtain ⟨u1,u2,u3,u4,u5⟩:=tk.got he
  have hrg:=h.rng
  have hf2:=fr_fnd h hf r
  rw [BF9 (b:=b.fr x.toNat (t.toNat / 64) r) tk.good hi hf2 rfl (show r.2.1 < 1024 by omega) u4]
  refine .inl ⟨rfl,hi,by rw [hf];rfl,fun a c j hj=>?_⟩
  rw [← fr_rd h hf hr he a c j hj]
  exact BK1 (own_fr h ho hf u3) hf2 rfl a c j
 | full u r hr he =>
  have tk:=h.tk (b.s.B u.2.2.1)
  rw [← hr] at tk
  exact .inr ⟨he,rfl,tk.old⟩
end
end Go.Pol
namespace Go.Pol
open Go.Am Go.Proofs.YtphggldkligldaaGreat.Sh
def Bk.call (b:Bk) (w:Nat) (x y t v:Int) (l:List Rl):Int × Bk :=
 if w < 2 then b.map x y else if w=2 then b.unmap x y else if w=3 then (b.take x y).2 else if w=4 then (b.drop x).2 else if w=5 then (b.revert x y).2 else
 if w < 10 then b.write x t v else if w=13 then ((b.s.plan l).1,{ b with s:=(b.s.plan l).2 }) else (0,b)
theorem Ai9 {b:Bk} {P:Bk→Prop} (w:Nat) (x y t v:Int) (l:List Rl) (h0:P b) (h1:P (b.map x y).2) (h2:P (b.unmap x y).2) (h3:P (b.take x y).2.2) (h4:P (b.drop x).2.2) (h5:P (b.revert x y).2.2) (h6:P (b.write x t v).2) (h7:P { b with s:=(b.s.plan l).2 }):P (b.call w x y t v l).2:=by
 unfold Bk.call
 split
 ·exact h1
 split
 ·exact h2
 split
 ·exact h3
 split
 ·exact h4
 split
 ·exact h5
 split
 ·exact h6
 split
 ·exact h7
 ·exact h0
theorem plan_K {s:Sy} {l:List Rl}:(s.plan l).2.K=s.K:=by unfold Sy.plan;split<;>rfl
theorem plan_M {s:Sy} {l:List Rl}:(s.plan l).2.M=s.M:=by unfold Sy.plan;split<;>rfl
theorem plan_B {s:Sy} {l:List Rl}:(s.plan l).2.B=s.B:=by unfold Sy.plan;split<;>rfl
section
variable {b:Bk}
theorem plan_good (h:H6 b) (l:List Rl):H6 { b with s:=(b.s.plan l).2 }:=by
 refine ⟨good_plan h.good,h.rng,fun f h1 h2=>?_,fun f hf=>?_,h.sr,h.ok,h.len⟩
 ·show ((b.s.plan l).2.K f=1∨(b.s.plan l).2.K f=2)∧(b.s.plan l).2.M f=false
  rw [plan_K,plan_M];exact h.kind f h1 h2
 ·show _∧_∧(b.s.plan l).2.K f=2
  rw [plan_K];exact h.used f hf
theorem call_good (h:H6 b) (w:Nat) (x y t v:Int) (l:List Rl):H6 (b.call w x y t v l).2:=Ai9 (P:=H6) w x y t v l h (BP4 h x y) (BV8 h x y) (Ah5 h x y) (Ah6 h x) (BI3 h x y) (AK7 h x t v) (plan_good h l)
theorem call_own (h:H6 b) (ho:AQ5 b) (w:Nat) (x y t v:Int) (l:List Rl):AQ5 (b.call w x y t v l).2:=Ai9 (P:=AQ5) w x y t v l ho (own_map h ho x y) (own_unmap ho x y) (own_take ho x y) (own_drop ho x) (BU8 ho x y) (own_write h ho x t v) ho
theorem call_no (h:H6 b) (ho:AQ5 b) (w:Nat) (x y t v:Int) (l:List Rl) (he:(b.call w x y t v l).1 ≠ 0):(b.call w x y t v l).2.L=b.L∧∀ f,0 < cntF b.L f→(b.call w x y t v l).2.s.B f=b.s.B f:=by
 unfold Bk.call at he ⊢
 split at he
 ·rename_i c;rw [if_pos c];obtain ⟨h1,_,h3⟩:=map_keeps h x y he 0 0 0;exact ⟨h1,h3⟩
 rename_i c0;rw [if_neg c0]
 split at he
 ·rename_i c;rw [if_pos c,unmap_no x y he];exact ⟨rfl,fun _ _=>rfl⟩
 rename_i c1;rw [if_neg c1]
 split at he
 ·rename_i c;rw [if_pos c,take_no x y he];exact ⟨rfl,fun _ _=>rfl⟩
 rename_i c2;rw [if_neg c2]
 split at he
 ·rename_i c;rw [if_pos c,drop_no x he];exact ⟨rfl,fun _ _=>rfl⟩
 rename_i c3;rw [if_neg c3]
 split at he
 ·rename_i c;rw [if_pos c,revert_no x y he];exact ⟨rfl,fun _ _=>rfl⟩
 rename_i c4;rw [if_neg c4]
 split at he
 ·rename_i c;rw [if_pos c]
  rcases wr_rd h ho x t v with hy|hn
  ·exact absurd hy.e he
  ·exact ⟨hn.L,hn.B⟩
 rename_i c5;rw [if_neg c5]
 split at he
 ·rename_i c;rw [if_pos c];exact ⟨rfl,fun f _=>by show (b.s.plan l).2.B f=_;rw [plan_B]⟩
 ·exact absurd rfl he
def ByS (s:Sy):Prop:=∀ p j,0≤s.B p j∧s.B p j < 256
theorem BQ9:∀ {G:List Nat} {s:Sy},ByS s→ByS (AG5 s G)
 | [],s,h=>h
 | f::G,s,h=>by
  show ByS (AG5 (s.chg (f:Nat) 1 2 1 3).2 G)
  refine BQ9 ?_
  unfold Sy.chg
  split
  ·exact h
  ·split
   ·split
    ·exact h
    ·intro p j
     show 0≤Ac2 s.B _ _ p j∧Ac2 s.B _ _ p j < 256
     unfold Ac2;split
     ·exact ⟨Int.le_refl _,(by decide:(0:Int) < 256)⟩
     ·exact h p j
   ·exact h
theorem by_page {s:Sy} {f:Nat} {x:Nat→Int} (h:ByS s) (hx:∀ j,0≤x j∧x j < 256):ByS (s.page f x):=fun p j=>by
 show 0≤AL2 s.B f _ p j∧AL2 s.B f _ p j < 256
 unfold AL2;split
 ·show 0≤(if j < 64 then x j else 0)∧(if j < 64 then x j else 0) < 256
  split
  ·exact hx j
  ·exact ⟨Int.le_refl _,(by decide:(0:Int) < 256)⟩
 ·exact h p j
theorem by_chg {s:Sy} {a n v w:Int} {k:Nat} (h:ByS s):ByS (s.chg a n v w k).2:=by
 unfold Sy.chg
 split
 ·exact h
 ·split
  ·split
   ·exact h
   ·intro p j
    show 0≤Ac2 s.B _ _ p j∧Ac2 s.B _ _ p j < 256
    unfold Ac2;split
    ·exact ⟨Int.le_refl _,(by decide:(0:Int) < 256)⟩
    ·exact h p j
  ·exact h
theorem by_tk {a n:Nat} {L:List Vw} {s:Sy} {x:Nat→Int} (h:ByS s) (hx:∀ j,0≤x j∧x j < 256):ByS (tkP a n L s x).2.2:=by
 unfold tkP
 cases BI6 L a n with
 | none=>exact h
 | some f =>
  dsimp only
  split
  ·split
   ·exact by_page (by_chg h) hx
   ·exact by_chg h
  ·exact by_page h hx
theorem by_put (h:ByS b.s) {x t v:Int} (hv:0≤v∧v < 256):ByS (b.put x t v).2.s:=by
 unfold Bk.put
 split
 ·show ByS (b.s.write _ v).2
  unfold Sy.write
  split
  ·exact h
  ·split
   ·intro p j
    show 0≤AL2 b.s.B _ (J9 _ _ v) p j∧AL2 b.s.B _ (J9 _ _ v) p j < 256
    unfold AL2;split
    ·show 0≤(if j=_ then v else b.s.B _ j)∧(if j=_ then v else b.s.B _ j) < 256
     split
     ·exact hv
     ·exact h _ j
    ·exact h p j
   ·exact h
 ·exact h
theorem call_by (h:ByS b.s) (w:Nat) (x y t v:Int) (hv:0≤v∧v < 256) (l:List Rl):ByS (b.call w x y t v l).2.s:=by
 have h0:∀ j:Nat,0≤(0:Int)∧(0:Int) < 256:=fun _=>⟨Int.le_refl _,by decide⟩
 refine Ai9 (P:=fun c=>ByS c.s) w x y t v l h ?_ ?_ ?_ ?_ ?_ ?_ ?_
 ·unfold Bk.map;(repeat' split)<;>first|exact h|exact by_tk h h0
 ·unfold Bk.unmap
  split
  ·exact h
  ·split
   ·exact h
   ·dsimp only
    split
    ·exact BQ9 h
    ·exact h
 ·unfold Bk.take;(repeat' split)<;>exact h
 ·unfold Bk.drop;split
  ·exact h
  ·dsimp only
   exact BQ9 (G:=AC3 b.L x.toNat) h
 ·unfold Bk.revert
  split
  ·exact h
  split
  ·exact h
  split
  ·exact h
  dsimp only
  exact BQ9 (G:=AC3 b.L x.toNat) h
 ·have:=BD9 (b:=b) x t v
  generalize b.write x t v=q at this
  cases this with
  | no e h'=>exact h
  | own u hi hf hw=>exact by_put h hv
  | pr u hi hf hw h1=>exact by_put (b:=b.pr x.toNat (t.toNat / 64)) h hv
  | fr u r hi hf hw h1 hr he=>exact by_put (b:=b.fr x.toNat (t.toNat / 64) r) (by subst hr;exact by_tk h (h _)) hv
  | full u r hr he=>subst hr;exact by_tk h (h _)
 ·intro p j
  show 0≤(b.s.plan l).2.B p j∧(b.s.plan l).2.B p j < 256
  rw [plan_B];exact h p j
end
end Go.Pol
namespace Go.Pol
open Go.Am Go.Proofs.YtphggldkligldaaGreat.Sh
def hsO:Option Int→Int
 | some v=>v
 | none=>-1
def Bk.hs (b:Bk) (k p:Nat):Int:=hsO (b.rd k (p / 64) (p % 64))
def fol (H:Nat→Nat→Int) (w:Nat) (x y t v:Int):Option (Nat→Nat→Int) :=
 if 9 < w then some H else if ¬ inR 8 x then none else
 if w < 3 then (if ¬ inR 1024 y∨¬ (H x.toNat (y.toNat * 64) < 0 ↔ w < 2) then none else some fun k p=>if k=x.toNat∧p / 64=y.toNat then (if w=2 then -1 else 0) else H k p)
 else if w=3 then (if ¬ inR 8 y∨x=y then none else some fun k p=>if k=y.toNat then H x.toNat p else H k p)
 else if w=5 then (if ¬ inR 8 y∨x=y then none else some fun k p=>if k=x.toNat then H y.toNat p else H k p)
 else if w=4 then some fun k p=>if k=x.toNat then -1 else H k p
 else if ¬ inR 65536 t∨H x.toNat t.toNat < 0 then none else some fun k p=>if k=x.toNat∧p=t.toNat then v else H k p
def HsB (b:Bk) (H:Nat→Nat→Int):Prop:=∀ k p,k < 8→p < 65536→H k p=b.hs k p
section
variable {b:Bk}
theorem rd_none {a k j:Nat}:b.rd a k j=none ↔ Q6 b.L a k=none:=by
 unfold Bk.rd
 cases Q6 b.L a k<;>simp
theorem rd_by (hb:ByS b.s) {a k j:Nat} {v:Int} (h:b.rd a k j=some v):0≤v∧v < 256:=by
 unfold Bk.rd at h
 cases hf:Q6 b.L a k with
 | none=>rw [hf] at h;cases h
 | some u =>
  rw [hf] at h
  have : b.s.B u.2.2.1 j=v:=Option.some.inj h
  rw [← this];exact hb _ _
theorem hs_neg (hb:ByS b.s) {k p:Nat}:b.hs k p < 0 ↔ Q6 b.L k (p / 64)=none:=by
 unfold Bk.hs
 rw [← rd_none (j:=p % 64)]
 cases h:b.rd k (p / 64) (p % 64) with
 | none=>simp [hsO]
 | some v =>
  have:=rd_by hb h
  show v < 0 ↔ _
  simp;omega
theorem fol_ok (h:H6 b) (ho:AQ5 b) (hb:ByS b.s) {H:Nat→Nat→Int} (hH:HsB b H) {w:Nat} {x y t v:Int} {l:List Rl} (hx:x < 8) (hy:w=3∨w=5→y < 8) (he:(b.call w x y t v l).1=0) :
  ∃ H',fol H w x y t v=some H'∧HsB (b.call w x y t v l).2 H':=by
 unfold fol
 by_cases c9:9 < w
 ·rw [if_pos c9]
  refine ⟨H,rfl,?_⟩
  have hq:b.call w x y t v l=if w=13 then ((b.s.plan l).1,{ b with s:=(b.s.plan l).2 }) else (0,b):=by
   unfold Bk.call
   rw [if_neg (by omega),if_neg (by omega),if_neg (by omega),if_neg (by omega),if_neg (by omega),if_neg (by omega)]
  rw [hq]
  split
  ·intro k p hk hp
   rw [hH k p hk hp]
   unfold Bk.hs
   exact congrArg hsO (BF7 (b:=b) (b':={ b with s:=(b.s.plan l).2 }) rfl (fun v _=>by show (b.s.plan l).2.B _=_;rw [plan_B]) k (p / 64) (p % 64)).symm
  ·exact hH
 rw [if_neg c9]
 by_cases c2:w < 2
 ·have hq:b.call w x y t v l=b.map x y:=by unfold Bk.call;rw [if_pos c2]
  rw [hq] at he ⊢
  have hm:=fun a c j hj=>map_rd h x y he a c j hj
  obtain ⟨r1,r2,r3,_⟩:=hm 0 0 0 (by decide)
  have hx0:=r1.1;have hy0:=r2.1;have hy1:=r2.2
  rw [if_neg (fun hn=>hn ⟨hx0,hx⟩),if_pos (by omega),if_neg]
  ·refine ⟨_,rfl,fun k p hk hp=>?_⟩
   unfold Bk.hs
   rw [(hm k (p / 64) (p % 64) (by omega)).2.2.2]
   by_cases e:k=x.toNat∧p / 64=y.toNat
   ·rw [if_pos e,if_pos (show x.toNat=k∧y.toNat=p / 64 from ⟨e.1.symm,e.2.symm⟩),if_neg (show ¬ w=2 by omega)];rfl
   ·rw [if_neg e,if_neg fun e2=>e ⟨e2.1.symm,e2.2.symm⟩];exact hH k p hk hp
  ·rintro (hc|hc)
   ·exact hc r2
   ·refine hc ⟨fun _=>c2,fun _=>?_⟩
    rw [hH _ _ (by omega) (by omega),hs_neg hb,show y.toNat * 64 / 64=y.toNat by omega];exact r3
 by_cases c3:w=2
 ·have hq:b.call w x y t v l=b.unmap x y:=by unfold Bk.call;rw [if_neg c2,if_pos c3]
  rw [hq] at he ⊢
  have hm:=fun a c j=>unmap_rd h x y he a c j
  obtain ⟨r1,r2,r3,_⟩:=hm 0 0 0
  have hx0:=r1.1;have hy0:=r2.1;have hy1:=r2.2
  rw [if_neg (fun hn=>hn ⟨hx0,hx⟩),if_pos (by omega),if_neg]
  ·refine ⟨_,rfl,fun k p hk hp=>?_⟩
   unfold Bk.hs
   rw [(hm k (p / 64) (p % 64)).2.2.2]
   by_cases e:k=x.toNat∧p / 64=y.toNat
   ·rw [if_pos e,if_pos (show x.toNat=k∧y.toNat=p / 64 from ⟨e.1.symm,e.2.symm⟩),if_pos c3];rfl
   ·rw [if_neg e,if_neg fun e2=>e ⟨e2.1.symm,e2.2.symm⟩];exact hH k p hk hp
  ·rintro (hc|hc)
   ·exact hc r2
   ·refine hc ⟨fun hlt=>absurd ?_ r3,fun hlt=>absurd hlt c2⟩
    rw [hH _ _ (by omega) (by omega),hs_neg hb,show y.toNat * 64 / 64=y.toNat by omega] at hlt;exact hlt
 rw [if_neg (show ¬ w < 3 by omega)]
 by_cases c4:w=3
 ·have hq:b.call w x y t v l=(b.take x y).2:=by unfold Bk.call;rw [if_neg c2,if_neg c3,if_pos c4]
  rw [hq] at he ⊢
  obtain ⟨r1,r2,r3,r4⟩:=take_rd h x y he
  have hx0:=r1.1;have hy0:=r2.1
  rw [if_neg (fun hn=>hn ⟨hx0,hx⟩),if_pos c4,if_neg]
  ·refine ⟨_,rfl,fun k p hk hp=>?_⟩
   unfold Bk.hs
   rw [r4]
   by_cases e:k=y.toNat
   ·rw [if_pos e,if_pos e];exact hH _ p (by omega) hp
   ·rw [if_neg e,if_neg e];exact hH k p hk hp
  ·rintro (hc|hc)
   ·exact hc ⟨hy0,hy (.inl c4)⟩
   ·exact r3 hc
 rw [if_neg c4]
 by_cases c5:w=4
 ·have hq:b.call w x y t v l=(b.drop x).2:=by unfold Bk.call;rw [if_neg c2,if_neg c3,if_neg c4,if_pos c5]
  rw [hq] at he ⊢
  obtain ⟨r1,r4⟩:=drop_rd h x he
  have hx0:=r1.1
  rw [if_neg (fun hn=>hn ⟨hx0,hx⟩),if_neg (by omega),if_pos c5]
  refine ⟨_,rfl,fun k p hk hp=>?_⟩
  unfold Bk.hs
  rw [r4]
  by_cases e:k=x.toNat
  ·rw [if_pos e,if_pos e];rfl
  ·rw [if_neg e,if_neg e];exact hH k p hk hp
 by_cases c6:w=5
 ·have hq:b.call w x y t v l=(b.revert x y).2:=by unfold Bk.call;rw [if_neg c2,if_neg c3,if_neg c4,if_neg c5,if_pos c6]
  rw [hq] at he ⊢
  obtain ⟨r1,r2,r3,r4⟩:=revert_rd h x y he
  have hx0:=r1.1;have hy0:=r2.1
  rw [if_neg (fun hn=>hn ⟨hx0,hx⟩),if_pos c6,if_neg]
  ·refine ⟨_,rfl,fun k p hk hp=>?_⟩
   unfold Bk.hs
   rw [r4]
   by_cases e:k=x.toNat
   ·rw [if_pos e,if_pos e];exact hH _ p (by have:=hy (.inr c6);omega) hp
   ·rw [if_neg e,if_neg e];exact hH k p hk hp
  ·rintro (hc|hc)
   ·exact hc ⟨hy0,hy (.inr c6)⟩
   ·exact r3 hc
 rw [if_neg c6,if_neg c5]
 have hq:b.call w x y t v l=b.write x t v:=by unfold Bk.call;rw [if_neg c2,if_neg c3,if_neg c4,if_neg c5,if_neg c6,if_pos (show w < 10 by omega)]
 rw [hq] at he ⊢
 rcases wr_rd h ho x t v with hw|hn
 ·obtain ⟨⟨hx0,hx1⟩,ht⟩:=hw.hi
  have ht0:=ht.1;have ht1:=ht.2
  rw [if_neg (fun hn=>hn ⟨hx0,hx⟩),if_neg]
  ·refine ⟨_,rfl,fun k p hk hp=>?_⟩
   unfold Bk.hs
   rw [hw.rd _ _ _ (by omega)]
   by_cases e:k=x.toNat∧p=t.toNat
   ·rw [if_pos e,if_pos ⟨e.1.symm,by rw [e.2],by rw [e.2]⟩];rfl
   ·rw [if_neg e,if_neg fun e2=>e ⟨e2.1.symm,by omega⟩];exact hH k p hk hp
  ·rintro (hc|hc)
   ·exact hc ht
   ·rw [hH _ _ (by omega) (by omega),hs_neg hb] at hc
    have:=hw.was
    rw [hc] at this;cases this
 ·exact absurd he hn.e
theorem read_hs (h:H6 b) (hb:ByS b.s) {k:Nat} {t:Int} (hk:k < 8) (ht:inR 65536 t):((b.read (k:Nat) t).2=0 ↔ 0≤b.hs k t.toNat)∧((b.read (k:Nat) t).2=0→(b.read (k:Nat) t).1=b.hs k t.toNat):=by
 rw [read_rd h,if_pos ⟨⟨by omega,by omega⟩,ht⟩]
 unfold Bk.hs
 rw [show ((k:Nat):Int).toNat=k from rfl]
 cases hq:b.rd k (t.toNat / 64) (t.toNat % 64) with
 | none=>exact ⟨⟨fun hc=>absurd hc (by decide:¬ (220:Int)=0),fun hc=>absurd hc (by decide:¬ (0:Int) ≤ -1)⟩,fun hc=>absurd hc (by decide:¬ (220:Int)=0)⟩
 | some v=>exact ⟨⟨fun _=>(rd_by hb hq).1,fun _=>rfl⟩,fun _=>rfl⟩
end
end Go.Pol
namespace Go.Pol
open Go.Am Go.Proofs.YtphggldkligldaaGreat.Sh
theorem BQ7 {K:Nat→Int} {v:Int}:∀ n,AL4 K v n=((List.range n).filter fun p=>decide (K p=v)).length
 | 0=>rfl
 | n+1=>by
  rw [List.range_succ,List.filter_append,List.length_append,← BQ7 n]
  show AL4 K v n+(if K n=v then 1 else 0)=_
  by_cases e:K n=v
  ·rw [if_pos e,List.filter_cons_of_pos (by simpa using e)];rfl
  ·rw [if_neg e,List.filter_cons_of_neg (by simpa using e)];rfl
theorem AV6 {α:Type} {l:List α} {p:α→Bool} (h:∀ f ∈ l,p f=false):(l.filter p).length=0:=by
 rw [List.length_eq_zero_iff,List.filter_eq_nil_iff]
 intro f hf;rw [h f hf];decide
theorem BI7 {α:Type} {p q r:α→Bool}:∀ {l:List α},(∀ f ∈ l,(r f=true ↔ (p f=true∨q f=true))∧¬ (p f=true∧q f=true))→(l.filter r).length=(l.filter p).length+(l.filter q).length
 | [],_=>rfl
 | f::l,h=>by
  have ih:=BI7 (l:=l) fun g hg=>h g (List.mem_cons_of_mem _ hg)
  obtain ⟨h1,h2⟩:=h f (List.mem_cons_self ..)
  rw [List.filter_cons,List.filter_cons,List.filter_cons]
  cases hp:p f<;>cases hq:q f<;>cases hr:r f<;>simp_all<;>omega
theorem range_split {a n m:Nat} (h:a+n≤m):List.range m=List.range' 0 a++(List.range' a n++List.range' (a+n) (m - (a+n))):=by
 rw [List.range'_append_1]
 have:=List.range'_append_1 (s:=0) (m:=a) (n:=n+(m - (a+n)))
 rw [Nat.zero_add] at this
 rw [this,List.range_eq_range',show a+(n+(m - (a+n)))=m by omega]
section
variable {b:Bk}
theorem Aa2 (h:H6 b) (ho:OutB b) {v:Int} (hv:v ≠ 0):AL4 b.s.K v 1024=((List.range' b.a b.n).filter fun p=>decide (b.s.K p=v)).length:=by
 have hr:=h.rng
 rw [BQ7,range_split hr.2,List.filter_append,List.filter_append,List.length_append,List.length_append,AV6 (l:=List.range' 0 b.a),AV6 (l:=List.range' (b.a+b.n) _)]
 ·omega
 ·intro f hf
  rw [List.mem_range'_1] at hf
  rw [ho f (by omega)];simpa using Ne.symm hv
 ·intro f hf
  rw [List.mem_range'_1] at hf
  rw [ho f (by omega)];simpa using Ne.symm hv
theorem fits (h:H6 b) (ho:OutB b):AL4 b.s.K 2 1024=b.used+b.idle∧AL4 b.s.K 1 1024+(b.used+b.idle)=b.n:=by
 have e2:AL4 b.s.K 2 1024=b.used+b.idle:=by
  rw [Aa2 h ho (by decide)]
  refine BI7 fun f hf=>?_
  rw [List.mem_range'_1] at hf
  have:=h.used f
  simp only [decide_eq_true_eq]
  constructor
  ·constructor
   ·intro hk
    by_cases h0:cntF b.L f=0
    ·exact .inr ⟨h0,hk⟩
    ·exact .inl (by omega)
   ·rintro (h1|h1)
    ·exact (this h1).2.2
    ·exact h1.2
  ·rintro ⟨h1,h2,_⟩;omega
 refine ⟨e2,?_⟩
 rw [← e2,Aa2 h ho (by decide),Aa2 h ho (by decide)]
 have:=BI7 (l:=List.range' b.a b.n) (p:=fun p=>decide (b.s.K p=1)) (q:=fun p=>decide (b.s.K p=2)) (r:=fun _=>true) fun f hf=>by
  rw [List.mem_range'_1] at hf
  have:=(h.kind f hf.1 hf.2).1
  simp only [decide_eq_true_eq]
  exact ⟨⟨fun _=>this,fun _=>trivial⟩,fun h2=>by omega⟩
 rw [← this,List.filter_eq_self.2 fun _ _=>rfl,List.length_range']
theorem idle_no (ht:Aj8 b):b.idle=0:=AV6 fun f hf=>by
 rw [List.mem_range'_1] at hf
 have:=ht.no f hf.1 hf.2
 simp only [decide_eq_false_iff_not]
 rintro ⟨h1,h2⟩
 have:=this h2;omega
theorem used_nil (hL:b.L=[]):b.used=0∧b.many=0:=by
 constructor
 ·exact AV6 fun f _=>by rw [hL];rfl
 ·exact AV6 fun f _=>by rw [hL];rfl
def Bk.drops (b:Bk):Nat→Bk
 | 0=>b
 | m+1=>((b.drops m).drop (m:Nat)).2.2
theorem drop_zero (m:Nat) (hm:m < 64):(b.drop (m:Nat)).2.1=0:=by
 unfold Bk.drop
 rw [if_neg (fun hn=>hn ⟨by omega,by omega⟩)]
theorem drop_L (m:Nat) (hm:m < 64):(b.drop (m:Nat)).2.2.L=noA m b.L:=by
 unfold Bk.drop
 rw [if_neg (fun hn=>hn ⟨by omega,by omega⟩)];rfl
theorem BB4 (h:H6 b) (ho:OutB b) (ht:Aj8 b):∀ m,m≤64→H6 (b.drops m)∧OutB (b.drops m)∧Aj8 (b.drops m)∧∀ v ∈ (b.drops m).L,m≤v.1
 | 0,_=>⟨h,ho,ht,fun _ _=>Nat.zero_le _⟩
 | m+1,hm=>by
  obtain ⟨i1,i2,i3,i4⟩:=BB4 h ho ht m (by omega)
  refine ⟨Ah6 i1 (m:Nat),out_drop i1 i2 (m:Nat),BS2 i1 i3 (m:Nat),fun v hv=>?_⟩
  have hv:v ∈ ((b.drops m).drop (m:Nat)).2.2.L:=hv
  rw [drop_L m (by omega)] at hv
  obtain ⟨h1,h2⟩:=AA3.1 hv
  have:=i4 v h1;omega
theorem back (h:H6 b) (ho:OutB b) (ht:Aj8 b):(b.drops 64).used=0∧(b.drops 64).idle=0∧(b.drops 64).many=0∧AL4 (b.drops 64).s.K 2 1024=0∧(b.drops 64).L=[]:=by
 obtain ⟨i1,i2,i3,i4⟩:=BB4 h ho ht 64 (Nat.le_refl _)
 have hL:(b.drops 64).L=[]:=List.eq_nil_iff_forall_not_mem.2 fun v hv=>by
  have:=i4 v hv;have:=(i1.ok v hv).1;omega
 obtain ⟨u1,u2⟩:=used_nil hL
 have u3:=idle_no i3
 exact ⟨u1,u3,u2,by rw [(fits i1 i2).1,u1,u3],hL⟩
end
end Go.Pol
namespace Go.Pol
open Go.Am Go.Proofs.YtphggldkligldaaGreat.Sh
section
variable {b:Bk}
end
end Go.Pol
namespace Go.Pol
open Go.Am Go.Proofs.YtphggldkligldaaGreat.Sh
section
variable {b:Bk}
end
end Go.Pol
namespace Go.Pol
open Go.Am Go.Proofs.YtphggldkligldaaGreat.Sh
structure SpR (R:Nat→Nat→Option Int) (s:Sy):Prop where
 good:GoodS s
 l:s.l=[]
 M:∀ p,s.M p=false
 K:∀ p,8≤p→s.K p=0
 at_:∀ p,p < 8→(s.K p=1∧∀ j,j < 64→R p j=none)∨(s.K p=2∧∀ j,j < 64→R p j=some (s.B p j))
theorem SpR.congr {R R':Nat→Nat→Option Int} {s:Sy} (h:SpR R s) (e:∀ p j,p < 8→j < 64→R' p j=R p j):SpR R' s:=⟨h.good,h.l,h.M,h.K,fun p hp=>(h.at_ p hp).imp (fun h2=>⟨h2.1,fun j hj=>(e p j hp hj).trans (h2.2 j hj)⟩) fun h2=>⟨h2.1,fun j hj=>(e p j hp hj).trans (h2.2 j hj)⟩⟩
section
variable {R:Nat→Nat→Option Int} {s:Sy}
end
end Go.Pol
namespace Go.Pol
open Go.Am Go.Proofs.YtphggldkligldaaGreat.Sh
section
variable {b:Bk} {A:Nat→Sy}
end
end Go.Pol
namespace Go.Pol
open Go.Am Go.Proofs.YtphggldkligldaaGreat.Sh
theorem new_chg {l:List Rl} {a n:Int} (he:((Sy.new l).chg a n 0 1 0).1=0):(∀ p,((Sy.new l).chg a n 0 1 0).2.K p=if a.toNat≤p∧p < a.toNat+n.toNat then 1 else 0)∧(∀ p,((Sy.new l).chg a n 0 1 0).2.M p=false)∧(∀ p j,((Sy.new l).chg a n 0 1 0).2.B p j=0)∧((Sy.new l).chg a n 0 1 0).2.l=l:=by
 unfold Sy.chg at he ⊢
 split at he
 ·exact absurd he (by decide:¬ (7:Int)=0)
 rename_i c1
 rw [if_neg c1]
 split at he
 ·rename_i c2
  rw [if_pos c2]
  split at he
  ·exact absurd he (by decide:¬ (60:Int)=0)
  ·rename_i c3
   rw [if_neg c3]
   refine ⟨fun p=>?_,fun p=>rfl,fun p j=>?_,rfl⟩
   ·show Ac6 (Sy.new l).K _ _ 1 p=_
    unfold Ac6;rfl
   ·show Ac2 (Sy.new l).B _ _ p j=0
    unfold Ac2;split<;>rfl
 ·exact absurd he (by decide:¬ (9:Int)=0)
theorem BO3 {l:List Rl} {a n:Int} (hc:(AJ8 l).2=0) (hi:0≤a∧1≤n∧a+n≤1024) (he:((Sy.new l).chg a n 0 1 0).1=0) (b:Bk) (hb:b=⟨a.toNat,n.toNat,[],((Sy.new l).chg a n 0 1 0).2⟩):H6 b∧OutB b∧AQ5 b∧ByS b.s∧(l=[]→Aj8 b):=by
 obtain ⟨k1,k2,k3,k4⟩:=new_chg he
 subst hb
 refine ⟨⟨Ar8 (Ar7 hc) (by decide),⟨by show 1≤n.toNat;omega,by show a.toNat+n.toNat≤1024;omega⟩,fun f h1 h2=>⟨.inl ?_,k2 f⟩,fun f hf=>absurd (show 0 < 0 from hf) (Nat.lt_irrefl 0),List.Pairwise.nil,fun v hv=>(by cases hv),Nat.zero_le _⟩,fun p hp=>?_,fun v hv=>(by cases hv),fun p j=>?_,fun hl=>⟨?_,fun f h1 h2 hk=>?_⟩⟩
 ·show ((Sy.new l).chg a n 0 1 0).2.K f=1
  rw [k1,if_pos ⟨h1,h2⟩]
 ·show ((Sy.new l).chg a n 0 1 0).2.K p=0
  rw [k1,if_neg hp]
 ·show 0≤((Sy.new l).chg a n 0 1 0).2.B p j∧((Sy.new l).chg a n 0 1 0).2.B p j < 256
  rw [k3];decide
 ·exact k4.trans hl
 ·have hk:((Sy.new l).chg a n 0 1 0).2.K f=2:=hk
  rw [k1,if_pos ⟨h1,h2⟩] at hk
  exact absurd hk (by decide)
end Go.Pol
namespace Go.Pol
open Go.Am Go.Proofs.YtphggldkligldaaGreat.Sh
def wrK (s:Sy) (f:Nat) (x:Nat→Int) (k:Nat):Sy:={ s with B:=AL2 s.B f fun j=>if j < k then x j else s.B f j }
theorem wrK_0 {s:Sy} {f:Nat} {x:Nat→Int}:wrK s f x 0=s:=by
 unfold wrK
 have : AL2 s.B f (fun j=>if j < 0 then x j else s.B f j)=s.B:=funext fun p=>by
  unfold AL2
  split
  ·rename_i e;subst e;exact funext fun j=>if_neg (by omega)
  ·rfl
 rw [this]
theorem wrK_K {s:Sy} {f:Nat} {x:Nat→Int} {k:Nat}:(wrK s f x k).K=s.K:=rfl
theorem wrK_s {s:Sy} {f:Nat} {x:Nat→Int} {k:Nat} (hk:s.K f=2) (hf:f < 1024) (hj:k < 64):(wrK s f x k).write ((f:Int) * 64+(k:Nat)) (x k)=(0,wrK s f x (k+1)):=by
 unfold Sy.write
 have h1:((f:Int) * 64+(k:Nat)).toNat / 64=f:=by omega
 have h2:((f:Int) * 64+(k:Nat)).toNat % 64=k:=by omega
 rw [if_neg (by omega),h1,h2,wrK_K,if_pos hk]
 unfold wrK
 dsimp only
 have : AL2 (AL2 s.B f fun j=>if j < k then x j else s.B f j) f (J9 (AL2 s.B f (fun j=>if j < k then x j else s.B f j) f) k (x k))=AL2 s.B f fun j=>if j < k+1 then x j else s.B f j:=funext fun p=>by
  unfold AL2
  by_cases e:p=f
  ·rw [if_pos e,if_pos e,if_pos rfl]
   refine funext fun j=>?_
   unfold J9
   by_cases h3:j=k
   ·subst h3;rw [if_pos rfl,if_pos (by omega)]
   ·rw [if_neg h3]
    show (if j < k then x j else s.B f j)=if j < k+1 then x j else s.B f j
    by_cases h4:j < k
    ·rw [if_pos h4,if_pos (by omega)]
    ·rw [if_neg h4,if_neg (by omega)]
  ·rw [if_neg e,if_neg e,if_neg e]
 rw [this]
theorem wrK_all {s:Sy} (hg:GoodS s) {f:Nat} {x:Nat→Int}:wrK s f x 64=s.page f x:=by
 unfold wrK Sy.page
 have : (fun j=>if j < 64 then x j else s.B f j)=fun j=>if j < 64 then x j else 0:=funext fun j=>by
  by_cases h:j < 64
  ·rw [if_pos h,if_pos h]
  ·rw [if_neg h,if_neg h,hg.cB f j (by omega)]
 rw [this]
theorem read_at {s:Sy} {f k:Nat} (hk:s.K f=2) (hf:f < 1024) (hj:k < 64):s.read ((f:Int) * 64+(k:Nat))=(s.B f k,0):=by
 unfold Sy.read
 rw [if_neg (by omega),show ((f:Int) * 64+(k:Nat)).toNat / 64=f by omega,show ((f:Int) * 64+(k:Nat)).toNat % 64=k by omega,if_pos hk]
theorem Aw9 {a n i:Nat} (h:i≤n):List.range' a n=List.range' a i++List.range' (a+i) (n - i):=by
 rw [List.range'_append_1,Nat.add_sub_cancel' h]
theorem free_at {L:List Vw} {a n i:Nat} (hi:i < n) (h1:∀ j,j < i→0 < cntF L (a+j)) (h2:cntF L (a+i)=0):BI6 L a n=some (a+i):=by
 unfold BI6
 rw [Aw9 (Nat.le_of_lt hi),List.find?_append]
 have e1:(List.range' a i).find? (fun f=>decide (cntF L f=0))=none:=List.find?_eq_none.2 fun f hf=>by
  rw [List.mem_range'_1] at hf
  have:=h1 (f - a) (by omega)
  rw [show a+(f - a)=f by omega] at this
  simp;omega
 obtain ⟨m,hm⟩:∃ m,n - i=m+1:=⟨n - i - 1,by omega⟩
 rw [e1,hm,List.range'_succ,List.find?_cons,decide_eq_true h2]
 rfl
theorem free_not {L:List Vw} {a n:Nat} (h:∀ j,j < n→0 < cntF L (a+j)):BI6 L a n=none:=List.find?_eq_none.2 fun f hf=>by
 rw [List.mem_range'_1] at hf
 have:=h (f - a) (by omega)
 rw [show a+(f - a)=f by omega] at this
 simp;omega
def BD6 (p:Nat→Bool) (a i:Nat):Nat:=((List.range' a i).filter p).length
theorem cntR_s {p:Nat→Bool} {a i:Nat}:BD6 p a (i+1)=BD6 p a i+if p (a+i) then 1 else 0:=by
 unfold BD6
 rw [Aw9 (Nat.le_add_right i 1),List.filter_append,List.length_append,Nat.add_sub_cancel_left]
 by_cases h:p (a+i)<;>simp [List.range'_succ,h]
theorem BJ8 {p:Nat→Bool} {a i:Nat}:BD6 p a i≤i:=Nat.le_trans (List.length_filter_le ..) (by rw [List.length_range'];exact Nat.le_refl _)
theorem used_R (b:Bk):b.used=BD6 (fun f=>decide (0 < cntF b.L f)) b.a b.n:=rfl
theorem idle_R (b:Bk):b.idle=BD6 (fun f=>decide (cntF b.L f=0∧b.s.K f=2)) b.a b.n:=rfl
theorem many_R (b:Bk):b.many=BD6 (fun f=>decide (1 < cntF b.L f)) b.a b.n:=rfl
def sh0:Bk:=⟨8,2,[],((Sy.new []).chg 8 2 0 1 0).2⟩
def sh1:Bk:=(sh0.map 0 3).2
def sh2:Bk:=(sh1.write 0 192 7).2
def sh3:Bk:=(sh2.take 0 1).2.2
def sh4:Bk:=(sh3.write 0 192 8).2
def sh5:Bk:=(sh4.take 1 2).2.2
def sh6:Bk:=(sh5.write 2 192 9).2
def sh7:Bk:=(sh6.drop 0).2.2
def sh8:Bk:=(sh7.write 2 192 9).2
set_option maxRecDepth 100000 in
theorem sh_0:((Sy.new []).chg 8 2 0 1 0).1=0:=by decide +kernel
set_option maxRecDepth 100000 in
theorem sh_1:(sh0.map 0 3).1=0:=by decide +kernel
set_option maxRecDepth 100000 in
theorem sh_2:(sh1.write 0 192 7).1=0:=by decide +kernel
set_option maxRecDepth 100000 in
theorem sh_3:(sh2.take 0 1).1=1∧(sh2.take 0 1).2.1=0:=by decide +kernel
set_option maxRecDepth 100000 in
theorem sh_4:(sh3.write 0 192 8).1=0:=by decide +kernel
set_option maxRecDepth 100000 in
theorem sh_r4:sh4.read 1 192=(7,0):=by decide +kernel
set_option maxRecDepth 100000 in
theorem sh_c4:sh4.used=2∧sh4.idle=0∧sh4.many=0:=by decide +kernel
set_option maxRecDepth 100000 in
theorem sh_d4:sh4.differ 0 1=([3],0):=by decide +kernel
set_option maxRecDepth 100000 in
theorem sh_5:(sh4.take 1 2).1=1∧(sh4.take 1 2).2.1=0:=by decide +kernel
set_option maxRecDepth 100000 in
theorem sh_6:(sh5.write 2 192 9).1=5:=by decide +kernel
set_option maxRecDepth 100000 in
theorem sh_7:(sh6.drop 0).1=1∧(sh6.drop 0).2.1=0:=by decide +kernel
set_option maxRecDepth 100000 in
theorem sh_8:(sh7.write 2 192 9).1=0:=by decide +kernel
set_option maxRecDepth 100000 in
theorem sh_r8:sh8.read 1 192=(7,0):=by decide +kernel
end Go.Pol
