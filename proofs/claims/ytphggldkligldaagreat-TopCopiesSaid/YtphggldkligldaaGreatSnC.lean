/-
 A book of spaces,plain: views that may be written are alone;what a write does.
 A book of spaces,plain: what a space reads after a write.
 A book of spaces,plain: any call keeps a good book;bytes are bytes.
 A book of spaces,plain: what each space has,followed without the book (SnapshotBytes).
-/
import Derived.Test.YtphggldkligldaaGreatSnB
set_option linter.unusedSimpArgs false
set_option linter.unusedVariables false
namespace Go.Pol
open Go.Am Go.Proofs.YtphggldkligldaaGreat.Sh
def OwnB (b:Bk):Prop:=∀ v ∈ b.L,v.2.2.2=true→∀ w ∈ b.L,w.2.2.1=v.2.2.1→w=v
theorem cnt_one {L:List Vw} {v w:Vw} (h:cntF L v.2.2.1=1) (hv:v ∈ L) (hw:w ∈ L) (e:w.2.2.1=v.2.2.1):w=v:=by
 unfold cntF at h
 obtain ⟨u,hu⟩:=List.length_eq_one_iff.1 h
 have h1:v ∈ [u]:=hu▸List.mem_filter.2 ⟨hv,by simp⟩
 have h2:w ∈ [u]:=hu▸List.mem_filter.2 ⟨hw,by simpa using e⟩
 rw [List.mem_singleton.1 h1,List.mem_singleton.1 h2]
theorem set_at {g:Vw→Vw} {L:List Vw} {u v:Vw} (hs:srt L) (hu:u ∈ L):v ∈ setL g u.1 u.2.1 L ↔ v=g u∨(v ∈ L∧v ≠ u):=by
 rw [set_mem]
 constructor
 ·rintro ⟨w,hw,rfl⟩
  by_cases e:atV (u.1,u.2.1) w
  ·rw [if_pos e,srt_uniq hs hw hu e.1 e.2];exact .inl rfl
  ·rw [if_neg e];exact .inr ⟨hw,fun e2=>e (by rw [e2];exact ⟨rfl,rfl⟩)⟩
 ·rintro (rfl | ⟨hv,hne⟩)
  ·exact ⟨u,hu,by rw [if_pos ⟨rfl,rfl⟩]⟩
  ·exact ⟨v,hv,by rw [if_neg fun e=>hne (srt_uniq hs hv hu e.1 e.2)]⟩
section
variable {b:Bk}
theorem own_sub {b':Bk} (ho:OwnB b) (hs:∀ v ∈ b'.L,v ∈ b.L):OwnB b':=fun v hv hw w hwm e=>ho v (hs v hv) hw w (hs w hwm) e
theorem own_map (h:GoodB b) (ho:OwnB b) (x k:Int):OwnB (b.map x k).2:=by
 unfold Bk.map
 split
 ·exact ho
 split
 ·exact ho
 split
 ·exact ho
 have tk:=h.tk fun _=>0
 split
 ·rename_i he
  obtain ⟨u1,u2,u3,u4,u5⟩:=tk.got he
  intro v hv hvw w hw e
  dsimp only at hv hw
  generalize tkP b.a b.n b.L b.s (fun _=>0)=r at *
  have hno:∀ u ∈ b.L,u.2.2.1 ≠ r.2.1:=fun u hu e2=>by
   have:=cnt_posE.2 ⟨u,hu,e2⟩;omega
  rcases mem_ins.1 hv with rfl|hv
  ·rcases mem_ins.1 hw with rfl|hw
   ·rfl
   ·exact absurd e (hno w hw)
  ·rcases mem_ins.1 hw with rfl|hw
   ·exact absurd e.symm (hno v hv)
   ·exact ho v hv hvw w hw e
 ·exact ho
theorem own_unmap (ho:OwnB b) (x k:Int):OwnB (b.unmap x k).2:=by
 unfold Bk.unmap
 split
 ·exact ho
 cases hf:fndL b.L x.toNat k.toNat with
 | none=>exact ho
 | some v=>exact own_sub ho fun u hu=>(mem_del.1 hu).1
theorem own_frk {b':Bk} {x y:Nat} {L:List Vw} (hL:b'.L=frkL x y L) (ho:∀ v ∈ L,v.2.2.2=true→∀ w ∈ L,w.2.2.1=v.2.2.1→w=v):OwnB b':=by
 intro v hv hvw w hw e
 rw [hL] at hv hw
 rcases frk_mem.1 hv with ⟨u,hu,rfl⟩ | ⟨u,hu,h1,rfl⟩
 ·have hu2:u.2.2.2=true∧u.1 ≠ x:=by
   have : (u.2.2.2 && !decide (u.1=x))=true:=hvw
   simpa using this
  rcases frk_mem.1 hw with ⟨z,hz,rfl⟩ | ⟨z,hz,h1,rfl⟩
  ·rw [ho u hu hu2.1 z hz e]
  ·have:=ho u hu hu2.1 z hz e
   exact absurd (this▸h1) hu2.2
 ·exact absurd hvw (by show ¬ false=true;decide)
theorem own_take (ho:OwnB b) (x y:Int):OwnB (b.take x y).2.2:=by
 unfold Bk.take
 split
 ·exact ho
 split
 ·exact ho
 split
 ·exact ho
 split
 ·exact ho
 exact own_frk rfl ho
theorem own_drop (ho:OwnB b) (x:Int):OwnB (b.drop x).2.2:=by
 unfold Bk.drop
 split
 ·exact ho
 ·exact own_sub ho fun u hu=>(mem_noA.1 hu).1
theorem own_revert (ho:OwnB b) (x y:Int):OwnB (b.revert x y).2.2:=by
 unfold Bk.revert
 split
 ·exact ho
 split
 ·exact ho
 split
 ·exact ho
 exact own_frk rfl fun v hv hvw w hw e=>ho v (mem_noA.1 hv).1 hvw w (mem_noA.1 hw).1 e
theorem put_L (x t v:Int):(b.put x t v).2.L=b.L:=by unfold Bk.put;split<;>rfl
theorem own_set {L:List Vw} {u g:Vw} (ho:∀ v ∈ L,v.2.2.2=true→∀ w ∈ L,w.2.2.1=v.2.2.1→w=v) (hg:∀ w ∈ L,w ≠ u→w.2.2.1 ≠ g.2.2.1) {v w:Vw} (hv:v=g∨(v ∈ L∧v ≠ u)) (hvw:v.2.2.2=true) (hw:w=g∨(w ∈ L∧w ≠ u)) (e:w.2.2.1=v.2.2.1):w=v:=by
 rcases hv with rfl | ⟨hv,hvu⟩
 ·rcases hw with rfl | ⟨hw,hwu⟩
  ·rfl
  ·exact absurd e (hg w hw hwu)
 ·rcases hw with rfl | ⟨hw,hwu⟩
  ·exact absurd e.symm (hg v hv hvu)
  ·exact ho v hv hvw w hw e
def Bk.pr (b:Bk) (x k:Nat):Bk:={ b with L:=setL (prV true) x k b.L }
def Bk.fr (b:Bk) (x k:Nat) (r:Int × Nat × Sy):Bk:={ b with L:=setL (frV r.2.1) x k b.L,s:=r.2.2 }
theorem own_pr (h:GoodB b) (ho:OwnB b) {x k:Nat} {u:Vw} (hf:fndL b.L x k=some u) (h1:cntF b.L u.2.2.1=1):OwnB (b.pr x k):=by
 obtain ⟨hu,ha⟩:=fnd_some hf
 have ha1:u.1=x:=ha.1
 have ha2:u.2.1=k:=ha.2
 intro p hp hpw q hq e
 have hp:p ∈ setL (prV true) x k b.L:=hp
 have hq:q ∈ setL (prV true) x k b.L:=hq
 rw [← ha1,← ha2] at hp hq
 exact own_set (u:=u) (g:=prV true u) ho (fun w hw hne e2=>hne (cnt_one h1 hu hw e2)) ((set_at h.sr hu).1 hp) hpw ((set_at h.sr hu).1 hq) e
theorem own_fr (h:GoodB b) (ho:OwnB b) {x k:Nat} {u:Vw} (hf:fndL b.L x k=some u) {r:Int × Nat × Sy} (h0:cntF b.L r.2.1=0):OwnB (b.fr x k r):=by
 obtain ⟨hu,ha⟩:=fnd_some hf
 have ha1:u.1=x:=ha.1
 have ha2:u.2.1=k:=ha.2
 intro p hp hpw q hq e
 have hp:p ∈ setL (frV r.2.1) x k b.L:=hp
 have hq:q ∈ setL (frV r.2.1) x k b.L:=hq
 rw [← ha1,← ha2] at hp hq
 refine own_set (u:=u) (g:=frV r.2.1 u) ho (fun w hw hne e2=>?_) ((set_at h.sr hu).1 hp) hpw ((set_at h.sr hu).1 hq) e
 have:=cnt_posE.2 ⟨w,hw,e2⟩
 have e3:(frV r.2.1 u).2.2.1=r.2.1:=rfl
 rw [e3] at this;omega
inductive WrS (b:Bk) (x t v:Int):Int × Bk→Prop
 | no (e:Int) (h:e ≠ 0):WrS b x t v (e,b)
 | own (u:Vw) (hi:inR 64 x∧inR 65536 t) (hf:fndL b.L x.toNat (t.toNat / 64)=some u) (hw:u.2.2.2=true):WrS b x t v (b.put x t v)
 | pr (u:Vw) (hi:inR 64 x∧inR 65536 t) (hf:fndL b.L x.toNat (t.toNat / 64)=some u) (hw:u.2.2.2=false) (h1:cntF b.L u.2.2.1=1):WrS b x t v ((b.pr x.toNat (t.toNat / 64)).put x t v)
 | fr (u:Vw) (r:Int × Nat × Sy) (hi:inR 64 x∧inR 65536 t) (hf:fndL b.L x.toNat (t.toNat / 64)=some u) (hw:u.2.2.2=false) (h1:cntF b.L u.2.2.1 ≠ 1) (hr:r=tkP b.a b.n b.L b.s (b.s.B u.2.2.1)) (he:r.1=0):WrS b x t v ((b.fr x.toNat (t.toNat / 64) r).put x t v)
 | full (u:Vw) (r:Int × Nat × Sy) (hr:r=tkP b.a b.n b.L b.s (b.s.B u.2.2.1)) (he:r.1 ≠ 0):WrS b x t v (r.1,{ b with s:=r.2.2 })
theorem wr_spec (x t v:Int):WrS b x t v (b.write x t v):=by
 unfold Bk.write
 split
 ·exact .no 7 (by decide)
 rename_i hi
 have hi:inR 64 x∧inR 65536 t:=Classical.not_not.1 hi
 cases hf:fndL b.L x.toNat (t.toNat / 64) with
 | none=>exact .no 220 (by decide)
 | some u =>
  dsimp only
  split
  ·rename_i hw;exact .own u hi hf hw
  ·rename_i hw
   have hw:u.2.2.2=false:=by simpa using hw
   split
   ·rename_i h1;exact .pr u hi hf hw h1
   ·rename_i h1
    split
    ·rename_i he;exact .fr u _ hi hf hw h1 rfl he
    ·rename_i he;exact .full u _ rfl he
theorem own_put (x t v:Int) (h:OwnB b):OwnB (b.put x t v).2:=own_sub h fun w hw=>by rwa [put_L] at hw
theorem own_write (h:GoodB b) (ho:OwnB b) (x t v:Int):OwnB (b.write x t v).2:=by
 have:=wr_spec (b:=b) x t v
 generalize b.write x t v=q at this
 cases this with
 | no e h=>exact ho
 | own u hi hf hw=>exact own_put x t v ho
 | pr u hi hf hw h1=>exact own_put x t v (own_pr h ho hf h1)
 | fr u r hi hf hw h1 hr he=>exact own_put x t v (own_fr h ho hf (by subst hr;exact ((h.tk _).got he).2.2.1))
 | full u r hr he=>exact ho
theorem where_yes {x t:Int} {w:Bool} {u:Vw} (hi:inR 64 x∧inR 65536 t) (hf:fndL b.L x.toNat (t.toNat / 64)=some u) (hw:w=true→u.2.2.2=true):b.where_ x t w=(((u.2.2.1 * 64+t.toNat % 64:Nat):Int),0):=by
 unfold Bk.where_
 rw [if_neg (fun hn=>hn hi),hf]
 dsimp only
 rw [if_neg fun hc=>by rw [hw hc.1] at hc;exact absurd hc.2 (by decide)]
theorem read_yes (h:GoodB b) {x t:Int} {u:Vw} (hi:inR 64 x∧inR 65536 t) (hf:fndL b.L x.toNat (t.toNat / 64)=some u):b.read x t=(b.s.B u.2.2.1 (t.toNat % 64),0):=by
 obtain ⟨hu,_⟩:=fnd_some hf
 obtain ⟨w1,w2,w3⟩:=h.view hu
 have hr:=h.rng
 have hok:=h.ok u hu
 unfold Bk.read
 rw [where_yes hi hf (by simp),if_pos rfl]
 unfold Sy.read
 dsimp only
 rw [if_neg (by omega),show ((u.2.2.1 * 64+t.toNat % 64:Nat):Int).toNat / 64=u.2.2.1 by omega,if_pos w3,show ((u.2.2.1 * 64+t.toNat % 64:Nat):Int).toNat % 64=t.toNat % 64 by omega]
theorem read_rd (h:GoodB b) (x t:Int):b.read x t=if inR 64 x∧inR 65536 t then (match b.rd x.toNat (t.toNat / 64) (t.toNat % 64) with|some v=>((v,0):Int × Int)|none=>(0,220)) else (0,7):=by
 by_cases hi:inR 64 x∧inR 65536 t
 ·rw [if_pos hi]
  unfold Bk.rd
  cases hf:fndL b.L x.toNat (t.toNat / 64) with
  | none =>
   have hw:b.where_ x t false=(0,220):=by unfold Bk.where_;rw [if_neg (fun hn=>hn hi),hf]
   unfold Bk.read
   rw [hw,if_neg (by decide)];rfl
  | some u=>rw [read_yes h hi hf];rfl
 ·rw [if_neg hi]
  have hw:b.where_ x t false=(0,7):=by unfold Bk.where_;rw [if_pos hi]
  unfold Bk.read
  rw [hw,if_neg (by decide)]
def Bk.byte (b:Bk) (f i:Nat) (v:Int):Bk:={ b with s:={ b.s with B:=updP b.s.B f (updI (b.s.B f) i v) } }
theorem put_yes (hok:GoodS b.s) {x t v:Int} {u:Vw} (hi:inR 64 x∧inR 65536 t) (hf:fndL b.L x.toNat (t.toNat / 64)=some u) (hw:u.2.2.2=true) (hlt:u.2.2.1 < 1024) (hk:b.s.K u.2.2.1=2):b.put x t v=(0,b.byte u.2.2.1 (t.toNat % 64) v):=by
 unfold Bk.put
 rw [where_yes hi hf (fun _=>hw),if_pos rfl]
 have : b.s.write ((u.2.2.1 * 64+t.toNat % 64:Nat):Int) v=(0,{ b.s with B:=updP b.s.B u.2.2.1 (updI (b.s.B u.2.2.1) (t.toNat % 64) v) }):=by
  unfold Sy.write
  rw [if_neg (by omega),show ((u.2.2.1 * 64+t.toNat % 64:Nat):Int).toNat / 64=u.2.2.1 by omega,if_pos hk,show ((u.2.2.1 * 64+t.toNat % 64:Nat):Int).toNat % 64=t.toNat % 64 by omega]
 dsimp only
 rw [this];rfl
end
end Go.Pol
namespace Go.Pol
open Go.Am Go.Proofs.YtphggldkligldaaGreat.Sh
section
variable {b:Bk}
theorem byte_rd (ho:OwnB b) {x k i:Nat} {v:Int} {u:Vw} (hf:fndL b.L x k=some u) (hw:u.2.2.2=true) (a c j:Nat):(b.byte u.2.2.1 i v).rd a c j=if x=a∧k=c∧i=j then some v else b.rd a c j:=by
 obtain ⟨hu,hua⟩:=fnd_some hf
 unfold Bk.rd Bk.byte
 dsimp only
 cases hq:fndL b.L a c with
 | none =>
  rw [if_neg]
  ·simp only [Option.map_none]
  ·rintro ⟨rfl,rfl,_⟩;rw [hf] at hq;cases hq
 | some w =>
  obtain ⟨hwm,hwa⟩:=fnd_some hq
  simp only [Option.map_some]
  by_cases e:w.2.2.1=u.2.2.1
  ·have:=ho u hu hw w hwm e
   subst this
   have e1:x=a:=hua.1.symm.trans hwa.1
   have e2:k=c:=hua.2.symm.trans hwa.2
   have e3:updP b.s.B w.2.2.1 (updI (b.s.B w.2.2.1) i v) w.2.2.1 j=if j=i then v else b.s.B w.2.2.1 j:=by unfold updP;rw [if_pos rfl];rfl
   rw [e3]
   by_cases e4:i=j
   ·rw [if_pos e4.symm,if_pos ⟨e1,e2,e4⟩]
   ·rw [if_neg (Ne.symm e4),if_neg fun h=>e4 h.2.2]
  ·rw [if_neg]
   ·unfold updP;rw [if_neg e]
   ·rintro ⟨rfl,rfl,_⟩;rw [hf] at hq;cases hq;exact e rfl
theorem pr_fnd (h:GoodB b) {x k:Nat} {u:Vw} (hf:fndL b.L x k=some u):fndL (b.pr x k).L x k=some (prV true u):=by
 show fndL (setL (prV true) x k b.L) x k=_
 rw [fnd_set (g:=prV true) h.sr (fun v=>⟨rfl,rfl⟩),hf]
 simp only [Option.map_some,and_self,if_true]
theorem pr_rd (h:GoodB b) (x k a c j:Nat):(b.pr x k).rd a c j=b.rd a c j:=rd_of (b:=b) (b':=b.pr x k) (g:=fun v=>if x=a∧k=c then prV true v else v) (fnd_set (g:=prV true) h.sr (fun v=>⟨rfl,rfl⟩) x k a c) fun v _ _ _=>by
 show b.s.B (if x=a∧k=c then prV true _ else _).2.2.1 _=_
 split<;>rfl
theorem fr_fnd (h:GoodB b) {x k:Nat} {u:Vw} (hf:fndL b.L x k=some u) (r:Int × Nat × Sy):fndL (b.fr x k r).L x k=some (frV r.2.1 u):=by
 show fndL (setL (frV r.2.1) x k b.L) x k=_
 rw [fnd_set (g:=frV r.2.1) h.sr (fun v=>⟨rfl,rfl⟩),hf]
 simp only [Option.map_some,and_self,if_true]
theorem fr_rd (h:GoodB b) {x k:Nat} {u:Vw} (hf:fndL b.L x k=some u) {r:Int × Nat × Sy} (hr:r=tkP b.a b.n b.L b.s (b.s.B u.2.2.1)) (he:r.1=0) (a c j:Nat) (hj:j < 64):(b.fr x k r).rd a c j=b.rd a c j:=by
 have tk:=h.tk (b.s.B u.2.2.1)
 rw [← hr] at tk
 obtain ⟨u1,u2,u3,u4,u5⟩:=tk.got he
 refine rd_of (b:=b) (b':=b.fr x k r) (g:=fun v=>if x=a∧k=c then frV r.2.1 v else v) (fnd_set (g:=frV r.2.1) h.sr (fun v=>⟨rfl,rfl⟩) x k a c) fun v hv h1 h2=>?_
 show r.2.2.B (if x=a∧k=c then frV r.2.1 v else v).2.2.1 j=_
 split
 ·rename_i e
  have : v=u:=by
   have:=fnd_of h.sr hv h1 h2
   rw [← e.1,← e.2,hf] at this
   exact (Option.some.inj this).symm
  subst this
  exact u5 j hj
 ·exact congrFun (tk.old _ (cnt_posE.2 ⟨v,hv,rfl⟩)) j
theorem view_of (h:GoodB b) {u:Vw} (hu:u ∈ b.L):u.2.2.1 < 1024∧b.s.K u.2.2.1=2:=by
 obtain ⟨w1,w2,w3⟩:=h.view hu
 exact ⟨(h.ok u hu).2.2,w3⟩
structure WrY (b:Bk) (x t v:Int) (q:Int × Bk):Prop where
 e:q.1=0
 hi:inR 64 x∧inR 65536 t
 was:(fndL b.L x.toNat (t.toNat / 64)).isSome=true
 rd:∀ a c j,j < 64→q.2.rd a c j=if x.toNat=a∧t.toNat / 64=c∧t.toNat % 64=j then some v else b.rd a c j
structure WrN (b:Bk) (q:Int × Bk):Prop where
 e:q.1 ≠ 0
 L:q.2.L=b.L
 B:∀ f,0 < cntF b.L f→q.2.s.B f=b.s.B f
theorem wr_rd (h:GoodB b) (ho:OwnB b) (x t v:Int):WrY b x t v (b.write x t v)∨WrN b (b.write x t v):=by
 have hs:=wr_spec (b:=b) x t v
 generalize b.write x t v=q at hs
 cases hs with
 | no e he=>exact .inr ⟨he,rfl,fun _ _=>rfl⟩
 | own u hi hf hw =>
  obtain ⟨hu,_⟩:=fnd_some hf
  obtain ⟨k1,k2⟩:=view_of h hu
  rw [put_yes h.good hi hf hw k1 k2]
  exact .inl ⟨rfl,hi,by rw [hf];rfl,fun a c j _=>byte_rd ho hf hw a c j⟩
 | pr u hi hf hw h1 =>
  obtain ⟨hu,_⟩:=fnd_some hf
  obtain ⟨k1,k2⟩:=view_of h hu
  have hf2:=pr_fnd h hf
  rw [put_yes (b:=b.pr x.toNat (t.toNat / 64)) h.good hi hf2 rfl k1 k2]
  refine .inl ⟨rfl,hi,by rw [hf];rfl,fun a c j _=>?_⟩
  rw [← pr_rd h x.toNat (t.toNat / 64) a c j]
  exact byte_rd (own_pr h ho hf h1) hf2 rfl a c j
 | fr u r hi hf hw h1 hr he =>
  have tk:=h.tk (b.s.B u.2.2.1)
  rw [← hr] at tk
  obtain ⟨u1,u2,u3,u4,u5⟩:=tk.got he
  have hrg:=h.rng
  have hf2:=fr_fnd h hf r
  rw [put_yes (b:=b.fr x.toNat (t.toNat / 64) r) tk.good hi hf2 rfl (show r.2.1 < 1024 by omega) u4]
  refine .inl ⟨rfl,hi,by rw [hf];rfl,fun a c j hj=>?_⟩
  rw [← fr_rd h hf hr he a c j hj]
  exact byte_rd (own_fr h ho hf u3) hf2 rfl a c j
 | full u r hr he =>
  have tk:=h.tk (b.s.B u.2.2.1)
  rw [← hr] at tk
  exact .inr ⟨he,rfl,tk.old⟩
end
end Go.Pol
namespace Go.Pol
open Go.Am Go.Proofs.YtphggldkligldaaGreat.Sh
def Bk.call (b:Bk) (w:Nat) (x y t v:Int) (l:List Rl):Int × Bk :=
 if w < 2 then b.map x y else if w=2 then b.unmap x y else if w=3 then (b.take x y).2 else if w=4 then (b.drop x).2 else if w=5 then (b.revert x y).2 else
 if w < 10 then b.write x t v else if w=13 then ((b.s.plan l).1,{ b with s:=(b.s.plan l).2 }) else (0,b)
theorem call_keep {b:Bk} {P:Bk→Prop} (w:Nat) (x y t v:Int) (l:List Rl) (h0:P b) (h1:P (b.map x y).2) (h2:P (b.unmap x y).2) (h3:P (b.take x y).2.2) (h4:P (b.drop x).2.2) (h5:P (b.revert x y).2.2) (h6:P (b.write x t v).2) (h7:P { b with s:=(b.s.plan l).2 }):P (b.call w x y t v l).2:=by
 unfold Bk.call
 split
 ·exact h1
 split
 ·exact h2
 split
 ·exact h3
 split
 ·exact h4
 split
 ·exact h5
 split
 ·exact h6
 split
 ·exact h7
 ·exact h0
theorem plan_K {s:Sy} {l:List Rl}:(s.plan l).2.K=s.K:=by unfold Sy.plan;split<;>rfl
theorem plan_M {s:Sy} {l:List Rl}:(s.plan l).2.M=s.M:=by unfold Sy.plan;split<;>rfl
theorem plan_B {s:Sy} {l:List Rl}:(s.plan l).2.B=s.B:=by unfold Sy.plan;split<;>rfl
section
variable {b:Bk}
theorem plan_good (h:GoodB b) (l:List Rl):GoodB { b with s:=(b.s.plan l).2 }:=by
 refine ⟨good_plan h.good,h.rng,fun f h1 h2=>?_,fun f hf=>?_,h.sr,h.ok,h.len⟩
 ·show ((b.s.plan l).2.K f=1∨(b.s.plan l).2.K f=2)∧(b.s.plan l).2.M f=false
  rw [plan_K,plan_M];exact h.kind f h1 h2
 ·show _∧_∧(b.s.plan l).2.K f=2
  rw [plan_K];exact h.used f hf
theorem call_good (h:GoodB b) (w:Nat) (x y t v:Int) (l:List Rl):GoodB (b.call w x y t v l).2:=call_keep (P:=GoodB) w x y t v l h (good_map h x y) (good_unmap h x y) (good_take h x y) (good_drop h x) (good_revert h x y) (good_write' h x t v) (plan_good h l)
theorem call_own (h:GoodB b) (ho:OwnB b) (w:Nat) (x y t v:Int) (l:List Rl):OwnB (b.call w x y t v l).2:=call_keep (P:=OwnB) w x y t v l ho (own_map h ho x y) (own_unmap ho x y) (own_take ho x y) (own_drop ho x) (own_revert ho x y) (own_write h ho x t v) ho
theorem call_a (w:Nat) (x y t v:Int) (l:List Rl):(b.call w x y t v l).2.a=b.a∧(b.call w x y t v l).2.n=b.n:=by
 refine call_keep (P:=fun c=>c.a=b.a∧c.n=b.n) w x y t v l ⟨rfl,rfl⟩ ?_ ?_ ?_ ?_ ?_ ?_ ⟨rfl,rfl⟩
 ·unfold Bk.map;(repeat' split)<;>exact ⟨rfl,rfl⟩
 ·unfold Bk.unmap;(repeat' split)<;>exact ⟨rfl,rfl⟩
 ·unfold Bk.take;(repeat' split)<;>exact ⟨rfl,rfl⟩
 ·unfold Bk.drop;(repeat' split)<;>exact ⟨rfl,rfl⟩
 ·unfold Bk.revert;(repeat' split)<;>exact ⟨rfl,rfl⟩
 ·have hp:∀ c:Bk,(c.put x t v).2.a=c.a∧(c.put x t v).2.n=c.n:=fun c=>by unfold Bk.put;split<;>exact ⟨rfl,rfl⟩
  have:=wr_spec (b:=b) x t v
  generalize b.write x t v=q at this
  cases this with
  | no e h=>exact ⟨rfl,rfl⟩
  | own u hi hf hw=>exact hp b
  | pr u hi hf hw h1=>exact hp (b.pr x.toNat (t.toNat / 64))
  | fr u r hi hf hw h1 hr he=>exact hp (b.fr x.toNat (t.toNat / 64) r)
  | full u r hr he=>exact ⟨rfl,rfl⟩
theorem call_tight (h:GoodB b) (ht:Tight b) (w:Nat) (hw:w ≠ 13) (x y t v:Int) (l:List Rl):Tight (b.call w x y t v l).2:=by
 unfold Bk.call
 split
 ·exact tight_map h ht x y
 split
 ·exact tight_unmap h ht x y
 split
 ·exact tight_take ht x y
 split
 ·exact tight_drop h ht x
 split
 ·exact tight_revert h ht x y
 split
 ·exact tight_write h ht x t v
 exact ht
theorem call_no (h:GoodB b) (ho:OwnB b) (w:Nat) (x y t v:Int) (l:List Rl) (he:(b.call w x y t v l).1 ≠ 0):(b.call w x y t v l).2.L=b.L∧∀ f,0 < cntF b.L f→(b.call w x y t v l).2.s.B f=b.s.B f:=by
 unfold Bk.call at he ⊢
 split at he
 ·rename_i c;rw [if_pos c];obtain ⟨h1,_,h3⟩:=map_keeps h x y he 0 0 0;exact ⟨h1,h3⟩
 rename_i c0;rw [if_neg c0]
 split at he
 ·rename_i c;rw [if_pos c,unmap_no x y he];exact ⟨rfl,fun _ _=>rfl⟩
 rename_i c1;rw [if_neg c1]
 split at he
 ·rename_i c;rw [if_pos c,take_no x y he];exact ⟨rfl,fun _ _=>rfl⟩
 rename_i c2;rw [if_neg c2]
 split at he
 ·rename_i c;rw [if_pos c,drop_no x he];exact ⟨rfl,fun _ _=>rfl⟩
 rename_i c3;rw [if_neg c3]
 split at he
 ·rename_i c;rw [if_pos c,revert_no x y he];exact ⟨rfl,fun _ _=>rfl⟩
 rename_i c4;rw [if_neg c4]
 split at he
 ·rename_i c;rw [if_pos c]
  rcases wr_rd h ho x t v with hy|hn
  ·exact absurd hy.e he
  ·exact ⟨hn.L,hn.B⟩
 rename_i c5;rw [if_neg c5]
 split at he
 ·rename_i c;rw [if_pos c];exact ⟨rfl,fun f _=>by show (b.s.plan l).2.B f=_;rw [plan_B]⟩
 ·exact absurd rfl he
def ByS (s:Sy):Prop:=∀ p j,0≤s.B p j∧s.B p j < 256
end
end Go.Pol
namespace Go.Pol
open Go.Am Go.Proofs.YtphggldkligldaaGreat.Sh
def hsO:Option Int→Int
 | some v=>v
 | none=>-1
def Bk.hs (b:Bk) (k p:Nat):Int:=hsO (b.rd k (p / 64) (p % 64))
def fol (H:Nat→Nat→Int) (w:Nat) (x y t v:Int):Option (Nat→Nat→Int) :=
 if 9 < w then some H else if ¬ inR 8 x then none else
 if w < 3 then (if ¬ inR 1024 y∨¬ (H x.toNat (y.toNat * 64) < 0 ↔ w < 2) then none else some fun k p=>if k=x.toNat∧p / 64=y.toNat then (if w=2 then -1 else 0) else H k p)
 else if w=3 then (if ¬ inR 8 y∨x=y then none else some fun k p=>if k=y.toNat then H x.toNat p else H k p)
 else if w=5 then (if ¬ inR 8 y∨x=y then none else some fun k p=>if k=x.toNat then H y.toNat p else H k p)
 else if w=4 then some fun k p=>if k=x.toNat then -1 else H k p
 else if ¬ inR 65536 t∨H x.toNat t.toNat < 0 then none else some fun k p=>if k=x.toNat∧p=t.toNat then v else H k p
def HsB (b:Bk) (H:Nat→Nat→Int):Prop:=∀ k p,k < 8→p < 65536→H k p=b.hs k p
section
variable {b:Bk}
theorem rd_none {a k j:Nat}:b.rd a k j=none ↔ fndL b.L a k=none:=by
 unfold Bk.rd
 cases fndL b.L a k<;>simp
end
end Go.Pol
