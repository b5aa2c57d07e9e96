/-
 A book of spaces,plain: views that may be written are alone;what a write does.
 A book of spaces,plain: what a space reads after a write.
 A book of spaces,plain: any call keeps a good book;bytes are bytes.
 A book of spaces,plain: what each space has,followed without the book (SnapshotBytes).
-/
import Derived.Test.YtphggldkligldaaSnB
set_option linter.unusedSimpArgs false
set_option linter.unusedVariables false
namespace Go.Pol
open Go.Am Go.Proofs.Ytphggldkligldaa.Sh
def OwnB (b:Bk):Prop:=∀ v ∈ b.L,v.2.2.2=true→∀ w ∈ b.L,w.2.2.1=v.2.2.1→w=v
section
variable {b:Bk}
def Bk.pr (b:Bk) (x k:Nat):Bk:={ b with L:=setL (prV true) x k b.L }
def Bk.fr (b:Bk) (x k:Nat) (r:Int × Nat × Sy):Bk:={ b with L:=setL (frV r.2.1) x k b.L,s:=r.2.2 }
inductive WrS (b:Bk) (x t v:Int):Int × Bk→Prop
 | no (e:Int) (h:e ≠ 0):WrS b x t v (e,b)
 | own (u:Vw) (hi:inR 64 x∧inR 65536 t) (hf:fndL b.L x.toNat (t.toNat / 64)=some u) (hw:u.2.2.2=true):WrS b x t v (b.put x t v)
 | pr (u:Vw) (hi:inR 64 x∧inR 65536 t) (hf:fndL b.L x.toNat (t.toNat / 64)=some u) (hw:u.2.2.2=false) (h1:cntF b.L u.2.2.1=1):WrS b x t v ((b.pr x.toNat (t.toNat / 64)).put x t v)
 | fr (u:Vw) (r:Int × Nat × Sy) (hi:inR 64 x∧inR 65536 t) (hf:fndL b.L x.toNat (t.toNat / 64)=some u) (hw:u.2.2.2=false) (h1:cntF b.L u.2.2.1 ≠ 1) (hr:r=tkP b.a b.n b.L b.s (b.s.B u.2.2.1)) (he:r.1=0):WrS b x t v ((b.fr x.toNat (t.toNat / 64) r).put x t v)
 | full (u:Vw) (r:Int × Nat × Sy) (hr:r=tkP b.a b.n b.L b.s (b.s.B u.2.2.1)) (he:r.1 ≠ 0):WrS b x t v (r.1,{ b with s:=r.2.2 })
theorem wr_spec (x t v:Int):WrS b x t v (b.write x t v):=by
 unfold Bk.write
 split
 ·exact .no 7 (by decide)
 rename_i hi
 have hi:inR 64 x∧inR 65536 t:=Classical.not_not.1 hi
 cases hf:fndL b.L x.toNat (t.toNat / 64) with
 | none=>exact .no 220 (by decide)
 | some u =>
  dsimp only
  split
  ·rename_i hw;exact .own u hi hf hw
  ·rename_i hw
   have hw:u.2.2.2=false:=by simpa using hw
   split
   ·rename_i h1;exact .pr u hi hf hw h1
   ·rename_i h1
    split
    ·rename_i he;exact .fr u _ hi hf hw h1 rfl he
    ·rename_i he;exact .full u _ rfl he
def Bk.byte (b:Bk) (f i:Nat) (v:Int):Bk:={ b with s:={ b.s with B:=updP b.s.B f (updI (b.s.B f) i v) } }
end
end Go.Pol
namespace Go.Pol
open Go.Am Go.Proofs.Ytphggldkligldaa.Sh
section
variable {b:Bk}
structure WrY (b:Bk) (x t v:Int) (q:Int × Bk):Prop where
 e:q.1=0
 hi:inR 64 x∧inR 65536 t
 was:(fndL b.L x.toNat (t.toNat / 64)).isSome=true
 rd:∀ a c j,j < 64→q.2.rd a c j=if x.toNat=a∧t.toNat / 64=c∧t.toNat % 64=j then some v else b.rd a c j
structure WrN (b:Bk) (q:Int × Bk):Prop where
 e:q.1 ≠ 0
 L:q.2.L=b.L
 B:∀ f,0 < cntF b.L f→q.2.s.B f=b.s.B f
end
end Go.Pol
namespace Go.Pol
open Go.Am Go.Proofs.Ytphggldkligldaa.Sh
def Bk.call (b:Bk) (w:Nat) (x y t v:Int) (l:List Rl):Int × Bk :=
 if w < 2 then b.map x y else if w=2 then b.unmap x y else if w=3 then (b.take x y).2 else if w=4 then (b.drop x).2 else if w=5 then (b.revert x y).2 else
 if w < 10 then b.write x t v else if w=13 then ((b.s.plan l).1,{ b with s:=(b.s.plan l).2 }) else (0,b)
theorem call_keep {b:Bk} {P:Bk→Prop} (w:Nat) (x y t v:Int) (l:List Rl) (h0:P b) (h1:P (b.map x y).2) (h2:P (b.unmap x y).2) (h3:P (b.take x y).2.2) (h4:P (b.drop x).2.2) (h5:P (b.revert x y).2.2) (h6:P (b.write x t v).2) (h7:P { b with s:=(b.s.plan l).2 }):P (b.call w x y t v l).2:=by
 unfold Bk.call
 split
 ·exact h1
 split
 ·exact h2
 split
 ·exact h3
 split
 ·exact h4
 split
 ·exact h5
 split
 ·exact h6
 split
 ·exact h7
 ·exact h0
theorem plan_K {s:Sy} {l:List Rl}:(s.plan l).2.K=s.K:=by unfold Sy.plan;split<;>rfl
theorem plan_M {s:Sy} {l:List Rl}:(s.plan l).2.M=s.M:=by unfold Sy.plan;split<;>rfl
section
variable {b:Bk}
theorem plan_good (h:GoodB b) (l:List Rl):GoodB { b with s:=(b.s.plan l).2 }:=by
 refine ⟨good_plan h.good,h.rng,fun f h1 h2=>?_,fun f hf=>?_,h.sr,h.ok,h.len⟩
 ·show ((b.s.plan l).2.K f=1∨(b.s.plan l).2.K f=2)∧(b.s.plan l).2.M f=false
  rw [plan_K,plan_M];exact h.kind f h1 h2
 ·show _∧_∧(b.s.plan l).2.K f=2
  rw [plan_K];exact h.used f hf
theorem call_good (h:GoodB b) (w:Nat) (x y t v:Int) (l:List Rl):GoodB (b.call w x y t v l).2:=call_keep (P:=GoodB) w x y t v l h (good_map h x y) (good_unmap h x y) (good_take h x y) (good_drop h x) (good_revert h x y) (good_write' h x t v) (plan_good h l)
def ByS (s:Sy):Prop:=∀ p j,0≤s.B p j∧s.B p j < 256
end
end Go.Pol
namespace Go.Pol
open Go.Am Go.Proofs.Ytphggldkligldaa.Sh
def hsO:Option Int→Int
 | some v=>v
 | none=>-1
def Bk.hs (b:Bk) (k p:Nat):Int:=hsO (b.rd k (p / 64) (p % 64))
def fol (H:Nat→Nat→Int) (w:Nat) (x y t v:Int):Option (Nat→Nat→Int) :=
 if 9 < w then some H else if ¬ inR 8 x then none else
 if w < 3 then (if ¬ inR 1024 y∨¬ (H x.toNat (y.toNat * 64) < 0 ↔ w < 2) then none else some fun k p=>if k=x.toNat∧p / 64=y.toNat then (if w=2 then -1 else 0) else H k p)
 else if w=3 then (if ¬ inR 8 y∨x=y then none else some fun k p=>if k=y.toNat then H x.toNat p else H k p)
 else if w=5 then (if ¬ inR 8 y∨x=y then none else some fun k p=>if k=x.toNat then H y.toNat p else H k p)
 else if w=4 then some fun k p=>if k=x.toNat then -1 else H k p
 else if ¬ inR 65536 t∨H x.toNat t.toNat < 0 then none else some fun k p=>if k=x.toNat∧p=t.toNat then v else H k p
def HsB (b:Bk) (H:Nat→Nat→Int):Prop:=∀ k p,k < 8→p < 65536→H k p=b.hs k p
section
variable {b:Bk}
end
end Go.Pol
