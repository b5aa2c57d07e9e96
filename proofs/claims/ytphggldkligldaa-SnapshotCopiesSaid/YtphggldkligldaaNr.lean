/-
 A book of spaces,plain: SnapshotCopies' loops.
-/
import Derived.Test.YtphggldkligldaaSnK
set_option linter.unusedSimpArgs false
set_option linter.unusedVariables false
namespace Go.Pol
open Go.Am Go.Proofs.Ytphggldkligldaa.Sh
def cdB (L:List Vw) (x k j:Nat):Bool:=decide ((nth dV L j).1=x∧(nth dV L j).2.1=k∧(nth dV L j).2.2.2=false)
def twB (L:List Vw) (j m:Nat):Bool:=(List.range m).any fun i=>decide (i ≠ j∧(nth dV L i).2.2.1=(nth dV L j).2.2.1)
def muB (L:List Vw) (x k i:Nat):Bool:=(List.range i).any fun j=>cdB L x k j && twB L j L.length
def mI (b:Bool):Int:=if b then 1 else 0
theorem twB_0 {L:List Vw} {j:Nat}:twB L j 0=false:=rfl
theorem twB_s {L:List Vw} {j m:Nat}:twB L j (m+1)=(twB L j m || decide (m ≠ j∧(nth dV L m).2.2.1=(nth dV L j).2.2.1)):=by
 unfold twB;rw [List.range_succ,List.any_append];simp
theorem muB_s {L:List Vw} {x k i:Nat}:muB L x k (i+1)=(muB L x k i || (cdB L x k i && twB L i L.length)):=by
 unfold muB;rw [List.range_succ,List.any_append];simp
theorem twB_all {L:List Vw} {j:Nat} (hj:j < L.length):twB L j L.length=true ↔ cntF L (nth dV L j).2.2.1 ≠ 1:=by
 rw [nth_get hj,← cnt_two hj]
 unfold twB
 rw [List.any_eq_true]
 constructor
 ·rintro ⟨i,hi,h⟩
  have hi:=List.mem_range.1 hi
  have h:=of_decide_eq_true h
  rw [nth_get hi,nth_get hj] at h
  exact ⟨i,hi,h⟩
 ·rintro ⟨i,hi,h⟩
  exact ⟨i,List.mem_range.2 hi,decide_eq_true (by rw [nth_get hi,nth_get hj];exact h)⟩
theorem muB_all {b:Bk} (hs:Go.Pol.srt b.L) {x t:Nat}:muB b.L x (t / 64) b.L.length=true ↔ b.must (x:Nat) (t:Nat):=by
 unfold Bk.must
 rw [Int.toNat_natCast,Int.toNat_natCast]
 unfold muB
 rw [List.any_eq_true]
 constructor
 ·rintro ⟨j,hj,h⟩
  have hj:=List.mem_range.1 hj
  rw [Bool.and_eq_true] at h
  obtain ⟨h1,h2,h3⟩:=of_decide_eq_true h.1
  refine ⟨nth dV b.L j,?_,h3,(twB_all hj).1 h.2⟩
  have:=fnd_yes hs (nth_mem (d:=dV) hj)
  rwa [h1,h2] at this
 ·rintro ⟨v,h1,h2,h3⟩
  obtain ⟨hv,e1,e2⟩:=fnd_some h1
  obtain ⟨j,hj,rfl⟩:=List.getElem_of_mem hv
  refine ⟨j,List.mem_range.2 hj,?_⟩
  have e:=nth_get (d:=dV) hj
  rw [Bool.and_eq_true]
  exact ⟨decide_eq_true (by rw [e];exact ⟨e1,e2,h2⟩),(twB_all hj).2 (by rw [e];exact h3)⟩
theorem wr_in {b:Bk} {x t v:Int} (h:(b.write x t v).1=0):inR 64 x∧inR 65536 t:=by
 refine Classical.byContradiction fun hn=>?_
 unfold Bk.write at h
 rw [if_pos hn] at h
 exact absurd h (by decide:¬ (7:Int)=0)
theorem take_in {b:Bk} {x y:Int} (h:(b.take x y).2.1=0):inR 64 x∧inR 64 y:=by
 refine Classical.byContradiction fun hn=>?_
 unfold Bk.take at h
 rw [if_pos hn] at h
 exact absurd h (by decide:¬ (7:Int)=0)
theorem revert_in {b:Bk} {x y:Int} (h:(b.revert x y).2.1=0):inR 64 x∧inR 64 y:=by
 refine Classical.byContradiction fun hn=>?_
 unfold Bk.revert at h
 rw [if_pos hn] at h
 exact absurd h (by decide:¬ (7:Int)=0)
theorem al_is {b:Bk} {x:Ax} {w:Nat} (hw:x.w.toNat % 14=w):b.al x=b.call w x.a x.b x.t x.v x.l:=by unfold Bk.al;rw [hw]
end Go.Pol
