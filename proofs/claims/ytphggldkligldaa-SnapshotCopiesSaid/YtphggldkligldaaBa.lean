/-
 Check of both;Of and Same of the document.
-/
import Derived.Test.YtphggldkligldaaShD
set_option linter.unusedSimpArgs false
set_option linter.unusedVariables false
namespace Go.Pol
open Go.Am
abbrev Rw:=Int × Int × Int × Bool
def rwC (v:Rw):List AV:=[.int .i64 v.1,.int .i64 v.2.1,.int .i64 v.2.2.1,.bool v.2.2.2]
def dW:Rw:=(0,0,0,false)
def rwV (v:Vw):Rw:=((v.1:Nat),(v.2.1:Nat),(v.2.2.1:Nat),v.2.2.2)
def okW (v:Rw):Prop:=(0≤v.1∧v.1 < 64)∧(0≤v.2.1∧v.2.1 < 1024)∧(0≤v.2.2.1∧v.2.2.1 < 1024)
instance (v:Rw):Decidable (okW v):=by unfold okW;infer_instance
def befW (u v:Rw):Prop:=u.1 < v.1∨(u.1=v.1∧u.2.1 < v.2.1)
instance (u v:Rw):Decidable (befW u v):=by unfold befW;infer_instance
inductive ChkR (R:List Rw):Int→Int→Prop
 | big:2000 < R.length→ChkR R 0 5
 | range (k:Nat):R.length≤2000→k < R.length→(∀ j,j < k→okW (nth dW R j))→¬ okW (nth dW R k)→ChkR R (k:Nat) 7
 | pair (k:Nat):R.length≤2000→1≤k→k < R.length→(∀ j,j < R.length→okW (nth dW R j))→(∀ j,j+1 < k→befW (nth dW R j) (nth dW R (j+1)))→¬ befW (nth dW R (k - 1)) (nth dW R k)→ChkR R (k:Nat) (if befW (nth dW R k) (nth dW R (k - 1)) then 6 else 8)
 | ok:R.length≤2000→(∀ j,j < R.length→okW (nth dW R j))→(∀ j,j+1 < R.length→befW (nth dW R j) (nth dW R (j+1)))→ChkR R 0 0
theorem ChkR.uniq {R:List Rw} {i e i' e':Int} (h:ChkR R i e) (h':ChkR R i' e'):i=i'∧e=e':=by
 cases h with
 | big h1=>cases h' with
  | big h2=>exact ⟨rfl,rfl⟩
  | range k h2=>omega
  | pair k h2=>omega
  | ok h2=>omega
 | range k h1 h2 h3 h4=>cases h' with
  | big g1=>omega
  | range k' g1 g2 g3 g4 =>
   have : k=k':=by
    rcases Nat.lt_trichotomy k k' with h|h|h
    ·exact absurd (g3 k h) h4
    ·exact h
    ·exact absurd (h3 k' h) g4
   subst this;exact ⟨rfl,rfl⟩
  | pair k' g1 g2 g3 g4=>exact absurd (g4 k h2) h4
  | ok g1 g2=>exact absurd (g2 k h2) h4
 | pair k h1 h2 h3 h4 h5 h6=>cases h' with
  | big g1=>omega
  | range k' g1 g2 g3 g4=>exact absurd (h4 k' g2) g4
  | pair k' g1 g2 g3 g4 g5 g6 =>
   have : k=k':=by
    rcases Nat.lt_trichotomy k k' with h|h|h
    ·have:=g5 (k - 1) (by omega);rw [show k - 1+1=k by omega] at this;exact absurd this h6
    ·exact h
    ·have:=h5 (k' - 1) (by omega);rw [show k' - 1+1=k' by omega] at this;exact absurd this g6
   subst this;exact ⟨rfl,rfl⟩
  | ok g1 g2 g3=>have:=g3 (k - 1) (by omega);rw [show k - 1+1=k by omega] at this;exact absurd this h6
 | ok h1 h2 h3=>cases h' with
  | big g1=>omega
  | range k' g1 g2 g3 g4=>exact absurd (h2 k' g2) g4
  | pair k' g1 g2 g3 g4 g5 g6=>have:=h3 (k' - 1) (by omega);rw [show k' - 1+1=k' by omega] at this;exact absurd this g6
  | ok=>exact ⟨rfl,rfl⟩
end Go.Pol
namespace Go.Proofs.Ytphggldkligldaa.Sh
open Go Go.Am Go.Pol
section
variable {L A B:List Vw} {v:Vw} {R:List Rw}
def ofI (a:Int) (L:List Vw):List Vw:=L.filter fun v=>decide ((v.1:Int)=a)
end
end Go.Proofs.Ytphggldkligldaa.Sh
