/-
 A play: the books behind its calls.
-/
import Derived.Test.YtphggldkligldaaSnK
set_option linter.unusedSimpArgs false
set_option linter.unusedVariables false
namespace Go.Pol
open Go.Am
def Bk.run (b:Bk) (X:List Ax):Nat→Bk
 | 0=>b
 | k+1=>((b.run X k).al (nth dA X k)).2
theorem run_s {b:Bk} {X:List Ax} {k:Nat}:b.run X (k+1)=((b.run X k).al (nth dA X k)).2:=rfl
theorem run_good {b:Bk} {X:List Ax} (g:GoodB b):∀ k,GoodB (b.run X k)
 | 0=>g
 | k+1=>call_good (run_good g k) ..
end Go.Pol
namespace Go.Proofs.Ytphggldkligldaa.Sh
open Go Go.Am Go.Pol
theorem py_good {p:Py} (h1:(chkP p.l).2=0) (h2:stat p.a p.n) (h3:((Sy.new p.l).chg p.a p.n 0 1 0).1=0):GoodB p.b∧OutB p.b∧OwnB p.b∧ByS p.b.s∧(p.l=[]→Tight p.b) :=
 new_book h1 ⟨h2.1,h2.2.2.1,by have:=h2.2.2.2;omega⟩ h3 p.b rfl
theorem al_chain {b:Bk} {X:List Ax} (hw:∀ x ∈ X,0≤x.w) (g:GoodB b) (h:TOk b.L T0):∃ T:Nat→TS,T 0=T0∧(∀ k,k≤X.length→TOk (b.run X k).L (T k))∧∀ k,k < X.length→LocA (nth dA X k) (b.run X k) (T k) ((b.run X k).al (nth dA X k)).1 (b.run X (k+1)) (T (k+1)):=by
 refine chain (n:=X.length) (P:=fun k t=>TOk (b.run X k).L t) (S:=fun k t t'=>LocA (nth dA X k) (b.run X k) t ((b.run X k).al (nth dA X k)).1 (b.run X (k+1)) t') T0 h fun k t hk ht=>?_
 exact l_alone (run_good g k) ht (nth dA X k) (hw _ (nth_mem (d:=dA) hk))
end Go.Proofs.Ytphggldkligldaa.Sh
