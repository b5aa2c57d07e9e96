/-
 A play: the books behind its calls.
-/
import Derived.Test.YtphggldkligldaaSnK
set_option linter.unusedSimpArgs false
set_option linter.unusedVariables false
namespace Go.Pol
open Go.Am
def Bk.run (b:Bk) (X:List Ax):Nat→Bk
 | 0=>b
 | k+1=>((b.run X k).al (nth dA X k)).2
end Go.Pol
namespace Go.Proofs.Ytphggldkligldaa.Sh
open Go Go.Am Go.Pol
theorem py_good {p:Py} (h1:(chkP p.l).2=0) (h2:stat p.a p.n) (h3:((Sy.new p.l).chg p.a p.n 0 1 0).1=0):GoodB p.b∧OutB p.b∧OwnB p.b∧ByS p.b.s∧(p.l=[]→Tight p.b) :=
 new_book h1 ⟨h2.1,h2.2.2.1,by have:=h2.2.2.2;omega⟩ h3 p.b rfl
end Go.Proofs.Ytphggldkligldaa.Sh
