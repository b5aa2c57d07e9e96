/-
 A call that makes one block,in a region that draws its order;a call that reads alone. No program in sight.
-/
import Derived.Test.YtphggldkligldaaAmOwnT
set_option linter.unusedSimpArgs false
set_option linter.unusedVariables false
namespace Go.Am
section
variable {P:Program} {G:Gl}
def oneMore (ns:List Nat) (id i j:Nat):Prop:=ns[i]? = some j∨(i=ns.length∧j=id)
end
theorem appx_q {qa qb:Prop} {α:Type} {L:List α} {l:List (Nat × AObj)} {nx sz bytes d:Nat} {x:AV} {k:AV→Up→List Nat→Prop} (hq:HidP ((L.length=0→qa)∧(L.length ≠ 0→qb))) (h:HidP (L.length=0→qa)→HidP (L.length ≠ 0→qb)→AppX l nx sz bytes (ownV d sz L.length) x k):AppX l nx sz bytes (ownV d sz L.length) x k:=h ⟨hq.out.1⟩ ⟨hq.out.2⟩
end Go.Am
