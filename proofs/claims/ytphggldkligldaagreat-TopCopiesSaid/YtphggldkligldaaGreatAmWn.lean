/-
 A call that makes one block,in a region that draws its order;a call that reads alone. No program in sight.
-/
import Derived.Test.YtphggldkligldaaGreatAmOwnT
set_option linter.unusedSimpArgs false
set_option linter.unusedVariables false
namespace Go.Am
section
variable {P:Program} {G:Gl}
def oneMore (ns:List Nat) (id i j:Nat):Prop:=ns[i]? = some j∨(i=ns.length∧j=id)
end
end Go.Am
