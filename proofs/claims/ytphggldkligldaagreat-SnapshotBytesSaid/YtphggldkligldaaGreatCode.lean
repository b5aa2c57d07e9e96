/- Abstract code of functions,printed by a program,and that it is theirs.
-/
import Derived.Test.YtphggldkligldaaGreatProg
import Derived.Test.YtphggldkligldaaGreatCodeA
set_option linter.unusedSimpArgs false
set_option linter.unusedVariables false
namespace Go.Proofs.YtphggldkligldaaGreat
open Go.Am Go.Am.Q
end Go.Proofs.YtphggldkligldaaGreat
