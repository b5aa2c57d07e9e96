/- Abstract code of functions,printed by a program,and that it is theirs.
-/
import Derived.Test.YtphggldkligldaaProg
import Derived.Test.YtphggldkligldaaCodeA
set_option linter.unusedSimpArgs false
set_option linter.unusedVariables false
namespace Go.Proofs.Ytphggldkligldaa
open Go.Am Go.Am.Q
end Go.Proofs.Ytphggldkligldaa
