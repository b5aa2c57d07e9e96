/- Abstract code of functions,printed by a program,and that it is theirs.
-/
import Derived.Test.YtbhgfoikbkaohaaProg
import Derived.Test.YtbhgfoikbkaohaaCodeA
set_option linter.unusedSimpArgs false
set_option linter.unusedVariables false
namespace Go.Proofs.Ytbhgfoikbkaohaa
open Go.Am Go.Am.Q
end Go.Proofs.Ytbhgfoikbkaohaa
