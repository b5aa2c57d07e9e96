/- Abstract code of functions,printed by a program,and that it is theirs.
-/
import Derived.Test.YtbhgfoikbkaohaaGreatProg
import Derived.Test.YtbhgfoikbkaohaaGreatCodeA
set_option linter.unusedSimpArgs false
set_option linter.unusedVariables false
namespace Go.Proofs.YtbhgfoikbkaohaaGreat
open Go.Am Go.Am.Q
end Go.Proofs.YtbhgfoikbkaohaaGreat
