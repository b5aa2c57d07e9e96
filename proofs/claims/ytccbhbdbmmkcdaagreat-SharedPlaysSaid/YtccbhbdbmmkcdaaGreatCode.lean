/- Abstract code of functions,printed by a program,and that it is theirs.
-/
import Derived.Test.YtccbhbdbmmkcdaaGreatProg
import Derived.Test.YtccbhbdbmmkcdaaGreatCodeA
set_option linter.unusedSimpArgs false
set_option linter.unusedVariables false
namespace Go.Proofs.YtccbhbdbmmkcdaaGreat
open Go.Am Go.Am.Q
end Go.Proofs.YtccbhbdbmmkcdaaGreat
