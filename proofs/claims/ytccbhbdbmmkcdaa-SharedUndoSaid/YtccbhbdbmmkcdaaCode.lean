/-
  Abstract code of functions, printed by a program, and that it is theirs.
-/
import Derived.Test.YtccbhbdbmmkcdaaProg
import Derived.Test.YtccbhbdbmmkcdaaCodeA
set_option linter.unusedSimpArgs false
set_option linter.unusedVariables false
namespace Go.Proofs.Ytccbhbdbmmkcdaa
open Go.Am
end Go.Proofs.Ytccbhbdbmmkcdaa
