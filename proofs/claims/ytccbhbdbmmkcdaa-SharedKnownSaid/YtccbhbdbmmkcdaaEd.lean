/-
  The law of reads.
-/
import Derived.Test.YtccbhbdbmmkcdaaAmWt
import Derived.Test.YtccbhbdbmmkcdaaEc
set_option linter.unusedSimpArgs false
set_option linter.unusedVariables false
namespace Go.Proofs.Ytccbhbdbmmkcdaa.Sh
open Go Go.Am Go.Pol
section
variable {L : List Vw} {R : List Rw}
end
end Go.Proofs.Ytccbhbdbmmkcdaa.Sh
