/-
  The law of what is known.
-/
import Derived.Test.YtccbhbdbmmkcdaaAmWt
import Derived.Test.YtccbhbdbmmkcdaaYp
import Derived.Test.YtccbhbdbmmkcdaaEd
set_option linter.unusedSimpArgs false
set_option linter.unusedVariables false
namespace Go.Proofs.Ytccbhbdbmmkcdaa.Sh
open Go Go.Am Go.Pol
end Go.Proofs.Ytccbhbdbmmkcdaa.Sh
