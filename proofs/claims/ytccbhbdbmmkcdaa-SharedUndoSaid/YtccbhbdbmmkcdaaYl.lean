/-
  walked, of any arena.
-/
import Derived.Test.YtccbhbdbmmkcdaaAmWt
import Derived.Test.YtccbhbdbmmkcdaaBa
set_option linter.unusedSimpArgs false
set_option linter.unusedVariables false
namespace Go.Proofs.Ytccbhbdbmmkcdaa.Sh
open Go Go.Am Go.Pol
section
variable {L : List Vw} {t : TS}
end
end Go.Proofs.Ytccbhbdbmmkcdaa.Sh
