/-
 Load of a good book.
-/
import Derived.Test.YtphggldkligldaaGreatSnK
set_option linter.unusedSimpArgs false
set_option linter.unusedVariables false
namespace Go.Proofs.YtphggldkligldaaGreat.Sh
open Go Go.Am Go.Pol
section
variable {q:Bk}
end
end Go.Proofs.YtphggldkligldaaGreat.Sh
