/-
  VmpageBack.
-/
import Derived.Test.YtjlbfijjfjogiaaVmI
import Derived.Test.YtjlbfijjfjogiaaTj
set_option linter.unusedSimpArgs false
set_option linter.unusedVariables false
namespace Go.Pol
open Go.Am
end Go.Pol
namespace Go.Proofs.Ytjlbfijjfjogiaa
open Go Go.Am Go.Pol
section
variable {l : List Ac}
end
end Go.Proofs.Ytjlbfijjfjogiaa
