/-
  VmpageKeeps.
-/
import Derived.Test.YtjlbfijjfjogiaaVmI
import Derived.Test.YtjlbfijjfjogiaaTj
import Derived.Test.YtjlbfijjfjogiaaAmEig
set_option linter.unusedSimpArgs false
set_option linter.unusedVariables false
namespace Go.Pol
open Go.Am
end Go.Pol
namespace Go.Proofs.Ytjlbfijjfjogiaa
open Go Go.Am Go.Pol
section
variable {p : List Rl} {l : List Ac} {x : Ac}
end
end Go.Proofs.Ytjlbfijjfjogiaa
