/-
 polderref15.Zeroed;its plain law.
-/
import Derived.Test.YtkahmhmkhfllpaaDoorZm
import Derived.Test.YtkahmhmkhfllpaaDoorZrD
set_option linter.unusedSimpArgs false
set_option linter.unusedVariables false
namespace Go.Pol
end Go.Pol
namespace Go.Proofs.YtkahmhmkhfllpaaDoor
open Go Go.Am Go.Pol
end Go.Proofs.YtkahmhmkhfllpaaDoor
