/-
  Calls that are walked into; ranges over functions that are walked into. No program in sight.
-/
import Derived.Test.YtnddcnnangjgeaaAmOwnB
set_option linter.unusedSimpArgs false
set_option linter.unusedVariables false
namespace Go.Am
section
variable {P : Program} {G : Gl}
end
end Go.Am
