/-
  The reference's Check.
-/
import Derived.Test.YtnddcnnangjgeaaMb
set_option linter.unusedSimpArgs false
set_option linter.unusedVariables false
namespace Go.Proofs.Ytnddcnnangjgeaa
open Go Go.Am Go.Pol
section
variable {n m : Nat} {V L N P A B : Nat → Int}
end
end Go.Proofs.Ytnddcnnangjgeaa
