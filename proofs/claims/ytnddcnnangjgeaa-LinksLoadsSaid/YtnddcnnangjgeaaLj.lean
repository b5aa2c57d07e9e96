/-
  The document's End and Step; a call of both.
-/
import Derived.Test.YtnddcnnangjgeaaLi
set_option linter.unusedSimpArgs false
set_option linter.unusedVariables false
namespace Go.Proofs.Ytnddcnnangjgeaa
open Go Go.Am Go.Pol
section
variable {n m : Nat} {V : Nat → Int} {Q : Nat → List Nat}
end
end Go.Proofs.Ytnddcnnangjgeaa
