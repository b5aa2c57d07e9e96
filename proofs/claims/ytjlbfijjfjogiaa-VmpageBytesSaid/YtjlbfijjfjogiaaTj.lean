/-
  Save of the program.
-/
import Derived.Test.YtjlbfijjfjogiaaAmWt
import Derived.Test.YtjlbfijjfjogiaaVmF
set_option linter.unusedSimpArgs false
set_option linter.unusedVariables false
namespace Go.Proofs.Ytjlbfijjfjogiaa
open Go Go.Am Go.Pol
section
variable {K : Nat → Int} {M : Nat → Bool} {B : Nat → Nat → Int} {P : List AV}
end
section
variable {s : Sy}
end
end Go.Proofs.Ytjlbfijjfjogiaa
