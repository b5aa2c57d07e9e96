/-
  VmpageBack.
-/
import Derived.Test.YtjlbfijjfjogiaaVmI
import Derived.Test.YtjlbfijjfjogiaaTj
set_option linter.unusedSimpArgs false
set_option linter.unusedVariables false
namespace Go.Pol
open Go.Am
theorem isR_nil {C : Nat → Int} {k : Nat} : isR [] C k = false := by
  unfold isR
  split
  · rfl
  · rfl
end Go.Pol
namespace Go.Proofs.Ytjlbfijjfjogiaa
open Go Go.Am Go.Pol
section
variable {l : List Ac}
end
end Go.Proofs.Ytjlbfijjfjogiaa
