/-
  The document's system: change and the calls, Join, Split over the plain state.
-/
import Derived.Test.YtjlbfijjfjogiaaTc
set_option linter.unusedSimpArgs false
set_option linter.unusedVariables false
namespace Go.Pol
open Go.Am
end Go.Pol
namespace Go.Proofs.Ytjlbfijjfjogiaa
open Go Go.Am Go.Pol
section
variable {s : Sy} {a n : Int}
theorem b_plain : ∀ x ∈ s.b, Plain x := by unfold Sy.b; exact rfk_plain stA_plain
theorem a_plain : ∀ x ∈ s.a, Plain x := by unfold Sy.a; exact sys_plain stA_plain
end
end Go.Proofs.Ytjlbfijjfjogiaa
