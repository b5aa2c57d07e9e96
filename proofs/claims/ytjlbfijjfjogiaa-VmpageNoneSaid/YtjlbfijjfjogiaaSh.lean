/-
  make for Join and Split.
-/
import Derived.Test.YtjlbfijjfjogiaaSg
set_option linter.unusedSimpArgs false
set_option linter.unusedVariables false
namespace Go.Proofs.Ytjlbfijjfjogiaa
open Go Go.Am Go.Pol
section
variable {K : Nat → Int} {M G : Nat → Bool} {B : Nat → Nat → Int} {l : List Rl} {C H : Nat → Int}
end
end Go.Proofs.Ytjlbfijjfjogiaa
