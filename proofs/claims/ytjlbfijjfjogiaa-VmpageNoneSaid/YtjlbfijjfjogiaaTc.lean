/-
  The document's system: page, kinds, set, change and the calls, Join, Split.
-/
import Derived.Test.YtjlbfijjfjogiaaAmWt
import Derived.Test.YtjlbfijjfjogiaaTb
set_option linter.unusedSimpArgs false
set_option linter.unusedVariables false
namespace Go.Pol
open Go.Am
def okV (K : Nat → Int) (a n : Nat) (v : Int) : Prop := ∀ i, i < n → K (a + i) = v
instance (K : Nat → Int) (a n : Nat) (v : Int) : Decidable (okV K a n v) := by unfold okV; infer_instance
end Go.Pol
namespace Go.Proofs.Ytjlbfijjfjogiaa
open Go Go.Am Go.Pol
section
variable {K : Nat → Int} {M G : Nat → Bool} {B : Nat → Nat → Int} {P : List AV}
end
end Go.Proofs.Ytjlbfijjfjogiaa
