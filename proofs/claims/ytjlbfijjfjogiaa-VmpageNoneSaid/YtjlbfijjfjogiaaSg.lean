/-
  Join and Split of the program.
-/
import Derived.Test.YtjlbfijjfjogiaaSf
set_option linter.unusedSimpArgs false
set_option linter.unusedVariables false
namespace Go.Pol
/-- Are these pages committed? -/
def okC (K : Nat → Int) (a n : Nat) : Prop := ∀ i, i < n → K (a + i) = 2
instance (K : Nat → Int) (a n : Nat) : Decidable (okC K a n) := by unfold okC; infer_instance
/-- Are these pages huge? -/
def okH (M : Nat → Bool) (a n : Nat) : Prop := ∀ i, i < n → M (a + i) = true
instance (M : Nat → Bool) (a n : Nat) : Decidable (okH M a n) := by unfold okH; infer_instance
end Go.Pol
namespace Go.Proofs.Ytjlbfijjfjogiaa
open Go Go.Am Go.Pol
section
variable {K : Nat → Int} {M G : Nat → Bool} {B : Nat → Nat → Int} {l : List Rl} {C H : Nat → Int}
end
end Go.Proofs.Ytjlbfijjfjogiaa
