/-
  The program's Load of what was saved; calls with and without refusals.
-/
import Derived.Test.YtjlbfijjfjogiaaVmJ
import Derived.Test.YtjlbfijjfjogiaaUk
import Derived.Test.YtjlbfijjfjogiaaUj
set_option linter.unusedSimpArgs false
set_option linter.unusedVariables false
namespace Go.Pol
open Go.Am
/-- A call with refusals, beside one without. -/
def Free (s : Sy) (k : Nat) (r r' : Int × Sy) : Prop :=
  (∃ e, e ≠ 0 ∧ r.1 = e ∧ r' = (e, s)) ∨ (r.1 = 0 ∧ ((isR s.l s.C k = true ∧ r' = (60, s.ref k)) ∨ (isR s.l s.C k = false ∧ ∃ s', r' = (0, s') ∧ s'.l = s.l ∧ s'.C = C1 s.C k ∧ s'.H = H1 s.l s.C s.H k)))
section
variable {s : Sy}
def Sy.free (s : Sy) : Sy := ⟨s.K, s.G, s.B, [], fun _ => 0, fun _ => 0⟩
def kds : List Nat := [0, 0, 1, 2, 2, 2, 3, 3, 4, 4, 5, 5, 6]
end
end Go.Pol
namespace Go.Proofs.Ytjlbfijjfjogiaa
open Go Go.Am Go.Pol
end Go.Proofs.Ytjlbfijjfjogiaa
