/-
  The law of counts.
-/
import Derived.Test.YtccbhbdbmmkcdaaAmWt
import Derived.Test.YtccbhbdbmmkcdaaShE
set_option linter.unusedSimpArgs false
set_option linter.unusedVariables false
namespace Go.Pol
open Go.Am
/-- The counts of the first frames, together. -/
def sumC (L : List Vw) (n : Nat) : Nat := (L.filter fun v => decide (v.2.2.1 < n)).length
theorem cnt_leL (L : List Vw) (f : Nat) : cntF L f ≤ L.length := List.length_filter_le ..
end Go.Pol
namespace Go.Proofs.Ytccbhbdbmmkcdaa.Sh
open Go Go.Am Go.Pol
section
variable {L : List Vw} {R : List Rw}
end
end Go.Proofs.Ytccbhbdbmmkcdaa.Sh
