/-
  LinksWalks: what is needed of walks that take slots out, or move them.
-/
import Derived.Test.YtnddcnnangjgeaaLv
set_option linter.unusedSimpArgs false
set_option linter.unusedVariables false
namespace Go.Pol
/-- What has been yielded: a slice of its own. -/
def outV : Nat → Go.Am.AV
  | 0 => .nils
  | k + 1 => .sl 30 0 (k + 1) (k + 1) 1
def outH (O : List Nat) : Nat → List (Nat × Go.Am.AObj)
  | 0 => []
  | k + 1 => [(30, .cells (Go.Am.flat slotA (O.take (k + 1))))]
/-- How many slots the lists below have. -/
def metN (Q : Nat → List Nat) : Nat → Nat
  | 0 => 0
  | k + 1 => metN Q k + (Q k).length
end Go.Pol
namespace Go.Proofs.Ytnddcnnangjgeaa
open Go Go.Am Go.Pol
section
variable {n m : Nat} {V : Nat → Int} {Q : Nat → List Nat} {S : PS}
end
end Go.Proofs.Ytnddcnnangjgeaa
