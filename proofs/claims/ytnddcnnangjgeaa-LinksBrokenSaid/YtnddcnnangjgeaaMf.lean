/-
  LinksLoads: the walk of the law.
-/
import Derived.Test.YtnddcnnangjgeaaMe
set_option linter.unusedSimpArgs false
set_option linter.unusedVariables false
namespace Go.Proofs.Ytnddcnnangjgeaa
open Go Go.Am Go.Pol
def poolAt (a n m : Nat) (V : Nat → Int) (S : PS) : List (Nat × AObj) := [(a, .cells [.sl (a + 1) 0 n n 4, .sl (a + 2) 0 m m 3, .int .i64 (S.fr : Nat)]), (a + 1, .cells (cellsB n V S.L S.N S.P)), (a + 2, .cells (endsB m S.A S.B S.C))]
section
variable {n m : Nat} {V L N P A B C : Nat → Int} {Q : Nat → List Nat}
def listsAt (a n m : Nat) (V : Nat → Int) (Q : Nat → List Nat) : List (Nat × AObj) := [(a, .cells (ofB m Q)), (a + 1, .cells (memI n V))]
end
end Go.Proofs.Ytnddcnnangjgeaa
