/-
  Extents of a queue.
-/
import Derived.Test.YtggkpagngnnjjaaRa
set_option linter.unusedSimpArgs false
set_option linter.unusedVariables false
namespace Go.Proofs.Ytggkpagngnnjjaa
open Go Go.Am Go.Pol
theorem orErr_hd (Q : List Nat) : orErr (hd Q) 4 = .tup [.int .i64 (if Q.length = 0 then 0 else hd Q), .int .i64 (if Q.length = 0 then 4 else 0)] := by
  unfold orErr
  cases Q with
  | nil => rfl
  | cons y0 L0 => rw [if_neg (show ¬ hd (y0 :: L0) = -1 by show ¬ ((y0 : Nat) : Int) = -1; omega), if_neg (show ¬ hd (y0 :: L0) = -1 by show ¬ ((y0 : Nat) : Int) = -1; omega), if_neg (by simp), if_neg (by simp)]
section
variable {x : QD}
end
end Go.Proofs.Ytggkpagngnnjjaa
