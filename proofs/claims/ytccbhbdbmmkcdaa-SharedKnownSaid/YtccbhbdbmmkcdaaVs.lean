/-
  The arguments of the rows.
-/
import Derived.Test.YtccbhbdbmmkcdaaBa
import Derived.Test.YtccbhbdbmmkcdaaAmRead
import Derived.Test.YtccbhbdbmmkcdaaAmSev
import Derived.Test.YtccbhbdbmmkcdaaRows
import Derived.KernelRfl
set_option linter.unusedSimpArgs false
set_option linter.unusedVariables false
namespace Go.Proofs.Ytccbhbdbmmkcdaa
open Go Go.Am Go.Pol
open Go.ChangeShapes Go.WideShapes Go.ChangeAt Go.WideElems Go.RowKit
theorem own : ownKnob Try.prog.godebug = none := by kernel_rfl
theorem glo (c : Cx) : RelG G0 c := fun n cs h => by cases h
def vwT : Ty := .struct (.cons (.int .i64) (.cons (.int .i64) (.cons (.int .i64) (.cons .bool .nil))))
def stT : Ty := .struct (.cons (.slice vwT) .nil)
/-- A number of 64 bits. -/
def i64 (n : Int) : Prop := -9223372036854775808 ≤ n ∧ n ≤ 9223372036854775807
end Go.Proofs.Ytccbhbdbmmkcdaa
