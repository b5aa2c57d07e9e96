/-
  The law's examples: its call gives true.
-/
import Derived.Test.YtjhmknnokloneaaDoorYr
import Derived.KernelRfl
set_option linter.unusedSimpArgs false
set_option linter.unusedVariables false
namespace Go.Proofs.YtjhmknnokloneaaDoor
open Go Go.Am Go.Pol
theorem awake_run : isTrue (callE tabZ G0 (79 + 1) (.fn 10 [] []) [] ⟨[], 0⟩) = true := by kernel_rfl
theorem k_awake : PureC Tryd.prog G0 10 [] (.bool true) := closed_true hmix tabZ_ok tabZ_orc plainG rfl awake_run
end Go.Proofs.YtjhmknnokloneaaDoor
