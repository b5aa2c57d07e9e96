/-
  Plain states.
-/
import Derived.Test.YtjhmknnokloneaaDoorZi
import Derived.Test.YtjhmknnokloneaaDoorAmWv
set_option linter.unusedSimpArgs false
set_option linter.unusedVariables false
namespace Go.Proofs.YtjhmknnokloneaaDoor
open Go Go.Am Go.Pol
theorem plain_pagesI {s : List Page} : Plain (.isl (s.map pageA)) := plain_pages
theorem plain_st {s : List Page} : Plain (.agg [.isl (s.map pageA)]) := plain_state
end Go.Proofs.YtjhmknnokloneaaDoor
