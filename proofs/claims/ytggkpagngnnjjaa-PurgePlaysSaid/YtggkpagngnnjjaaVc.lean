/-
  PurgeOrder: the walk of the law, some pages.
-/
import Derived.Test.YtggkpagngnnjjaaVb
set_option linter.unusedSimpArgs false
set_option linter.unusedVariables false
namespace Go.Proofs.Ytggkpagngnnjjaa
open Go Go.Am Go.Pol
section
variable {age ref keep yp ys r : Int} {l : List (Int × Int)} {P : List Nat}
end
end Go.Proofs.Ytggkpagngnnjjaa
