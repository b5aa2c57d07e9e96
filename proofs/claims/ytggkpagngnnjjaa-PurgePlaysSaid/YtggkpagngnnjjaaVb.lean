/-
  PurgeOrder: the walk of the law.
-/
import Derived.Test.YtggkpagngnnjjaaVa
set_option linter.unusedSimpArgs false
set_option linter.unusedVariables false
namespace Go.Pol
open Go.Am
def u8A (b : Nat) : List AV := [.int .u8 b]
end Go.Pol
namespace Go.Proofs.Ytggkpagngnnjjaa
open Go Go.Am Go.Pol
section
variable {age ref keep yp ys r : Int} {l : List (Int × Int)} {P : List Nat}
end
end Go.Proofs.Ytggkpagngnnjjaa
