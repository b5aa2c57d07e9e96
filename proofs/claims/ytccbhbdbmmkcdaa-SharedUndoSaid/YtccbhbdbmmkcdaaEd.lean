/-
  The law of reads.
-/
import Derived.Test.YtccbhbdbmmkcdaaAmWt
import Derived.Test.YtccbhbdbmmkcdaaEc
set_option linter.unusedSimpArgs false
set_option linter.unusedVariables false
namespace Go.Proofs.Ytccbhbdbmmkcdaa.Sh
open Go Go.Am Go.Pol
theorem el_vw {L : List Vw} {i : Nat} {K : List AV → Prop} {va vk vf : Nat} {vw : Bool} (hj : i < L.length) (hx : nth dV L i = (va, vk, vf, vw)) (hk : K [.int .i64 (va : Nat), .int .i64 (vk : Nat), .int .i64 (vf : Nat), .bool vw]) : ElX (L.map vwC) i 4 K := el_mapE vw_len hj hx hk
section
variable {L : List Vw} {R : List Rw}
end
end Go.Proofs.Ytccbhbdbmmkcdaa.Sh
