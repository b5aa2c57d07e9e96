/-
  The law of reads.
-/
import Derived.Test.YtccbhbdbmmkcdaaAmWt
import Derived.Test.YtccbhbdbmmkcdaaEc
set_option linter.unusedSimpArgs false
set_option linter.unusedVariables false
namespace Go.Proofs.Ytccbhbdbmmkcdaa.Sh
open Go Go.Am Go.Pol
theorem plain_2u {a b : Int} : Plain (.agg [.int .u8 a, .int .u8 b]) := plain_agg fun x hx => by
  simp only [List.mem_cons, List.not_mem_nil, or_false] at hx
  rcases hx with rfl | rfl <;> exact plain_int
theorem el_2 {l : List Int} {i : Nat} {K : List AV → Prop} {x : Int} (hj : 2 * i < l.length) (hx : nth 0 l (2 * i) = x) (hk : K (int1 x)) : ElX (l.map int1) (2 * (i : Int)).toNat 1 K := by
  rw [show (2 * (i : Int)).toNat = 2 * i by omega]; exact el_mapE int1_len hj hx hk
theorem el_3 {l : List Int} {i : Nat} {K : List AV → Prop} {x : Int} (hj : 2 * i + 1 < l.length) (hx : nth 0 l (2 * i + 1) = x) (hk : K (int1 x)) : ElX (l.map int1) (2 * (i : Int) + 1).toNat 1 K := by
  rw [show (2 * (i : Int) + 1).toNat = 2 * i + 1 by omega]; exact el_mapE int1_len hj hx hk
theorem el_vw {L : List Vw} {i : Nat} {K : List AV → Prop} {va vk vf : Nat} {vw : Bool} (hj : i < L.length) (hx : nth dV L i = (va, vk, vf, vw)) (hk : K [.int .i64 (va : Nat), .int .i64 (vk : Nat), .int .i64 (vf : Nat), .bool vw]) : ElX (L.map vwC) i 4 K := el_mapE vw_len hj hx hk
theorem tmodN {a n : Nat} : ((a : Nat) : Int).tmod ((n : Nat) : Int) = ((a % n : Nat) : Int) := by
  rw [Int.tmod_eq_emod_of_nonneg (by omega)]; omega
section
variable {L : List Vw} {R : List Rw}
end
end Go.Proofs.Ytccbhbdbmmkcdaa.Sh
