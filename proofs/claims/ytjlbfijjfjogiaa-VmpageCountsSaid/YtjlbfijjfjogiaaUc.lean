/-
  The law's call, over any contracts of the system's methods.
-/
import Derived.Test.YtjlbfijjfjogiaaUa
set_option linter.unusedSimpArgs false
set_option linter.unusedVariables false
namespace Go.Pol
open Go.Am
theorem tm19 {w k : Nat} (h : w % 19 = k) : ((w : Nat) : Int).tmod 19 = ((k : Nat) : Int) := by rw [← h]; exact (Int.ofNat_tmod w 19).symm
theorem plain_acl {x : Ac} : ∀ y ∈ acA x, Plain y := fun y hy => by
  unfold acA at hy
  simp only [List.mem_cons, List.not_mem_nil, or_false] at hy
  rcases hy with rfl | rfl | rfl | rfl | rfl | rfl
  · exact plain_int
  · exact plain_int
  · exact plain_int
  · exact plain_int
  · exact plain_int
  · exact plain_isls rlA_plain
theorem plain_ac {x : Ac} : Plain (.agg (acA x)) := plain_agg plain_acl
end Go.Pol
namespace Go.Proofs.Ytjlbfijjfjogiaa
open Go Go.Am Go.Pol
section
variable {x : Ac} {cs ds : List AV} {r : AV}
end
end Go.Proofs.Ytjlbfijjfjogiaa
