/-
  Fork.
-/
import Derived.Test.YtccbhbdbmmkcdaaAmWt
import Derived.Test.YtccbhbdbmmkcdaaShE
set_option linter.unusedSimpArgs false
set_option linter.unusedVariables false
namespace Go.Pol
open Go.Am
/-- A view that may not be written; the one of another arena. -/
def roV (v : Vw) : Vw := (v.1, v.2.1, v.2.2.1, false)
def cpV (b : Nat) (v : Vw) : Vw := (b, v.2.1, v.2.2.1, false)
/-- What a table has when the first views were forked. -/
structure Frk (L O : List Vw) (b k : Nat) (M : List Vw) : Prop where
  mem : ∀ v, v ∈ M ↔ (v ∈ L ∧ v ∉ O.take k) ∨ ∃ u, u ∈ O.take k ∧ (v = roV u ∨ v = cpV b u)
  len : M.length = L.length + k
theorem mem_take_s {L : List Vw} {k : Nat} (hk : k < L.length) {v : Vw} : v ∈ L.take (k + 1) ↔ v ∈ L.take k ∨ v = nth dV L k := by
  rw [take_nth (d := dV) hk, List.mem_append, List.mem_singleton]
end Go.Pol
namespace Go.Proofs.Ytccbhbdbmmkcdaa.Sh
open Go Go.Am Go.Pol
section
variable {L : List Vw} {t : TS}
end
end Go.Proofs.Ytccbhbdbmmkcdaa.Sh
