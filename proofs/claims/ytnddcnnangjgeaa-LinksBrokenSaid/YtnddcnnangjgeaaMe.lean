/-
  The reference's Load.
-/
import Derived.Test.YtnddcnnangjgeaaMc
import Derived.Test.YtnddcnnangjgeaaMd
set_option linter.unusedSimpArgs false
set_option linter.unusedVariables false
namespace Go.Pol
open Go.Am
def valZ (V V' : Nat → Int) (Q : Nat → List Nat) : Prop := valQ V V' Q ∧ ∀ s, (∀ j, s ∉ Q j) → V' s = 0
/-- A growing slice of its own, of a list's first k slots. -/
def gV (d : Nat) : Nat → AV
  | 0 => .nils
  | k + 1 => .sl d 0 (k + 1) (k + 1) 1
def gH (d : Nat) (O : List Nat) : Nat → List (Nat × AObj)
  | 0 => []
  | k + 1 => [(d, .cells (flat slotA (O.take (k + 1))))]
/-- The lists below i are made; list i is v. -/
def ofW (m : Nat) (Q : Nat → List Nat) (i : Nat) (v : AV) : List AV := (List.range m).map fun j => if j < i then .isl ((Q j).map slotA) else if j = i then v else .nils
section
variable {m i : Nat} {Q : Nat → List Nat} {v : AV}
end
end Go.Pol
namespace Go.Proofs.Ytnddcnnangjgeaa
open Go Go.Am Go.Pol
section
variable {n m : Nat} {V L N P A B C : Nat → Int} {Q : Nat → List Nat}
end
end Go.Proofs.Ytnddcnnangjgeaa
