/-
  LinksPlays: the walk of the law.
-/
import Derived.Test.YtnddcnnangjgeaaLr
set_option linter.unusedSimpArgs false
set_option linter.unusedVariables false
namespace Go.Pol
open Go.Am
def callsA (l : List Cl) : AV := .isl (l.map callA)
end Go.Pol
namespace Go.Proofs.Ytnddcnnangjgeaa
open Go Go.Am Go.Pol
section
variable {n m : Nat} {V : Nat → Int} {Q : Nat → List Nat} {S : PS}
end
/-- A contract of a pure call, as a thing of its own. -/
structure PureS (f : Nat) (args : List AV) (r : AV) : Prop where
  out : PureC Try.prog G0 f args r
theorem cx_pureS {g : Nat} {avs : List AV} {r : AV} {h : Hp} {K : AV → Hp → Prop} (hp : PureS g avs r) (hk : K r h) : CallX Try.prog G0 (.fn g [] []) avs h K := cx_pure (by simpa using hp.out) hk
end Go.Proofs.Ytnddcnnangjgeaa
