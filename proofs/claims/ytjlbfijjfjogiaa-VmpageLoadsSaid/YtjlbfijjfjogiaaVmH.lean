/-
  The law's step, over any contracts of both systems' methods.
  What a step and a call of the law do, plain; both walked.
-/
import Derived.Test.YtjlbfijjfjogiaaVmG
set_option linter.unusedSimpArgs false
set_option linter.unusedVariables false
namespace Go.Proofs.Ytjlbfijjfjogiaa
open Go Go.Am Go.Pol
/-- A step of both: the systems' blocks behind it. -/
structure LocU (x : Ac) (cs cs' ds ds' : List AV) : Prop where
  out : LocC Try.prog G0 23 [.ptr 0 0, .ptr 1 0, .agg (acA x)] [(0, .cells cs), (1, .cells cs')] 2 fun v h => v = .tup [.ptr 0 0, .bool true] ∧ h = ⟨[(0, .cells ds), (1, .cells ds')], 2⟩
  pc : ∀ x ∈ cs, Plain x
  pc' : ∀ x ∈ cs', Plain x
  pd : ∀ x ∈ ds, Plain x
  pd' : ∀ x ∈ ds', Plain x
section
variable {x : Ac} {cs cs' ds ds' : List AV} {e e1 e2 c0 c1 c2 c3 c4 : Int} {h : Bool}
end
end Go.Proofs.Ytjlbfijjfjogiaa
namespace Go.Pol
open Go.Am
/-- What a call does, and its error. -/
def Sy.call (s : Sy) (x : Ac) : Int × Sy :=
  if x.w % 19 = 0 ∨ x.w % 19 = 1 then s.chg x.p x.n 0 1 0 else if x.w % 19 = 2 then s.chg x.p x.n 1 0 1 else
  if x.w % 19 = 3 ∨ x.w % 19 = 4 ∨ x.w % 19 = 5 then s.chg x.p x.n 1 2 2 else if x.w % 19 = 6 ∨ x.w % 19 = 7 then s.chg x.p x.n 2 1 3 else
  if x.w % 19 = 8 ∨ x.w % 19 = 9 then (if decide (x.n.tmod 2 = 0) = true then s.chg x.p x.n 1 3 4 else s.chg x.p x.n 3 1 4) else
  if x.w % 19 = 10 ∨ x.w % 19 = 11 then s.join x.p else if x.w % 19 = 12 then s.split x.p else
  if x.w % 19 = 13 ∨ x.w % 19 = 14 ∨ x.w % 19 = 15 then s.write x.t x.b else s.plan x.l
/-- What a step leaves (no step saves and loads here). -/
def Sy.step (s : Sy) (x : Ac) : Sy :=
  if x.w % 19 = 9 then (s.chg x.p x.n 3 1 4).2 else if x.w % 19 = 15 ∨ x.w % 19 = 16 then s else (s.call x).2
end Go.Pol
namespace Go.Proofs.Ytjlbfijjfjogiaa
open Go Go.Am Go.Pol
section
variable {s : Sy} {x : Ac}
end
end Go.Proofs.Ytjlbfijjfjogiaa
