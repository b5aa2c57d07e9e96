/-
  Calls over a table and a system: byteOf, all, Write.
-/
import Derived.Test.YtccbhbdbmmkcdaaAmWt
import Derived.Test.YtccbhbdbmmkcdaaShE
import Derived.Test.YtccbhbdbmmkcdaaAmWn
set_option linter.unusedSimpArgs false
set_option linter.unusedVariables false
namespace Go.Pol
open Go.Am
/-- What is read at a place, and at the place 5, of each view. -/
def allL (s : Sy) (k : Nat) (L : List Vw) : List Int := L.flatMap fun v => [s.B v.2.2.1 k, s.B v.2.2.1 5]
end Go.Pol
namespace Go.Proofs.Ytccbhbdbmmkcdaa.Sh
open Go Go.Am Go.Pol
def int1 (n : Int) : List AV := [.int .i64 n]
theorem int1_plain (n : Int) : ∀ x ∈ int1 n, Plain x := fun x hx => by obtain rfl := List.mem_singleton.1 hx; exact plain_int
theorem plain_is {l : List Int} : Plain (.isl (l.map int1)) := plain_isl fun e he => by
  obtain ⟨n, _, rfl⟩ := List.mem_map.1 he; exact int1_plain n
/-- A call on a table and a system. -/
structure LocTX (f : Nat) (avs : List AV) (t : TS) (s : Sy) (r : AV) (s' : Sy) : Prop where
  out : LocC Try.prog G0 f (.ptr 0 0 :: .ptr 5 0 :: avs) (rdN t s 0 1 2 3 4 5) 6 fun x h1 => x = r ∧ h1 = ⟨rdN t s' 0 1 2 3 4 5, 6⟩
  pa : ∀ x ∈ avs, Plain x
  pr : Plain r
section
variable {L : List Vw} {t : TS} {s : Sy} {v : Vw} {fs : List Nat}
end
end Go.Proofs.Ytccbhbdbmmkcdaa.Sh
