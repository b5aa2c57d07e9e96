/-
  Saved states, plain: runs, huge pages, data of a state.
-/
import Derived.Test.YtjlbfijjfjogiaaSj
set_option linter.unusedSimpArgs false
set_option linter.unusedVariables false
namespace Go.Pol
open Go.Am
structure Rn where
  p : Int
  n : Int
  k : Int
def rnA (r : Rn) : List AV := [.int .i64 r.p, .int .i64 r.n, .int .i64 r.k]
/-- The bytes of a page. -/
@[irreducible] def byA (b : Nat → Int) : List AV := (List.range 64).map fun j => .int .u8 (b j)
@[simp] theorem by_len (b : Nat → Int) : (byA b).length = 64 := by unfold byA; simp
structure Dt where
  p : Int
  b : Nat → Int
def dtA (d : Dt) : List AV := .int .i64 d.p :: byA d.b
def inA (u : Int) : List AV := [.int .i64 u]
/-- The last run has one page more. -/
def bump : List Rn → List Rn
  | [] => []
  | [r] => [⟨r.p, r.n + 1, r.k⟩]
  | r :: r' :: L => r :: bump (r' :: L)
def runsTo (K : Nat → Int) : Nat → List Rn
  | 0 => []
  | n + 1 => if K n = 0 then runsTo K n else if 0 < n ∧ K (n - 1) = K n then bump (runsTo K n) else runsTo K n ++ [⟨(n : Nat), 1, K n⟩]
def hugeTo (G : Nat → Bool) : Nat → List Int
  | 0 => []
  | n + 1 => if n % 16 = 0 ∧ G (n / 16) = true then hugeTo G n ++ [((n : Nat) : Int)] else hugeTo G n
def zeroB (f : Nat → Int) : Prop := ∀ j, j < 64 → f j = 0
instance (f : Nat → Int) : Decidable (zeroB f) := by unfold zeroB; infer_instance
def dataTo (B : Nat → Nat → Int) : Nat → List Dt
  | 0 => []
  | n + 1 => if zeroB (B n) then dataTo B n else dataTo B n ++ [⟨(n : Nat), B n⟩]
section
variable {K : Nat → Int} {G : Nat → Bool} {B : Nat → Nat → Int} {n p j : Nat}
end
structure Vs where
  R : List Rn
  U : List Int
  D : List Dt
  l : List Rl
  C : Nat → Int
  H : Nat → Int
def vsA (x : Vs) : List AV := .isl (x.R.map rnA) :: .isl (x.U.map inA) :: .isl (x.D.map dtA) :: stA x.l x.C x.H
theorem plain_isls {α : Type} {f : α → List AV} {L : List α} (h : ∀ a, ∀ x ∈ f a, Plain x) : Plain (.isl (L.map f)) := plain_isl fun e he => by
  obtain ⟨b, _, rfl⟩ := List.mem_map.1 he
  exact h b
def Sy.save (s : Sy) : Vs := ⟨runsTo s.K 1024, hugeTo s.G 1024, dataTo s.B 1024, s.l, s.C, s.H⟩
end Go.Pol
