/-
  Orders of a queue: plain; and why a page is ordered (the functions that collect gets).
-/
import Derived.Test.YtggkpagngnnjjaaQi
set_option linter.unusedSimpArgs false
set_option linter.unusedVariables false
namespace Go.Pol
open Go.Am
/-- Why the page at a place is ordered at a time; 0: it is not. -/
def whyT (age keep now : Int) (l : List (Int × Int)) (i : Nat) : Int := if (nth d0 l i).2 + age ≤ now then 1 else if keep < (l.length : Int) - i then 2 else 0
/-- Why the page at a place is among the first n. -/
def whyF (n why : Int) (i : Nat) : Int := if n ≤ (i : Nat) then 0 else why
/-- All pages, with reasons. -/
def ordL (l : List (Int × Int)) (W : Nat → Int) : List (Int × Int) := (List.range l.length).map fun i => ((nth d0 l i).1, W i)
/-- Where the collecting stops. -/
structure Stop (W : Nat → Int) (n k : Nat) : Prop where
  le : k ≤ n
  on : ∀ i, i < k → W i ≠ 0
  off : k = n ∨ W k = 0
theorem plain_val2 {p st : Int} : Plain (.agg [.int .i64 p, .int .i64 st]) := plain_agg fun x hx => by
  simp only [List.mem_cons, List.not_mem_nil, or_false] at hx
  rcases hx with rfl | rfl <;> exact plain_int
end Go.Pol
namespace Go.Proofs.Ytggkpagngnnjjaa
open Go Go.Am Go.Pol
/-- The store of Tick's function. -/
def tS (x : QD) (now : Int) : List (Nat × AObj) := [(0, .cells [.ptr 2 0]), (1, .cells [.int .i64 now]), (2, .cells (x.que 3)), (3, .cells (x.pool 4 5)), (4, .cells x.cells), (5, .cells x.ends)]
section
variable {x : QD}
structure ClosT (x : QD) (now p st left r : Int) : Prop where
  out : LocC Try.prog G0 46 [.agg [.int .i64 p, .int .i64 st], .int .i64 left, .ptr 0 0, .ptr 1 0] (tS x now) 6 fun v h1 => v = .int .i64 r ∧ h1 = ⟨tS x now, 6⟩
/-- Force's function. -/
def fS (all n why : Int) : List (Nat × AObj) := [(0, .cells [.int .i64 all]), (1, .cells [.int .i64 n]), (2, .cells [.int .i64 why])]
structure ClosF (all n why p st left r : Int) : Prop where
  out : LocC Try.prog G0 47 [.agg [.int .i64 p, .int .i64 st], .int .i64 left, .ptr 0 0, .ptr 1 0, .ptr 2 0] (fS all n why) 3 fun v h1 => v = .int .i64 r ∧ h1 = ⟨fS all n why, 3⟩
end
end Go.Proofs.Ytggkpagngnnjjaa
