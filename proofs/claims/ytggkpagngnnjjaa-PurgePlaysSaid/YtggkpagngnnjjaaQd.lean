/-
  Check of a queue's state: the program's.
-/
import Derived.Test.YtggkpagngnnjjaaQc
set_option linter.unusedSimpArgs false
set_option linter.unusedVariables false
namespace Go.Pol
open Go.Am
def pgA (a : Int × Int) : List AV := [.int .i64 a.1, .int .i64 a.2]
theorem pg_len (a : Int × Int) : (pgA a).length = 2 := rfl
theorem pgA_plain (a : Int × Int) : ∀ x ∈ pgA a, Plain x := fun x hx => by
  simp only [pgA, List.mem_cons, List.not_mem_nil, or_false] at hx
  rcases hx with rfl | rfl <;> exact plain_int
def stP (age ref keep : Int) (l : List (Int × Int)) : AV := .agg [.int .i64 age, .int .i64 ref, .int .i64 keep, .isl (l.map pgA)]
theorem plain_pgs {l : List (Int × Int)} : Plain (.isl (l.map pgA)) := plain_isl fun e he => by
  obtain ⟨a, _, rfl⟩ := List.mem_map.1 he
  exact pgA_plain a
theorem plain_stP {age ref keep : Int} {l : List (Int × Int)} : Plain (stP age ref keep l) := plain_agg fun x hx => by
  simp only [List.mem_cons, List.not_mem_nil, or_false] at hx
  rcases hx with rfl | rfl | rfl | rfl
  · exact plain_int
  · exact plain_int
  · exact plain_int
  · exact plain_pgs
theorem plain_pgA {a : Int × Int} : Plain (.agg (pgA a)) := plain_agg (pgA_plain a)
def d0 : Int × Int := (0, 0)
def badSt (age ref keep : Int) : Prop := ref < 0 ∨ age < 0 ∨ 1000000000000 < age ∨ keep < 0 ∨ 1024 < keep
def P1 (l : List (Int × Int)) : Prop := ∀ j, j < l.length → okPg (nth d0 l j)
def P2 (l : List (Int × Int)) : Prop := ∀ j, j + 1 < l.length → ¬ ltP (nth d0 l (j + 1)) (nth d0 l j)
def P3 (l : List (Int × Int)) : Prop := ∀ j k, j < k → k < l.length → (nth d0 l j).1 ≠ (nth d0 l k).1
/-- What Check says of a state. -/
def Chk (age ref keep : Int) (l : List (Int × Int)) (r : Int) : Prop :=
  (badSt age ref keep ∧ r = 2) ∨ (¬ badSt age ref keep ∧ ¬ P1 l ∧ r = 7) ∨ (¬ badSt age ref keep ∧ P1 l ∧ ¬ P2 l ∧ r = 6) ∨ (¬ badSt age ref keep ∧ P1 l ∧ P2 l ∧ ¬ P3 l ∧ r = 8) ∨ (¬ badSt age ref keep ∧ P1 l ∧ P2 l ∧ P3 l ∧ r = 0)
section
variable {age ref keep r : Int} {l : List (Int × Int)}
theorem Chk.rng (h : Chk age ref keep l r) (h0 : ¬ badSt age ref keep) (h1 : ¬ P1 l) : r = 7 := by
  rcases h with h | h | h | h | h
  · exact absurd h.1 h0
  · exact h.2.2
  all_goals exact absurd h.2.1 h1
end
def S2 (l : List (Int × Int)) (i : Nat) : Prop := ∀ j, j + 1 < i → ¬ ltP (nth d0 l (j + 1)) (nth d0 l j)
def T3 (l : List (Int × Int)) (i : Nat) : Prop := ∃ j k, j < k ∧ k < i ∧ (nth d0 l j).1 = (nth d0 l k).1
def S4 (l : List (Int × Int)) (i : Nat) (M : Nat → Bool) : Prop := ∀ p : Nat, M p = true ↔ ∃ j, j < i ∧ (nth d0 l j).1 = (p : Int)
/-! A block of truth values. -/
def updB (M : Nat → Bool) (i : Nat) (v : Bool) : Nat → Bool := fun j => if j = i then v else M j
def memT (n : Nat) (M : Nat → Bool) : List AV := (List.range n).map fun k => .bool (M k)
section
variable {l : List (Int × Int)} {i p : Nat} {M : Nat → Bool}
end
end Go.Pol
namespace Go.Proofs.Ytggkpagngnnjjaa
open Go Go.Am Go.Pol
section
variable {age ref keep r : Int} {l : List (Int × Int)}
end
end Go.Proofs.Ytggkpagngnnjjaa
