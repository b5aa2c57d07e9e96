/-
  Extents of pages: plain.
-/
import Derived.Test.YtggkpagngnnjjaaQi
set_option linter.unusedSimpArgs false
set_option linter.unusedVariables false
namespace Go.Pol
open Go.Am
abbrev Ex := Int × Int × Int
def exA (e : Ex) : List AV := [.int .i64 e.1, .int .i64 e.2.1, .int .i64 e.2.2]
/-- One page more. -/
def exS (E : List Ex) (p : Int × Int) : List Ex :=
  match E.getLast? with
  | some e => if e.2.2 = p.2 ∧ e.2.1 = p.1 then E.dropLast ++ [(e.1, e.2.1 + 1, e.2.2)] else E ++ [(p.1, p.1 + 1, p.2)]
  | none => [(p.1, p.1 + 1, p.2)]
/-- The extents of the first pages. -/
def exN (l : List (Int × Int)) (k : Nat) : List Ex := (l.take k).foldl exS []
/-- A growing slice of extents of its own. -/
def exV (d : Nat) : Nat → AV
  | 0 => .nils
  | k + 1 => .sl d 0 (k + 1) (k + 1) 3
def exH (d : Nat) (E : List Ex) : Nat → List (Nat × AObj)
  | 0 => []
  | _ + 1 => [(d, .cells (flat exA E))]
end Go.Pol
