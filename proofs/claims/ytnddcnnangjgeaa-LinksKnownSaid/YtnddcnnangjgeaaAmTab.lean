/-
  Tables of functions; closed calls. No program in sight.
-/
import Derived.Test.YtnddcnnangjgeaaAmRunB
namespace Go.Am
def findT (f : Nat) : List (Nat × ACode × List ARes × Nat) → Option (ACode × List ARes × Nat)
  | [] => none
  | (g, x) :: r => if f = g then some x else findT f r
def AllT (P : Program) : List (Nat × ACode × List ARes × Nat) → Prop
  | [] => True
  | (g, ac, rs, n) :: r => Body P g ac rs n ∧ AllT P r
theorem tabOk_of {P : Program} : ∀ {L : List (Nat × ACode × List ARes × Nat)}, AllT P L → tabOk P fun f => findT f L
  | [], _ => fun f ac rs k h => by cases h
  | (g, x) :: r, hL => fun f ac rs k h => by
    obtain ⟨ac1, rs1, k1⟩ := x
    simp only [findT] at h
    split at h
    · rename_i e; subst e; cases h; exact hL.1
    · exact tabOk_of hL.2 f ac rs k h
def isTrue : Option (AV × Hp) → Bool
  | some (.bool true, _) => true
  | _ => false
/-- A closed call that gives true. -/
theorem closed_true {P : Program} {G : Gl} (hmix : P.follows .mixedOrders = true) {T : Tab} (hT : tabOk P T) (hG : PlainG G) {n f : Nat} (h : isTrue (callE T G (n + 1) (.fn f [] []) [] ⟨[], 0⟩) = true) : PureC P G f [] (.bool true) := by
  generalize e : callE T G (n + 1) (.fn f [] []) [] ⟨[], 0⟩ = x at h
  match x, e, h with
  | some (.bool true, h1), e, _ => exact callE_pureW hmix hT hG (callE_sound hmix hT hG n).1 (callE_sound hmix hT hG n).2 e (fun x hx => by cases hx) plain_bool (wk_plain0 plain_bool)
end Go.Am
