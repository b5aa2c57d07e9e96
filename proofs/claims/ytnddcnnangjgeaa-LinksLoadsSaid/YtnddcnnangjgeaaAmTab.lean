/-
  Tables of functions; closed calls. No program in sight.
-/
import Derived.Test.YtnddcnnangjgeaaAmRunB
set_option linter.unusedSimpArgs false
set_option linter.unusedVariables false
namespace Go.Am
def findT (f : Nat) : List (Nat × ACode × List ARes × Nat) → Option FnE
  | [] => none
  | (g, ac, rs, n) :: r => if f = g then some (.code ac rs n) else findT f r
def AllT (P : Program) : List (Nat × ACode × List ARes × Nat) → Prop
  | [] => True
  | (g, ac, rs, n) :: r => Body P g ac rs n ∧ AllT P r
theorem tabOk_of {P : Program} : ∀ {L : List (Nat × ACode × List ARes × Nat)}, AllT P L → tabOk P fun f => findT f L
  | [], _ => fun f ac rs k h => by cases h
  | (g, ac1, rs1, k1) :: r, hL => fun f ac rs k h => by
    simp only [findT] at h
    split at h
    · rename_i e; subst e; cases h; exact hL.1
    · exact tabOk_of hL.2 f ac rs k h
theorem findT_code {f : Nat} {F : List AV → Hp → Option (AV × Hp)} : ∀ {L : List (Nat × ACode × List ARes × Nat)}, findT f L ≠ some (.orc F)
  | [], h => by cases h
  | (g, ac, rs, n) :: r, h => by
    simp only [findT] at h
    split at h
    · cases h
    · exact findT_code h
theorem orcOk_none {P : Program} {G : Gl} {L : List (Nat × ACode × List ARes × Nat)} : orcOk P G fun f => findT f L := fun f F h => absurd h findT_code
/-- A table with something known ahead of the code. -/
def tabWith (f : Nat) (F : List AV → Hp → Option (AV × Hp)) (T : Tab) : Tab := fun g => if g = f then some (.orc F) else T g
def isTrue : Option (AV × Hp) → Bool
  | some (.bool true, _) => true
  | _ => false
/-- A closed call that gives true. -/
theorem closed_true {P : Program} {G : Gl} (hmix : P.follows .mixedOrders = true) {T : Tab} (hT : tabOk P T) (hO : orcOk P G T) (hG : PlainG G) {n f : Nat} (hcode : FnE.isCode (T f) = true) (h : isTrue (callE T G (n + 1) (.fn f [] []) [] ⟨[], 0⟩) = true) : PureC P G f [] (.bool true) := by
  generalize e : callE T G (n + 1) (.fn f [] []) [] ⟨[], 0⟩ = x at h
  match x, e, h with
  | some (.bool true, h1), e, _ => exact callE_pureW hmix hT hG (callE_sound hmix hT hO hG n).1 (callE_sound hmix hT hO hG n).2 hcode e (fun x hx => by cases hx) plain_bool (wk_plain0 plain_bool)
end Go.Am
