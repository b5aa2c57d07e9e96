/-
  What a row's reading of an argument is, as abstract values, by the shape of its type. No program in sight.
-/
import Derived.Test.YtccbhbdbmmkcdaaAmSev
import Derived.Carry
import Derived.OpenShut
set_option linter.unusedSimpArgs false
set_option linter.unusedVariables false
namespace Go.Am
open Go.ChangeShapes Go.WideShapes Go.ChangeAt Go.RowKit
/-- Shapes of types. -/
inductive Ty where
  | bool | int (k : IntKind) | str | slice (e : Ty) | nil | cons (a b : Ty) | struct (T : Ty) | arr (k : IntKind) (n : Nat)
def Ty.size : Ty → Nat
  | .bool => 1
  | .int _ => 1
  | .str => 1
  | .slice _ => 1
  | .nil => 0
  | .cons a b => a.size + b.size
  | .struct T => T.size
  | .arr _ n => n
def isBool : Option TypeDesc → Bool
  | some .bool => true
  | _ => false
/-- The shape is that of a type; of a list of fields, from an offset on. -/
def tyOk (P : Program) : Ty → (TypeId → Bool) × (Nat → List Field → Bool)
  | .bool => (fun t => match P.underlying t with | some .bool => true | _ => false, fun _ _ => false)
  | .int k => (fun t => match P.underlying t with | some (.int k') => decide (k = k') | _ => false, fun _ _ => false)
  | .str => (fun t => match P.underlying t with | some .string => true | _ => false, fun _ _ => false)
  | .slice e => (fun t => match P.underlying t with | some (.slice e') => (tyOk P e).1 e' && decide (P.cellsOf e' = e.size) && decide (0 < e.size) | _ => false, fun _ _ => false)
  | .nil => (fun _ => false, fun _ fs => match fs with | [] => true | _ :: _ => false)
  | .cons a b => (fun _ => false, fun off fs => match fs with | [] => false | f :: r => decide (f.offset = off) && decide (P.cellsOf f.type = a.size) && (tyOk P a).1 f.type && (tyOk P b).2 (off + a.size) r)
  | .struct T => (fun t => match P.underlying t with | some (.struct fs) => decide (P.cellsOf t = T.size) && (tyOk P T).2 0 fs.toList | _ => false, fun _ _ => false)
  | .arr k n => (fun t => match P.underlying t with | some (.array n' e) => decide (n' = n) && decide (P.cellsOf t = n) && decide (P.cellsOf e = 1) && (match P.underlying e with | some (.int k') => decide (k = k') | _ => false) | _ => false, fun _ _ => false)
/-- The cells of a value of that shape. -/
def Shp : Ty → List AV → Prop
  | .bool, xs => ∃ b, xs = [.bool b]
  | .int k, xs => ∃ n, xs = [.int k n] ∧ (Lit.int k n).wf = true
  | .str, xs => ∃ s, xs = [.str s] ∧ s.size ≤ maxLen
  | .slice e, xs => ∃ els : List (List AV), xs = [.isl els] ∧ els.length ≤ maxLen ∧ ∀ el ∈ els, Shp e el
  | .nil, xs => xs = []
  | .cons a b, xs => ∃ ys zs, xs = ys ++ zs ∧ Shp a ys ∧ Shp b zs
  | .struct T, xs => Shp T xs
  | .arr k n, xs => ∃ l : List Int, xs = l.map (AV.int k) ∧ l.length = n ∧ ∀ x ∈ l, (Lit.int k x).wf = true
section
variable {P : Program} {H : Type} {enc : TypeId × Value → H} {spare : Nat → Bool} {held : Bool} {W : World}
def Rd1 (P : Program) (enc : TypeId × Value → H) (spare : Nat → Bool) (held : Bool) (W : World) (T : Ty) : Prop := ∀ t, (tyOk P T).1 t = true → ∀ (fuel : Nat) (cs : List Value) (x : DataW H × List MemPlace), DataW.trod enc P W 0 spare held fuel t cs = some x →
    ∃ xs, Shp T xs ∧ xs.length = T.size ∧ cs.length = xs.length ∧ RC1 (RR (baseCx W)) xs fun j => cs[j]?
def Rd2 (P : Program) (enc : TypeId × Value → H) (spare : Nat → Bool) (held : Bool) (W : World) (T : Ty) : Prop := ∀ (off : Nat) (fs : List Field), (tyOk P T).2 off fs = true → ∀ (n : Nat) (cs : List Value),
    (∀ (i : Nat) (f : Field), fs[i]? = some f → ∃ x, DataW.trod enc P W 0 spare held n f.type ((cs.drop f.offset).take (P.cellsOf f.type)) = some x) →
    ∃ xs, Shp T xs ∧ xs.length = T.size ∧ RC1 (RR (baseCx W)) xs fun j => cs[off + j]?
/-- An argument. -/
def argV : Ty → List AV → AV
  | .struct _, xs => .agg xs
  | .arr _ _, xs => .agg xs
  | _, x :: _ => x
  | _, [] => .undef
/-- All arguments. -/
def ShpAll : List Ty → List (List AV) → Prop
  | [], [] => True
  | T :: Ts, xs :: r => Shp T xs ∧ ShpAll Ts r
  | _, _ => False
def tysOk (P : Program) : List Ty → List TypeId → Bool
  | [], [] => true
  | T :: Ts, t :: ts => (tyOk P T).1 t && tysOk P Ts ts
  | _, _ => false
def argVs : List Ty → List (List AV) → List AV
  | T :: Ts, xs :: r => argV T xs :: argVs Ts r
  | _, _ => []
end
end Go.Am
