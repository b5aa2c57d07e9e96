/-
  Regions that draw their order and change something, step by step. No program in sight.
-/
import Derived.Test.YtnddcnnangjgeaaAmCall
set_option linter.unusedSimpArgs false
set_option linter.unusedVariables false
namespace Go.Am
section
variable {P : Program} {G : Gl} {rd : Option Nat} {N : Nat} {anc : List (List Nat)} {n k b : Nat} {log : List Ent} {Q : List AV → Hp → Prop} {fr : List AV} {h : Hp}
def goD (P : Program) (G : Gl) (anc : List (List Nat)) (n : Nat) (o : AOper) (os : List AOper) (k b : Nat) (log : List Ent) (Q : List AV → Hp → Prop) (fr : List AV) (h : Hp) : Option (AV × Up × List Nat) → Prop
  | some (v, up, r) => runD P G anc n os (k + 1) b (log ++ [entOf o true up r]) Q (setO fr o.dst v) (h.appD up)
  | none => False
def goDG (P : Program) (G : Gl) (anc : List (List Nat)) (n : Nat) (o : AOper) (w : Bool) (os : List AOper) (k b : Nat) (log : List Ent) (Q : List AV → Hp → Prop) (fr : List AV) (h : Hp) (x : Option AV) : Prop :=
  guardM x w (goD P G anc n o os k b log Q fr h (evalA (ax G fr) (lk h.l) h.next o.op)) (runD P G anc n os (k + 1) b (log ++ [entOf o false [] []]) Q (setO fr o.dst (.tup [])) (h.appD []))
def goDCall (P : Program) (G : Gl) (anc : List (List Nat)) (n : Nat) (d : Option Nat) (os : List AOper) (k : Nat) (Q : List AV → Hp → Prop) (fr : List AV) (h : Hp) (fv : AV) (avs : List AV) : Prop := CallV P G fv avs h fun v h' => runD P G anc n os (k + 1) (k + 1) [] Q (setO fr d v) h'
end
end Go.Am
