/-
  Loading of states, plain: what is saved is loaded; what is loaded is saved.
-/
import Derived.Test.YtjlbfijjfjogiaaTa
set_option linter.unusedSimpArgs false
set_option linter.unusedVariables false
namespace Go.Pol
open Go.Am
section fold
variable {σ α : Type} {f : σ → α → Option σ}
def fo (f : σ → α → Option σ) : List α → σ → Option σ
  | [], s => some s
  | a :: l, s => match f s a with | none => none | some s' => fo f l s'
/-- After i steps. -/
def foA (f : σ → α → Option σ) (l : List α) (s : σ) (i : Nat) : σ := (fo f (l.take i) s).getD s
def foI (f : σ → α → Option σ) (l : List α) (s : σ) (i : Nat) : Prop := fo f (l.take i) s = some (foA f l s i)
end fold
/-- Runs: the next page, the last kind, the kinds. -/
structure Sr where
  nx : Int
  la : Int
  K : Nat → Int
def badRn (s : Sr) (r : Rn) : Prop := r.p < s.nx ∨ r.n < 1 ∨ 1024 - r.p < r.n ∨ r.k < 1 ∨ 3 < r.k ∨ (r.p = s.nx ∧ r.k = s.la)
instance (s : Sr) (r : Rn) : Decidable (badRn s r) := by unfold badRn; infer_instance
def stR (s : Sr) (r : Rn) : Option Sr := if badRn s r then none else some ⟨r.p + r.n, r.k, setR s.K r.p.toNat r.n.toNat r.k⟩
structure Su where
  lo : Int
  G : Nat → Bool
def stU (K : Nat → Int) (s : Su) (u : Int) : Option Su := if u ≤ s.lo ∨ ¬ fst u ∨ ¬ okC K u.toNat 16 then none else some ⟨u, updB s.G (u.toNat / 16) true⟩
structure Sd where
  lo : Int
  B : Nat → Nat → Int
def stD (K : Nat → Int) (s : Sd) (d : Dt) : Option Sd := if d.p ≤ s.lo ∨ d.p < 0 ∨ 1024 ≤ d.p ∨ K d.p.toNat ≠ 2 ∨ zeroB d.b then none else some ⟨d.p, updP s.B d.p.toNat d.b⟩
def r0 : Sr := ⟨0, 0, fun _ => 0⟩
def u0 : Su := ⟨-1, fun _ => false⟩
def d0 : Sd := ⟨-1, fun _ _ => 0⟩
/-- The program's Load, the pages. -/
def ldP (x : Vs) : Option Sy := match fo stR x.R r0 with | none => none | some r => match fo (stU r.K) x.U u0 with | none => none | some u => match fo (stD r.K) x.D d0 with | none => none | some d => some ⟨r.K, u.G, d.B, x.l, x.C, x.H⟩
/-- No byte is said of places that are none. -/
def Vs.cn (x : Vs) : Prop := ∀ d, d ∈ x.D → ∀ j, 64 ≤ j → d.b j = 0
section
variable {K K' : Nat → Int} {n : Nat}
def cutK (K : Nat → Int) (n : Nat) : Nat → Int := fun p => if p < n then K p else 0
end
/-- The pages of a state that is as it should be. -/
structure Pg (s : Sy) : Prop where
  kind : ∀ p, 0 ≤ s.K p ∧ s.K p ≤ 3
  huge : ∀ p, s.M p = true → s.K p = 2
  zero : ∀ p, s.K p ≠ 2 → s.B p = fun _ => 0
  cK : ∀ p, 1024 ≤ p → s.K p = 0
  cB : ∀ p j, 64 ≤ j → s.B p j = 0
/-- The document's Load: what the state says is laid out. -/
def badL (r : Rn) : Prop := r.p < 0 ∨ 1024 ≤ r.p ∨ r.n < 1 ∨ 1024 - r.p < r.n ∨ r.k < 1 ∨ 3 < r.k
instance (r : Rn) : Decidable (badL r) := by unfold badL; infer_instance
def lyR (K : Nat → Int) (r : Rn) : Option (Nat → Int) := if badL r then none else some (setR K r.p.toNat r.n.toNat r.k)
def lyU (K : Nat → Int) (G : Nat → Bool) (u : Int) : Option (Nat → Bool) := if ¬ fst u ∨ ¬ okC K u.toNat 16 then none else some (updB G (u.toNat / 16) true)
def lyD (B : Nat → Nat → Int) (d : Dt) : Option (Nat → Nat → Int) := if d.p < 0 ∨ 1024 ≤ d.p then none else some (updP B d.p.toNat d.b)
def ldL (x : Vs) : Option Sy := match fo lyR x.R (fun _ => 0) with | none => none | some K => match fo (lyU K) x.U (fun _ => false) with | none => none | some G => match fo lyD x.D (fun _ _ => 0) with | none => none | some B => some ⟨K, G, B, x.l, x.C, x.H⟩
def Sy.saveR (s : Sy) : Vs := { s.save with D := dataTo (fun p => if s.K p = 2 then s.B p else fun _ => 0) 1024 }
end Go.Pol
