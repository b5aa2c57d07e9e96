/-
  Stores that are written out; what a call does; one operation after the other. No program in sight.
-/
import Derived.Test.YtggkpagngnnjjaaAmSnd
import Derived.RangeFuncIn
import Derived.RangeFuncLeaves
set_option linter.unusedSimpArgs false
set_option linter.unusedVariables false
namespace Go.Am
/-- A store, written out: names with their objects, and the first name that is free. -/
structure Hp where
  l : List (Nat × AObj)
  next : Nat
def lk : List (Nat × AObj) → At
  | [], _ => none
  | (i, o) :: r, j => if j = i then some o else lk r j
def put : List (Nat × AObj) → Nat → Option AObj → List (Nat × AObj)
  | [], _, none => []
  | [], i, some o => [(i, o)]
  | (j, p) :: r, i, some o => if i = j then (i, o) :: r else (j, p) :: put r i (some o)
  | (j, p) :: r, i, none => if i = j then put r i none else (j, p) :: put r i none
def puts (l : List (Nat × AObj)) : Up → List (Nat × AObj)
  | [] => l
  | (i, o) :: r => put (puts l r) i o
theorem lk_put (l : List (Nat × AObj)) (i : Nat) (o : Option AObj) : lk (put l i o) = upd (lk l) [(i, o)] := by
  funext j
  simp only [upd]
  induction l with
  | nil => cases o <;> simp [put, lk]
  | cons p r ih =>
    obtain ⟨q, x⟩ := p
    cases o with
    | some o =>
      simp only [put]
      by_cases e : i = q
      · subst e
        by_cases e2 : j = i <;> simp [lk, e2]
      · rw [if_neg e]
        simp only [lk]
        by_cases e2 : j = q
        · subst e2; simp [Ne.symm e]
        · simp only [e2, if_false]; exact ih
    | none =>
      simp only [put]
      by_cases e : i = q
      · subst e
        rw [if_pos rfl, ih]
        by_cases e2 : j = i <;> simp [lk, e2]
      · rw [if_neg e]
        simp only [lk]
        by_cases e2 : j = q
        · subst e2; simp [Ne.symm e]
        · simp only [e2, if_false]; exact ih
theorem lk_puts (l : List (Nat × AObj)) : ∀ up : Up, lk (puts l up) = upd (lk l) up
  | [] => rfl
  | (i, o) :: r => by rw [puts, lk_put, lk_puts l r]; rfl
def hasKey (up : Up) (i : Nat) : Bool := up.any fun p => p.1 == i
/-- A change of the store; the free name is used up if it was taken. -/
def Hp.app (h : Hp) (up : Up) : Hp := { l := puts h.l up, next := if hasKey up h.next then h.next + 1 else h.next }
/-- The store that is written out is the one that there is. -/
structure Mat (c : Cx) (h : Hp) : Prop where
  at_ : c.at_ = lk h.l
  U : ∀ i, c.U i ↔ i < h.next
theorem Mat.fresh {c : Cx} {h : Hp} (m : Mat c h) : ¬ c.U h.next := by rw [m.U]; omega
theorem Mat.app {c c' : Cx} {h : Hp} {up : Up} (m : Mat c h) (ha : c'.at_ = upd c.at_ up) (hu : ∀ i, c'.U i ↔ c.U i ∨ i ∈ newOf up h.next) : Mat c' (h.app up) := by
  refine ⟨by rw [ha, m.at_, Hp.app, lk_puts], fun i => ?_⟩
  rw [hu, m.U]
  unfold newOf Hp.app hasKey
  by_cases e : up.any (fun p => p.1 == h.next) = true
  · simp only [e, if_true, List.mem_singleton]; omega
  · simp only [e, if_false]; simp

/-- The deferred blocks of an activation: each is there, and nothing writes it; they were made since the heap had B blocks. -/
def DF (B : Nat) (c : Cx) (ds : List Deferred) : Prop := ds.Pairwise (fun d e => d.target ≠ e.target) ∧ ∀ d ∈ ds, ∃ r, d = { target := .collected r, args := #[] } ∧ B ≤ r ∧ c.Froz r ∧ c.w.heap[r]? = some (.deferred (some []))
theorem DF.ext {B : Nat} {c c' : Cx} (e : Ext c c') {ds : List Deferred} (h : DF B c ds) : DF B c' ds := ⟨h.1, fun d hd => by
  obtain ⟨r, h1, h0, h2, h3⟩ := h.2 d hd
  exact ⟨r, h1, h0, (e.froz r h2).1, (e.froz r h2).2.trans h3⟩⟩

/-- What there is, in an activation. -/
structure St (P : Program) (G : Gl) (B : Nat) (c : Cx) (fr : List AV) (h : Hp) (a : Act) : Prop where
  rel : Rel P c
  glo : RelG G c
  mat : Mat c h
  fr : FR c fr a.tmps
  df : DF B c a.defers
  old : B ≤ c.w.heap.size

/-- A result of a call, and what there is behind it. -/
def Ends (P : Program) (c : Cx) (K : AV → Hp → Prop) (v : Value) (w' : World) : Prop := ∃ r h' c', c'.w = w' ∧ K r h' ∧ RR c' r v ∧ Rel P c' ∧ Mat c' h' ∧ Ext c c'
/-- What the model comes to next, at a call. -/
def UponA (P : Program) (R : Value → World → Prop) : Next → World → Prop
  | .enter f args, w => Calls P f args w fun e w' => ∃ v, e = .returned v ∧ R v w'
  | .round l f tmps assign body, w => ∀ n, RoundIn Fence.wide n P l f tmps assign body w fun e w' => ∃ v, e = .returned v ∧ R v w'
  | .value v, w => R v w
  | _, _ => False
def argsR (c : Cx) (args : List AV) (vs : Array Value) : Prop := vs.size = args.length ∧ RCs (RR c) args fun j => vs[j]?
theorem argsR.ext {c c' : Cx} (e : Ext c c') {args : List AV} {vs : Array Value} (h : argsR c args vs) : argsR c' args vs := ⟨h.1, h.2.imp (fun _ _ => RR.ext e) fun _ _ h => h⟩
/-- A call of a function's value. -/
def CallV (P : Program) (G : Gl) (fv : AV) (args : List AV) (h : Hp) (K : AV → Hp → Prop) : Prop :=
  ∀ (c : Cx) (u : Value) (vs : Array Value), Rel P c → RelG G c → Mat c h → RR c fv u → argsR c args vs →
    ∃ next w1, (do let d ← Deferred.ofValue u vs; invoke d.target d.args : Sem Next).run P c.w = .ok next w1 ∧ UponA P (Ends P c K) next w1
def setO (fr : List AV) : Option Nat → AV → List AV
  | some d, v => fr.set d v
  | none, _ => fr
theorem FR.put {c : Cx} {fr : List AV} {a : Act} (h : FR c fr a.tmps) (d : Option Nat) {x : AV} {v : Value} (hx : RR c x v) : FR c (setO fr d x) (a.put d v).tmps := by
  cases d with
  | none => exact h
  | some d => exact h.set d hx
theorem put_defers (a : Act) (d : Option Nat) (v : Value) : (a.put d v).defers = a.defers := by cases d <;> rfl
/-- One operation: its value, and the store behind it. -/
def stepA (P : Program) (G : Gl) (o : AOp) (fr : List AV) (h : Hp) (K : AV → Hp → Prop) : Prop :=
  match o with
  | .call f args => ∃ fv avs, ax G fr f = some fv ∧ valsV (ax G fr) args = some avs ∧ CallV P G fv avs h K
  | o => ∃ v up rd, evalA (ax G fr) (lk h.l) h.next o = some (v, up, rd) ∧ K v (h.app up)
/-- What a slot tells a guard: an answer, or nothing if what stands there was passed by. -/
def gval : AV → Option (Option Bool)
  | .bool p => some (some p)
  | .tup _ => some none
  | _ => none
theorem RR_skip {c : Cx} : RR c (.tup []) undef := RR_tup.2 ⟨#[], rfl, rfl, fun j x hx => by simp at hx⟩
/-- Operations, one behind the other. -/
def runS (P : Program) (G : Gl) : List AOper → (List AV → Hp → Prop) → List AV → Hp → Prop
  | [], Q, fr, h => Q fr h
  | o :: os, Q, fr, h => match o.guard with
    | none => stepA P G o.op fr h fun v h' => runS P G os Q (setO fr o.dst v) h'
    | some (t, b) => ∃ p, (fr[t]?).bind gval = some p ∧ (p = some b → stepA P G o.op fr h fun v h' => runS P G os Q (setO fr o.dst v) h') ∧ (p ≠ some b → runS P G os Q (setO fr o.dst (.tup [])) h)
section
variable {P : Program} {G : Gl}
def fence (c : Cx) : Option Nat → Fence
  | none => Fence.wide
  | some l => Fence.wide.inRound (c.mu l).1
theorem about_ok (c : Cx) (rd : Option Nat) (o : Oper) (w : World) (ρ : Operand → Value) : ∀ f, o.about P w ρ = some f → (fence c rd).fn f := fun f _ => by cases rd <;> trivial
theorem depth_ok {n : Nat} (c : Cx) (rd : Option Nat) : (fence c rd).depth.isSome = true → 1 ≤ n := by cases rd <;> simp [fence, Fence.wide]
theorem cop_call {op : Op} {f : AX} {xs : List AX} (h : cop P op = some (.call f xs)) : ∃ c fo, op = .call c ∧ c.callee = .value fo ∧ cox fo = some f ∧ c.args.toList.mapM cox = some xs := by
  cases op with
  | call c =>
    simp only [cop] at h
    split at h
    · rename_i fo hfo
      split at h
      · rename_i f' l h1 h2
        cases h
        exact ⟨c, fo, rfl, hfo, h1, h2⟩
      · cases h
    · exfalso
      revert h
      (repeat' split) <;> simp
    · cases h
  | makeFunc fn fs cs =>
    exfalso
    cases fn <;> simp only [cop] at h <;> revert h <;> (repeat' split) <;> simp
  | _ =>
    exfalso
    simp only [cop] at h
    revert h
    (repeat' split) <;> simp [Option.bind_eq_some_iff] <;> intros <;> (repeat' split) <;> simp
end
end Go.Am
