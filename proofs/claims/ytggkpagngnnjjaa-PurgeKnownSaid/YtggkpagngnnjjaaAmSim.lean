/-
  One step at a time: what simp turns. No program in sight.
-/
import Derived.Test.YtggkpagngnnjjaaAmQuiet
import Derived.IntWalk
import Derived.Laws.Bits64b
import Derived.Laws.Bits64
set_option linter.unusedSimpArgs false
set_option linter.unusedVariables false
namespace Go.Pol
/-- What is read of a list. -/
def nth {α : Type} (d : α) (l : List α) (k : Nat) : α := l[k]?.getD d
theorem nth_get {α : Type} {d : α} {l : List α} {k : Nat} (h : k < l.length) : nth d l k = l[k] := by simp [nth, h]
theorem nth_mem {α : Type} {d : α} {l : List α} {k : Nat} (h : k < l.length) : nth d l k ∈ l := by rw [nth_get h]; exact List.getElem_mem h
theorem take_nth {α : Type} {d : α} {l : List α} {k : Nat} (h : k < l.length) : l.take (k + 1) = l.take k ++ [nth d l k] := by
  rw [List.take_succ_eq_append_getElem h, nth_get h]
end Go.Pol
namespace Go.Am
theorem simC : (∀ a, AOp.isCall (.mv a) = false) ∧
  (∀ a b c, AOp.isCall (.pick a b c) = false) ∧
  (∀ a, AOp.isCall (.new a) = false) ∧
  (∀ a, AOp.isCall (.box a) = false) ∧
  (∀ a b, AOp.isCall (.build a b) = false) ∧
  (∀ a b c d, AOp.isCall (.bslice a b c d) = false) ∧
  (∀ a b c, AOp.isCall (.load a b c) = false) ∧
  (∀ a b c, AOp.isCall (.store a b c) = false) ∧
  (∀ a, AOp.isCall (.nchk a) = false) ∧
  (∀ a b c, AOp.isCall (.bin a b c) = false) ∧
  (∀ a b c, AOp.isCall (.eqb a b c) = false) ∧
  (∀ a b c d, AOp.isCall (.eqp a b c d) = false) ∧
  (∀ a b c d, AOp.isCall (.eqs a b c d) = false) ∧
  (∀ a b, AOp.isCall (.un a b) = false) ∧
  (∀ a b, AOp.isCall (.conv a b) = false) ∧
  (∀ a b, AOp.isCall (.faddr a b) = false) ∧
  (∀ a b c d, AOp.isCall (.fld a b c d) = false) ∧
  (∀ a b c d, AOp.isCall (.iaddrA a b c d) = false) ∧
  (∀ a b c, AOp.isCall (.iaddrS a b c) = false) ∧
  (∀ a b c d e, AOp.isCall (.idx a b c d e) = false) ∧
  (∀ a b c d e, AOp.isCall (.slS a b c d e) = false) ∧
  (∀ a b c d e, AOp.isCall (.slA a b c d e) = false) ∧
  (∀ a b c, AOp.isCall (.mkfn a b c) = false) ∧
  (∀ a b c d e, AOp.isCall (.mks a b c d e) = false) ∧
  (∀ a b, AOp.isCall (.ext a b) = false) ∧
  (∀ a b c d, AOp.isCall (.append a b c d) = false) ∧
  (∀ a, AOp.isCall (.len a) = false) ∧
  (∀ a b, AOp.isCall (.clear a b) = false) ∧
  (∀ a b c, AOp.isCall (.minmax a b c) = false) := by
  refine ⟨?_, ?_, ?_, ?_, ?_, ?_, ?_, ?_, ?_, ?_, ?_, ?_, ?_, ?_, ?_, ?_, ?_, ?_, ?_, ?_, ?_, ?_, ?_, ?_, ?_, ?_, ?_, ?_, ?_⟩ <;> intros <;> rfl
section
variable {P : Program} {G : Gl} {rd : Option Nat} {N : Nat} {Q : Exit → List AV → Hp → Prop} {fr : List AV} {h : Hp}
def condS (P : Program) (G : Gl) (rd : Option Nat) (N : Nat) (a b : ACode) (Q : Exit → List AV → Hp → Prop) (fr : List AV) (h : Hp) : Option AV → Prop
  | some (.bool t) => (t = true → wpc P G rd N a Q fr h) ∧ (t = false → wpc P G rd N b Q fr h)
  | _ => False
theorem s_cond {c : AX} {a b : ACode} : wpc P G rd N (.cond c a b) Q fr h = condS P G rd N a b Q fr h (ax G fr c) := by
  apply propext
  show (∃ t, ax G fr c = some (.bool t) ∧ _) ↔ _
  constructor
  · rintro ⟨t, ht, h1⟩; rw [ht]; exact h1
  · intro h1
    unfold condS at h1
    split at h1
    · rename_i t ht; exact ⟨t, ht, h1⟩
    · exact h1.elim
/-- One operation, what it gave in hand. -/
def goS (P : Program) (G : Gl) (d : Option Nat) (os : List AOper) (Q : List AV → Hp → Prop) (fr : List AV) (h : Hp) : Option (AV × Up × List Nat) → Prop
  | some (v, up, _) => runS P G os Q (setO fr d v) (h.app up)
  | none => False
theorem stepA_op {o : AOp} {K : AV → Hp → Prop} (hc : o.isCall = false) : stepA P G o fr h K ↔ ∃ v up r, evalA (ax G fr) (lk h.l) h.next o = some (v, up, r) ∧ K v (h.app up) := by
  cases o <;> first | exact Iff.rfl | cases hc
theorem goS_iff {d : Option Nat} {os : List AOper} {Q : List AV → Hp → Prop} {x : Option (AV × Up × List Nat)} : (∃ v up r, x = some (v, up, r) ∧ runS P G os Q (setO fr d v) (h.app up)) ↔ goS P G d os Q fr h x := by
  constructor
  · rintro ⟨v, up, r, rfl, h1⟩; exact h1
  · intro h1
    match x, h1 with
    | some (v, up, r), h1 => exact ⟨v, up, r, rfl, h1⟩
theorem s_op {d : Option Nat} {o : AOp} {os : List AOper} {Q : List AV → Hp → Prop} (hc : o.isCall = false) : runS P G (⟨d, o, none⟩ :: os) Q fr h = goS P G d os Q fr h (evalA (ax G fr) (lk h.l) h.next o) := by
  apply propext
  show stepA P G o fr h _ ↔ _
  rw [stepA_op hc, goS_iff]
/-- What a guard asks. -/
def guardM (x : Option AV) (b : Bool) (A B : Prop) : Prop := match x with
  | some (.bool p) => (p = b → A) ∧ (¬ p = b → B)
  | some (.tup _) => B
  | _ => False
theorem guard_iff {x : Option AV} {b : Bool} {A A' B : Prop} (ha : A ↔ A') : (∃ p, x.bind gval = some p ∧ (p = some b → A) ∧ (p ≠ some b → B)) ↔ guardM x b A' B := by
  rw [← ha]
  constructor
  · rintro ⟨p, hp, h1, h2⟩
    rw [Option.bind_eq_some_iff] at hp
    obtain ⟨v, rfl, hp⟩ := hp
    cases v <;> simp only [gval, Option.some.injEq, reduceCtorEq] at hp
    · subst hp; exact ⟨fun e => h1 (by rw [e]), fun e => h2 (by simpa using e)⟩
    · subst hp; exact h2 (by simp)
  · intro h
    unfold guardM at h
    split at h
    · rename_i p; exact ⟨some p, rfl, fun e => h.1 (by simpa using e), fun e => h.2 (by simpa using e)⟩
    · exact ⟨none, rfl, fun e => (by cases e), fun _ => h⟩
    · exact h.elim
/-- One operation with a guard. -/
def goG (P : Program) (G : Gl) (b : Bool) (d : Option Nat) (o : AOp) (os : List AOper) (Q : List AV → Hp → Prop) (fr : List AV) (h : Hp) : Option AV → Prop
  | some (.bool p) => (p = b → goS P G d os Q fr h (evalA (ax G fr) (lk h.l) h.next o)) ∧ (¬ p = b → runS P G os Q (setO fr d (.tup [])) h)
  | some (.tup _) => runS P G os Q (setO fr d (.tup [])) h
  | _ => False
theorem s_opG {d : Option Nat} {o : AOp} {t : Nat} {b : Bool} {os : List AOper} {Q : List AV → Hp → Prop} (hc : o.isCall = false) : runS P G (⟨d, o, some (t, b)⟩ :: os) Q fr h = goG P G b d o os Q fr h (fr[t]?) := by
  have e : ∀ x, goG P G b d o os Q fr h x = guardM x b _ _ := fun x => by
    unfold goG guardM
    cases x with
    | none => rfl
    | some v => cases v <;> rfl
  rw [e]
  exact propext (guard_iff ((stepA_op hc).trans goS_iff))
/-- A call. -/
def goCall (P : Program) (G : Gl) (d : Option Nat) (os : List AOper) (Q : List AV → Hp → Prop) (fr : List AV) (h : Hp) (fv : AV) (avs : List AV) : Prop := CallV P G fv avs h fun v h' => runS P G os Q (setO fr d v) h'
def goC (P : Program) (G : Gl) (d : Option Nat) (os : List AOper) (Q : List AV → Hp → Prop) (fr : List AV) (h : Hp) : Option AV → Option (List AV) → Prop
  | some fv, some avs => goCall P G d os Q fr h fv avs
  | _, _ => False
theorem goC_iff {d : Option Nat} {os : List AOper} {Q : List AV → Hp → Prop} {f : AX} {xs : List AX} : stepA P G (.call f xs) fr h (fun v h' => runS P G os Q (setO fr d v) h') ↔ goC P G d os Q fr h (ax G fr f) (valsV (ax G fr) xs) := by
  constructor
  · rintro ⟨fv, avs, h1, h2, h3⟩; rw [h1, h2]; exact h3
  · intro h1
    unfold goC at h1
    split at h1
    · rename_i fv avs e1 e2; exact ⟨fv, avs, e1, e2, h1⟩
    · exact h1.elim
theorem s_call {d : Option Nat} {f : AX} {xs : List AX} {os : List AOper} {Q : List AV → Hp → Prop} : runS P G (⟨d, .call f xs, none⟩ :: os) Q fr h = goC P G d os Q fr h (ax G fr f) (valsV (ax G fr) xs) := propext goC_iff
def goCG (P : Program) (G : Gl) (b : Bool) (d : Option Nat) (f : AX) (xs : List AX) (os : List AOper) (Q : List AV → Hp → Prop) (fr : List AV) (h : Hp) : Option AV → Prop
  | some (.bool p) => (p = b → goC P G d os Q fr h (ax G fr f) (valsV (ax G fr) xs)) ∧ (¬ p = b → runS P G os Q (setO fr d (.tup [])) h)
  | some (.tup _) => runS P G os Q (setO fr d (.tup [])) h
  | _ => False
theorem s_callG {d : Option Nat} {f : AX} {xs : List AX} {t : Nat} {b : Bool} {os : List AOper} {Q : List AV → Hp → Prop} : runS P G (⟨d, .call f xs, some (t, b)⟩ :: os) Q fr h = goCG P G b d f xs os Q fr h (fr[t]?) := by
  have e : ∀ x, goCG P G b d f xs os Q fr h x = guardM x b _ _ := fun x => by
    unfold goCG guardM
    cases x with
    | none => rfl
    | some v => cases v <;> rfl
  rw [e]
  exact propext (guard_iff goC_iff)
theorem goCall_pure {d : Option Nat} {os : List AOper} {Q : List AV → Hp → Prop} {g : Nat} {fs avs cs : List AV} {r : AV} (hp : PureC P G g (fs ++ avs ++ cs) r) (hk : runS P G os Q (setO fr d r) h) : goCall P G d os Q fr h (.fn g fs cs) avs := callV_fnU (hp _ _) hk
/-! The same in a quiet region. -/
def goQ (P : Program) (G : Gl) (d : Option Nat) (os : List AOper) (Q : List AV → Hp → Prop) (fr : List AV) (h : Hp) : Option (AV × Up × List Nat) → Prop
  | some (v, [], _) => runQ P G os Q (setO fr d v) h
  | _ => False
theorem goQ_iff {d : Option Nat} {o : AOp} {os : List AOper} {Q : List AV → Hp → Prop} (hc : o.isCall = false) : stepQ P G o fr h (fun v => runQ P G os Q (setO fr d v) h) ↔ goQ P G d os Q fr h (evalA (ax G fr) (lk h.l) h.next o) := by
  have : stepQ P G o fr h (fun v => runQ P G os Q (setO fr d v) h) ↔ ∃ v rd, evalA (ax G fr) (lk h.l) h.next o = some (v, [], rd) ∧ runQ P G os Q (setO fr d v) h := by cases o <;> first | exact Iff.rfl | cases hc
  rw [this]
  constructor
  · rintro ⟨v, r, h1, h2⟩; rw [h1]; exact h2
  · intro h1
    unfold goQ at h1
    split at h1
    · rename_i v r e; exact ⟨v, r, e, h1⟩
    · exact h1.elim
theorem q_op {d : Option Nat} {o : AOp} {os : List AOper} {Q : List AV → Hp → Prop} (hc : o.isCall = false) : runQ P G (⟨d, o, none⟩ :: os) Q fr h = goQ P G d os Q fr h (evalA (ax G fr) (lk h.l) h.next o) := propext (goQ_iff hc)
def goQG (P : Program) (G : Gl) (b : Bool) (d : Option Nat) (o : AOp) (os : List AOper) (Q : List AV → Hp → Prop) (fr : List AV) (h : Hp) : Option AV → Prop
  | some (.bool p) => (p = b → goQ P G d os Q fr h (evalA (ax G fr) (lk h.l) h.next o)) ∧ (¬ p = b → runQ P G os Q (setO fr d (.tup [])) h)
  | some (.tup _) => runQ P G os Q (setO fr d (.tup [])) h
  | _ => False
theorem q_opG {d : Option Nat} {o : AOp} {t : Nat} {b : Bool} {os : List AOper} {Q : List AV → Hp → Prop} (hc : o.isCall = false) : runQ P G (⟨d, o, some (t, b)⟩ :: os) Q fr h = goQG P G b d o os Q fr h (fr[t]?) := by
  have e : ∀ x, goQG P G b d o os Q fr h x = guardM x b _ _ := fun x => by
    unfold goQG guardM
    cases x with
    | none => rfl
    | some v => cases v <;> rfl
  rw [e]
  exact propext (guard_iff (goQ_iff hc))
def goQCall (P : Program) (G : Gl) (d : Option Nat) (os : List AOper) (Q : List AV → Hp → Prop) (fr : List AV) (h : Hp) (g : Nat) (args : List AV) : Prop := ∃ r, PureC P G g args r ∧ runQ P G os Q (setO fr d r) h
def goQC (P : Program) (G : Gl) (d : Option Nat) (os : List AOper) (Q : List AV → Hp → Prop) (fr : List AV) (h : Hp) : Option AV → Option (List AV) → Prop
  | some (.fn g fs cs), some avs => goQCall P G d os Q fr h g (fs ++ avs ++ cs)
  | _, _ => False
theorem goQC_iff {d : Option Nat} {os : List AOper} {Q : List AV → Hp → Prop} {f : AX} {xs : List AX} : stepQ P G (.call f xs) fr h (fun v => runQ P G os Q (setO fr d v) h) ↔ goQC P G d os Q fr h (ax G fr f) (valsV (ax G fr) xs) := by
  constructor
  · rintro ⟨g, fs, cs, avs, r, h1, h2, h3, h4⟩; rw [h1, h2]; exact ⟨r, h3, h4⟩
  · intro h1
    unfold goQC at h1
    split at h1
    · rename_i g fs cs avs e1 e2
      obtain ⟨r, h3, h4⟩ := h1
      exact ⟨g, fs, cs, avs, r, e1, e2, h3, h4⟩
    · exact h1.elim
theorem q_call {d : Option Nat} {f : AX} {xs : List AX} {os : List AOper} {Q : List AV → Hp → Prop} : runQ P G (⟨d, .call f xs, none⟩ :: os) Q fr h = goQC P G d os Q fr h (ax G fr f) (valsV (ax G fr) xs) := propext goQC_iff
def goQCG (P : Program) (G : Gl) (b : Bool) (d : Option Nat) (f : AX) (xs : List AX) (os : List AOper) (Q : List AV → Hp → Prop) (fr : List AV) (h : Hp) : Option AV → Prop
  | some (.bool p) => (p = b → goQC P G d os Q fr h (ax G fr f) (valsV (ax G fr) xs)) ∧ (¬ p = b → runQ P G os Q (setO fr d (.tup [])) h)
  | some (.tup _) => runQ P G os Q (setO fr d (.tup [])) h
  | _ => False
theorem q_callG {d : Option Nat} {f : AX} {xs : List AX} {t : Nat} {b : Bool} {os : List AOper} {Q : List AV → Hp → Prop} : runQ P G (⟨d, .call f xs, some (t, b)⟩ :: os) Q fr h = goQCG P G b d f xs os Q fr h (fr[t]?) := by
  have e : ∀ x, goQCG P G b d f xs os Q fr h x = guardM x b _ _ := fun x => by
    unfold goQCG guardM
    cases x with
    | none => rfl
    | some v => cases v <;> rfl
  rw [e]
  exact propext (guard_iff goQC_iff)
theorem goQCall_pure {d : Option Nat} {os : List AOper} {Q : List AV → Hp → Prop} {g : Nat} {args : List AV} {r : AV} (hp : PureC P G g args r) (hk : runQ P G os Q (setO fr d r) h) : goQCall P G d os Q fr h g args := ⟨r, hp, hk⟩
theorem blkE {i j : Nat} : blockQ i Q (.exit j) fr h = if j = i then Q .normal fr h else Q (.exit j) fr h := by unfold blockQ; dsimp only; split <;> rfl
theorem goS_ite {d : Option Nat} {os : List AOper} {Q : List AV → Hp → Prop} {c : Prop} [Decidable c] {x : Option (AV × Up × List Nat)} : goS P G d os Q fr h (if c then x else none) = (c ∧ goS P G d os Q fr h x) := by
  split <;> rename_i hc <;> simp [hc, goS]
theorem goS_iteN {d : Option Nat} {os : List AOper} {Q : List AV → Hp → Prop} {c : Prop} [Decidable c] {x : Option (AV × Up × List Nat)} : goS P G d os Q fr h (if c then none else x) = (¬ c ∧ goS P G d os Q fr h x) := by
  split <;> rename_i hc <;> simp [hc, goS]
theorem goQ_ite {d : Option Nat} {os : List AOper} {Q : List AV → Hp → Prop} {c : Prop} [Decidable c] {x : Option (AV × Up × List Nat)} : goQ P G d os Q fr h (if c then x else none) = (c ∧ goQ P G d os Q fr h x) := by
  split <;> rename_i hc <;> simp [hc, goQ]
theorem goQ_iteN {d : Option Nat} {os : List AOper} {Q : List AV → Hp → Prop} {c : Prop} [Decidable c] {x : Option (AV × Up × List Nat)} : goQ P G d os Q fr h (if c then none else x) = (¬ c ∧ goQ P G d os Q fr h x) := by
  split <;> rename_i hc <;> simp [hc, goQ]
def finS (P : Program) (N : Nat) (K : AV → Hp → Prop) (h : Hp) : Option (List AV) → Prop
  | some l => ∃ σ r' h', Weak P σ [packV l] h [r'] h' ∧ Keeps N σ ∧ N ≤ h'.next ∧ K r' h'
  | none => False
theorem finN {rs : List ARes} {K : AV → Hp → Prop} : finQ P rs N K .normal fr h = finS P N K h (resVs fr (lk h.l) rs) := by
  apply propext
  constructor
  · rintro ⟨l, σ, r', h', h1, h2⟩; rw [h1]; exact ⟨σ, r', h', h2⟩
  · intro h1
    unfold finS at h1
    split at h1
    · rename_i l e; obtain ⟨σ, r', h', h2⟩ := h1; exact ⟨l, σ, r', h', e, h2⟩
    · exact h1.elim
theorem finR {rs : List ARes} {K : AV → Hp → Prop} : finQ P rs N K .ret fr h = finS P N K h (resVs fr (lk h.l) rs) := finN
theorem condS_b {a b : ACode} {t : Bool} : condS P G rd N a b Q fr h (some (.bool t)) = ((t = true → wpc P G rd N a Q fr h) ∧ (t = false → wpc P G rd N b Q fr h)) := rfl
theorem goG_b {b : Bool} {d : Option Nat} {o : AOp} {os : List AOper} {Q : List AV → Hp → Prop} {p : Bool} : goG P G b d o os Q fr h (some (.bool p)) = ((p = b → goS P G d os Q fr h (evalA (ax G fr) (lk h.l) h.next o)) ∧ (¬ p = b → runS P G os Q (setO fr d (.tup [])) h)) := rfl
theorem goQG_b {b : Bool} {d : Option Nat} {o : AOp} {os : List AOper} {Q : List AV → Hp → Prop} {p : Bool} : goQG P G b d o os Q fr h (some (.bool p)) = ((p = b → goQ P G d os Q fr h (evalA (ax G fr) (lk h.l) h.next o)) ∧ (¬ p = b → runQ P G os Q (setO fr d (.tup [])) h)) := rfl
theorem goCG_b {b : Bool} {d : Option Nat} {f : AX} {xs : List AX} {os : List AOper} {Q : List AV → Hp → Prop} {p : Bool} : goCG P G b d f xs os Q fr h (some (.bool p)) = ((p = b → goC P G d os Q fr h (ax G fr f) (valsV (ax G fr) xs)) ∧ (¬ p = b → runS P G os Q (setO fr d (.tup [])) h)) := rfl
theorem goQCG_b {b : Bool} {d : Option Nat} {f : AX} {xs : List AX} {os : List AOper} {Q : List AV → Hp → Prop} {p : Bool} : goQCG P G b d f xs os Q fr h (some (.bool p)) = ((p = b → goQC P G d os Q fr h (ax G fr f) (valsV (ax G fr) xs)) ∧ (¬ p = b → runQ P G os Q (setO fr d (.tup [])) h)) := rfl
/-- A result as it is: what names no block. -/
theorem finS_plain {N : Nat} {K : AV → Hp → Prop} {l : List AV} {r : AV} (e : packV l = r) (hp : Plain r) (hK : K r ⟨[], N⟩) : finS P N K h (some l) := by
  subst e
  refine ⟨id, _, ⟨[], N⟩, weak_of (fun i j o o' hi => by cases hi) ⟨wk_plain (fun i o hi => by cases hi) hp, trivial⟩ trivial, fun _ _ => rfl, Nat.le_refl _, hK⟩
end
section
variable {P : Program} {G : Gl}
theorem pureR_ite {c : Prop} [Decidable c] {x : Option AV} : pureR (if c then x else none) = if c then pureR x else none := by split <;> rfl
theorem pureR_iteN {c : Prop} [Decidable c] {x : Option AV} : pureR (if c then none else x) = if c then none else pureR x := by split <;> rfl
theorem bind_ite {α β : Type} {c : Prop} [Decidable c] {x : Option α} {f : α → Option β} : (if c then x else none).bind f = if c then x.bind f else none := by split <;> rfl
theorem map_ite {α β : Type} {c : Prop} [Decidable c] {x : Option α} {f : α → β} : (if c then x else none).map f = if c then x.map f else none := by split <;> rfl
def ldR : Option (AV × List Nat) → Option (AV × Up × List Nat)
  | some (v, r) => some (v, [], r)
  | none => none
theorem ldR_ite {c : Prop} [Decidable c] {x : Option (AV × List Nat)} : ldR (if c then x else none) = if c then ldR x else none := by split <;> rfl
def stR : Option (Up × List Nat) → Option (AV × Up × List Nat)
  | some (up, r) => some (.undef, up, r)
  | none => none
theorem stR_ite {c : Prop} [Decidable c] {x : Option (Up × List Nat)} : stR (if c then x else none) = if c then stR x else none := by split <;> rfl
def clR : Option (Up × List Nat) → Option (AV × Up × List Nat)
  | some (up, r) => some (.tup [], up, r)
  | none => none
theorem clR_ite {c : Prop} [Decidable c] {x : Option (Up × List Nat)} : clR (if c then x else none) = if c then clR x else none := by split <;> rfl
variable {ev : AX → Option AV} {at_ : At} {id : Nat}
theorem ev_load {ag : Bool} {n : Nat} {x : AX} : evalA ev at_ id (.load ag n x) = (ev x).bind fun v => ldR (loadV at_ ag n v) := by
  simp only [evalA]; cases ev x <;> simp only [Option.bind_some, Option.bind_none]; rfl
theorem ev_store {n : Nat} {a v : AX} : evalA ev at_ id (.store n a v) = (ev a).bind fun p => (ev v).bind fun v => stR (storeV at_ n v p) := by
  simp only [evalA]; cases ev a <;> cases ev v <;> rfl
theorem ev_append {sz bytes : Nat} {s x : AX} : evalA ev at_ id (.append sz bytes s x) = (ev s).bind fun s => (ev x).bind fun x => appV at_ id sz bytes s x := by
  simp only [evalA]; cases ev s <;> cases ev x <;> rfl
theorem ev_bslice {sz n : Nat} {z : List AV} {ps : List (Nat × Nat × AX)} : evalA ev at_ id (.bslice sz n z ps) = (partsV ev ps).bind fun l => (fillL z l).map fun cs => (.sl id 0 n n sz, [(id, some (.cells cs))], []) := by
  simp only [evalA]; cases partsV ev ps <;> simp only [Option.bind_some, Option.bind_none]
  rename_i l; cases fillL z l <;> rfl
theorem ev_build {z : List AV} {ps : List (Nat × Nat × AX)} : evalA ev at_ id (.build z ps) = (partsV ev ps).bind fun l => pureR ((fillL z l).map .agg) := by
  simp only [evalA]; cases partsV ev ps <;> rfl
theorem ev_slA {n sz : Nat} {x : AX} {lo hi : Option AX} : evalA ev at_ id (.slA n sz x lo hi) = (ev x).bind fun x => ((evO ev lo).bind bndV).bind fun lo => ((evO ev hi).bind bndV).bind fun hi => ldR (slAV at_ n sz x lo hi) := by
  simp only [evalA]; cases ev x <;> cases (evO ev lo).bind bndV <;> cases (evO ev hi).bind bndV <;> rfl
theorem ev_slS {sz : Nat} {x : AX} {lo hi mx : Option AX} : evalA ev at_ id (.slS sz x lo hi mx) = (ev x).bind fun x => ((evO ev lo).bind bndV).bind fun lo => ((evO ev hi).bind bndV).bind fun hi => ((evO ev mx).bind bndV).bind fun mx => pureR (slSV sz x lo hi mx) := by
  simp only [evalA]; cases ev x <;> cases (evO ev lo).bind bndV <;> cases (evO ev hi).bind bndV <;> cases (evO ev mx).bind bndV <;> rfl
theorem ev_clear {z : List AV} {x : AX} : evalA ev at_ id (.clear z x) = (ev x).bind fun v => clR (clearV at_ z v) := by
  simp only [evalA]; cases ev x <;> simp only [Option.bind_some, Option.bind_none]; rfl
theorem load_ptr {ag : Bool} {n i o : Nat} : loadV at_ ag n (.ptr i o) = (cellsAt at_ i).bind fun cs => (partV ag o n cs).map fun v => (v, [i]) := by
  simp only [loadV]; cases cellsAt at_ i <;> rfl
theorem load_iptr {ag : Bool} {n : Nat} {cs : List AV} : loadV at_ ag n (.iptr cs) = (partV ag 0 n cs).map fun v => (v, []) := rfl
theorem store_ptr {n i o : Nat} {v : AV} : storeV at_ n v (.ptr i o) = (cellsAt at_ i).bind fun cs => if v.flat = true ∧ v.cells.length = n ∧ 0 < n ∧ o + n ≤ cs.length then some ([(i, some (.cells (over cs o v.cells)))], [i]) else none := by
  simp only [storeV]; cases cellsAt at_ i <;> rfl
theorem part_t {off n : Nat} {cs : List AV} : partV true off n cs = if off + n ≤ cs.length then some (.agg ((cs.drop off).take n)) else none := rfl
theorem part_f {off n : Nat} {cs : List AV} : partV false off n cs = cs[off]? := rfl
theorem cells_lk {l : List (Nat × AObj)} {i j : Nat} {o : AObj} : cellsAt (lk ((j, o) :: l)) i = if i = j then (match o with | .cells cs => some cs | _ => none) else cellsAt (lk l) i := by
  simp only [cellsAt, lk]
  split
  · rename_i cs h; split at h
    · rename_i e; cases h; rw [if_pos e]
    · rename_i e; rw [if_neg e, h]
  · rename_i h; split at h
    · rename_i e; rw [if_pos e]; split
      · rename_i cs; exact absurd rfl (h cs)
      · rfl
    · rename_i e; rw [if_neg e]
      split
      · rename_i cs h2; exact absurd h2 (h cs)
      · rfl
theorem vals_nil : valsV ev [] = some [] := rfl
theorem vals_cons {x : AX} {r : List AX} : valsV ev (x :: r) = (ev x).bind fun v => (valsV ev r).map fun l => v :: l := by
  simp only [valsV]; cases ev x <;> cases valsV ev r <;> rfl
theorem parts_nil : partsV ev [] = some [] := rfl
theorem parts_cons {o n : Nat} {x : AX} {r : List (Nat × Nat × AX)} : partsV ev ((o, n, x) :: r) = (ev x).bind fun v => (partsV ev r).map fun l => (o, n, v) :: l := by
  simp only [partsV]; cases ev x <;> cases partsV ev r <;> rfl
theorem nth_some {α : Type} (d : α) {l : List α} {i : Nat} (h : i < l.length) : l[i]? = some (Pol.nth d l i) := by simp [Pol.nth, h]
theorem iaddr_map {α : Type} (d : α) {f : α → List AV} {sz : Nat} (hf : ∀ x, (f x).length = sz) {l : List α} {k : IntKind} {n : Int} : iaddrSV sz (.isl (l.map f)) (.int k n) = if 0 ≤ n ∧ n < (l.length : Int) then some (.iptr (f (Pol.nth d l n.toNat))) else none := by
  simp only [iaddrSV]
  by_cases h0 : 0 ≤ n
  · by_cases h1 : n.toNat < l.length
    · rw [if_pos h0, if_pos ⟨h0, by omega⟩, List.getElem?_map, nth_some d h1]
      simp [hf]
    · rw [if_pos h0, if_neg (by omega), List.getElem?_map, List.getElem?_eq_none (by omega)]; rfl
  · rw [if_neg h0, if_neg (by omega)]
end
/-- Steps. -/
theorem sim {P : Program} {G : Gl} {rd : Option Nat} {N : Nat} : (∀ Q fr h, wpc P G rd N .skip Q fr h = Q .normal fr h) ∧ (∀ Q fr h, wpc P G rd N .ret Q fr h = Q .ret fr h) ∧ (∀ i Q fr h, wpc P G rd N (.exit i) Q fr h = Q (.exit i) fr h) ∧
  (∀ a b Q fr h, wpc P G rd N (.seq a b) Q fr h = wpc P G rd N a (thenQ (wpc P G rd N b Q) Q) fr h) ∧ (∀ i a Q fr h, wpc P G rd N (.block i a) Q fr h = wpc P G rd N a (blockQ i Q) fr h) ∧
  (∀ ops Q fr h, wpc P G rd N (.reg ops) Q fr h = runS P G ops (Q .normal) fr h) ∧ (∀ c a b Q fr h, wpc P G rd N (.cond c a b) Q fr h = condS P G rd N a b Q fr h (ax G fr c)) ∧
  (∀ a b Q fr h, condS P G rd N a b Q fr h (some (.bool true)) = wpc P G rd N a Q fr h) ∧ (∀ a b Q fr h, condS P G rd N a b Q fr h (some (.bool false)) = wpc P G rd N b Q fr h) ∧ (∀ a b Q fr h t, condS P G rd N a b Q fr h (some (.bool (!t))) = condS P G rd N b a Q fr h (some (.bool t))) :=
  ⟨fun _ _ _ => rfl, fun _ _ _ => rfl, fun _ _ _ _ => rfl, fun _ _ _ _ _ => rfl, fun _ _ _ _ _ => rfl, fun _ _ _ _ => rfl, fun _ _ _ _ _ _ => s_cond, fun _ _ _ _ _ => by simp [condS], fun _ _ _ _ _ => by simp [condS], fun _ _ _ _ _ t => by cases t <;> simp [condS]⟩
theorem simQ : (∀ w Q fr h, thenQ w Q .normal fr h = w fr h) ∧ (∀ w Q fr h, thenQ w Q .ret fr h = Q .ret fr h) ∧ (∀ w Q i fr h, thenQ w Q (.exit i) fr h = Q (.exit i) fr h) ∧
  (∀ Q i fr h, blockQ i Q .normal fr h = Q .normal fr h) ∧ (∀ Q i fr h, blockQ i Q .ret fr h = Q .ret fr h) ∧ (∀ Q i j fr h, blockQ i Q (.exit j) fr h = if j = i then Q .normal fr h else Q (.exit j) fr h) :=
  ⟨fun _ _ _ _ => rfl, fun _ _ _ _ => rfl, fun _ _ _ _ _ => rfl, fun _ _ _ _ => rfl, fun _ _ _ _ => rfl, fun _ _ _ _ _ => blkE⟩
theorem simS {P : Program} {G : Gl} {fr : List AV} {h : Hp} {Q : List AV → Hp → Prop} : (runS P G [] Q fr h = Q fr h) ∧ (∀ d o os, o.isCall = false → runS P G (⟨d, o, none⟩ :: os) Q fr h = goS P G d os Q fr h (evalA (ax G fr) (lk h.l) h.next o)) ∧
  (∀ d o t b os, o.isCall = false → runS P G (⟨d, o, some (t, b)⟩ :: os) Q fr h = goG P G b d o os Q fr h (fr[t]?)) ∧ (∀ d f xs os, runS P G (⟨d, .call f xs, none⟩ :: os) Q fr h = goC P G d os Q fr h (ax G fr f) (valsV (ax G fr) xs)) ∧
  (∀ d f xs t b os, runS P G (⟨d, .call f xs, some (t, b)⟩ :: os) Q fr h = goCG P G b d f xs os Q fr h (fr[t]?)) ∧ (∀ d os v up r, goS P G d os Q fr h (some (v, up, r)) = runS P G os Q (setO fr d v) (h.app up)) ∧
  (∀ d os fv avs, goC P G d os Q fr h (some fv) (some avs) = goCall P G d os Q fr h fv avs) ∧
  (runQ P G [] Q fr h = Q fr h) ∧ (∀ d o os, o.isCall = false → runQ P G (⟨d, o, none⟩ :: os) Q fr h = goQ P G d os Q fr h (evalA (ax G fr) (lk h.l) h.next o)) ∧
  (∀ d o t b os, o.isCall = false → runQ P G (⟨d, o, some (t, b)⟩ :: os) Q fr h = goQG P G b d o os Q fr h (fr[t]?)) ∧ (∀ d f xs os, runQ P G (⟨d, .call f xs, none⟩ :: os) Q fr h = goQC P G d os Q fr h (ax G fr f) (valsV (ax G fr) xs)) ∧
  (∀ d f xs t b os, runQ P G (⟨d, .call f xs, some (t, b)⟩ :: os) Q fr h = goQCG P G b d f xs os Q fr h (fr[t]?)) ∧ (∀ d os v r, goQ P G d os Q fr h (some (v, [], r)) = runQ P G os Q (setO fr d v) h) ∧
  (∀ d os g fs cs avs, goQC P G d os Q fr h (some (.fn g fs cs)) (some avs) = goQCall P G d os Q fr h g (fs ++ avs ++ cs)) :=
  ⟨rfl, fun _ _ _ hc => s_op hc, fun _ _ _ _ _ hc => s_opG hc, fun _ _ _ _ => s_call, fun _ _ _ _ _ _ => s_callG, fun _ _ _ _ _ => rfl, fun _ _ _ _ => rfl,
   rfl, fun _ _ _ hc => q_op hc, fun _ _ _ _ _ hc => q_opG hc, fun _ _ _ _ => q_call, fun _ _ _ _ _ _ => q_callG, fun _ _ _ _ => rfl, fun _ _ _ _ _ _ => rfl⟩
theorem simG {P : Program} {G : Gl} {fr : List AV} {h : Hp} {Q : List AV → Hp → Prop} : (∀ d o os, goG P G true d o os Q fr h (some (.bool true)) = goS P G d os Q fr h (evalA (ax G fr) (lk h.l) h.next o)) ∧
  (∀ d o os, goG P G false d o os Q fr h (some (.bool false)) = goS P G d os Q fr h (evalA (ax G fr) (lk h.l) h.next o)) ∧
  (∀ d o os, goG P G true d o os Q fr h (some (.bool false)) = runS P G os Q (setO fr d (.tup [])) h) ∧
  (∀ d o os, goG P G false d o os Q fr h (some (.bool true)) = runS P G os Q (setO fr d (.tup [])) h) ∧
  (∀ b d o os p, goG P G b d o os Q fr h (some (.bool (!p))) = goG P G (!b) d o os Q fr h (some (.bool p))) ∧
  (∀ d o os, goQG P G true d o os Q fr h (some (.bool true)) = goQ P G d os Q fr h (evalA (ax G fr) (lk h.l) h.next o)) ∧
  (∀ d o os, goQG P G false d o os Q fr h (some (.bool false)) = goQ P G d os Q fr h (evalA (ax G fr) (lk h.l) h.next o)) ∧
  (∀ d o os, goQG P G true d o os Q fr h (some (.bool false)) = runQ P G os Q (setO fr d (.tup [])) h) ∧
  (∀ d o os, goQG P G false d o os Q fr h (some (.bool true)) = runQ P G os Q (setO fr d (.tup [])) h) ∧
  (∀ b d o os p, goQG P G b d o os Q fr h (some (.bool (!p))) = goQG P G (!b) d o os Q fr h (some (.bool p))) ∧
  (∀ d f xs os, goCG P G true d f xs os Q fr h (some (.bool true)) = goC P G d os Q fr h (ax G fr f) (valsV (ax G fr) xs)) ∧
  (∀ d f xs os, goCG P G false d f xs os Q fr h (some (.bool false)) = goC P G d os Q fr h (ax G fr f) (valsV (ax G fr) xs)) ∧
  (∀ d f xs os, goCG P G true d f xs os Q fr h (some (.bool false)) = runS P G os Q (setO fr d (.tup [])) h) ∧
  (∀ d f xs os, goCG P G false d f xs os Q fr h (some (.bool true)) = runS P G os Q (setO fr d (.tup [])) h) ∧
  (∀ b d f xs os p, goCG P G b d f xs os Q fr h (some (.bool (!p))) = goCG P G (!b) d f xs os Q fr h (some (.bool p))) ∧
  (∀ d f xs os, goQCG P G true d f xs os Q fr h (some (.bool true)) = goQC P G d os Q fr h (ax G fr f) (valsV (ax G fr) xs)) ∧
  (∀ d f xs os, goQCG P G false d f xs os Q fr h (some (.bool false)) = goQC P G d os Q fr h (ax G fr f) (valsV (ax G fr) xs)) ∧
  (∀ d f xs os, goQCG P G true d f xs os Q fr h (some (.bool false)) = runQ P G os Q (setO fr d (.tup [])) h) ∧
  (∀ d f xs os, goQCG P G false d f xs os Q fr h (some (.bool true)) = runQ P G os Q (setO fr d (.tup [])) h) ∧
  (∀ b d f xs os p, goQCG P G b d f xs os Q fr h (some (.bool (!p))) = goQCG P G (!b) d f xs os Q fr h (some (.bool p))) ∧
  (∀ b d o os l, goG P G b d o os Q fr h (some (.tup l)) = runS P G os Q (setO fr d (.tup [])) h) ∧
  (∀ b d o os l, goQG P G b d o os Q fr h (some (.tup l)) = runQ P G os Q (setO fr d (.tup [])) h) ∧
  (∀ b d f xs os l, goCG P G b d f xs os Q fr h (some (.tup l)) = runS P G os Q (setO fr d (.tup [])) h) ∧
  (∀ b d f xs os l, goQCG P G b d f xs os Q fr h (some (.tup l)) = runQ P G os Q (setO fr d (.tup [])) h) := by
  refine ⟨?_, ?_, ?_, ?_, ?_, ?_, ?_, ?_, ?_, ?_, ?_, ?_, ?_, ?_, ?_, ?_, ?_, ?_, ?_, ?_, ?_, ?_, ?_, ?_⟩ <;> intros <;> first | (simp [goG, goQG, goCG, goQCG]; done) | (rename_i p; cases p <;> simp [goG, goQG, goCG, goQCG])
theorem simD {P : Program} {G : Gl} {fr : List AV} {h : Hp} {Q : List AV → Hp → Prop} : (∀ d o os p [Decidable p], goG P G true d o os Q fr h (some (.bool (decide p))) = ((p → goS P G d os Q fr h (evalA (ax G fr) (lk h.l) h.next o)) ∧ (¬ p → runS P G os Q (setO fr d (.tup [])) h))) ∧
  (∀ d o os p [Decidable p], goG P G false d o os Q fr h (some (.bool (decide p))) = ((¬ p → goS P G d os Q fr h (evalA (ax G fr) (lk h.l) h.next o)) ∧ (p → runS P G os Q (setO fr d (.tup [])) h))) ∧
  (∀ d o os p [Decidable p], goQG P G true d o os Q fr h (some (.bool (decide p))) = ((p → goQ P G d os Q fr h (evalA (ax G fr) (lk h.l) h.next o)) ∧ (¬ p → runQ P G os Q (setO fr d (.tup [])) h))) ∧
  (∀ d o os p [Decidable p], goQG P G false d o os Q fr h (some (.bool (decide p))) = ((¬ p → goQ P G d os Q fr h (evalA (ax G fr) (lk h.l) h.next o)) ∧ (p → runQ P G os Q (setO fr d (.tup [])) h))) ∧
  (∀ d f xs os p [Decidable p], goCG P G true d f xs os Q fr h (some (.bool (decide p))) = ((p → goC P G d os Q fr h (ax G fr f) (valsV (ax G fr) xs)) ∧ (¬ p → runS P G os Q (setO fr d (.tup [])) h))) ∧
  (∀ d f xs os p [Decidable p], goCG P G false d f xs os Q fr h (some (.bool (decide p))) = ((¬ p → goC P G d os Q fr h (ax G fr f) (valsV (ax G fr) xs)) ∧ (p → runS P G os Q (setO fr d (.tup [])) h))) ∧
  (∀ d f xs os p [Decidable p], goQCG P G true d f xs os Q fr h (some (.bool (decide p))) = ((p → goQC P G d os Q fr h (ax G fr f) (valsV (ax G fr) xs)) ∧ (¬ p → runQ P G os Q (setO fr d (.tup [])) h))) ∧
  (∀ d f xs os p [Decidable p], goQCG P G false d f xs os Q fr h (some (.bool (decide p))) = ((¬ p → goQC P G d os Q fr h (ax G fr f) (valsV (ax G fr) xs)) ∧ (p → runQ P G os Q (setO fr d (.tup [])) h))) := by
  refine ⟨?_, ?_, ?_, ?_, ?_, ?_, ?_, ?_⟩ <;> intros <;> simp [goG, goQG, goCG, goQCG]
theorem condS_d {P : Program} {G : Gl} {rd : Option Nat} {N : Nat} {a b : ACode} {Q : Exit → List AV → Hp → Prop} {fr : List AV} {h : Hp} {t : Prop} [Decidable t] : condS P G rd N a b Q fr h (some (.bool (decide t))) = ((t → wpc P G rd N a Q fr h) ∧ (¬ t → wpc P G rd N b Q fr h)) := by simp [condS]
/-- Values. -/
theorem simV : (∀ G fr n, ax G fr (.t n) = fr[n]?) ∧ (∀ G fr v, ax G fr (.k v) = some v) ∧ (∀ G fr n, ax G fr (.g n) = (G n).map .iptr) ∧ (∀ (fr : List AV) d v, setO fr (some d) v = fr.set d v) ∧ (∀ (fr : List AV) v, setO fr none v = fr) ∧
  (∀ h : Hp, h.app [] = h) ∧ (∀ v, pureR (some v) = some (v, [], [])) ∧ (pureR none = none) ∧ (∀ v f, ev1 (some v) f = pureR (f v)) ∧ (∀ v u f, ev2 (some v) (some u) f = pureR (f v u)) ∧
  (∀ v r, ldR (some (v, r)) = some (v, [], r)) ∧ (∀ up r, stR (some (up, r)) = some (.undef, up, r)) ∧ (∀ up r, clR (some (up, r)) = some (.tup [], up, r)) :=
  ⟨fun _ _ _ => rfl, fun _ _ _ => rfl, fun _ _ _ => rfl, fun _ _ _ => rfl, fun _ _ => rfl, fun _ => rfl, fun _ => rfl, rfl, fun _ _ => rfl, fun _ _ _ => rfl, fun _ _ => rfl, fun _ _ => rfl, fun _ _ => rfl⟩
/-- Numbers. -/
theorem pick_t1 {t : Bool} {l : List AV} {y : AV} : pickV (.bool t) (.tup l) y = some (if t then .tup l else y) := by cases y <;> rfl
theorem pick_t2 {t : Bool} {l : List AV} {y : AV} : pickV (.bool t) y (.tup l) = some (if t then y else .tup l) := by cases y <;> rfl
theorem pick_u1 {t : Bool} {y : AV} : pickV (.bool t) .undef y = some (if t then .undef else y) := by cases y <;> rfl
theorem pick_u2 {t : Bool} {y : AV} : pickV (.bool t) y .undef = some (if t then y else .undef) := by cases y <;> rfl
theorem simB : (∀ k a b, binV .add (.int k a) (.int k b) = some (.int k (k.wrap (a + b)))) ∧ (∀ k a b, binV .sub (.int k a) (.int k b) = some (.int k (k.wrap (a - b)))) ∧ (∀ k a b, binV .mul (.int k a) (.int k b) = some (.int k (k.wrap (a * b)))) ∧
  (∀ k a b, binV .quo (.int k a) (.int k b) = if b = 0 then none else some (.int k (k.wrap (a.tdiv b)))) ∧ (∀ k a b, binV .rem (.int k a) (.int k b) = if b = 0 then none else some (.int k (a.tmod b))) ∧
  (∀ k a b, binV .eql (.int k a) (.int k b) = some (.bool (decide (a = b)))) ∧ (∀ k a b, binV .neq (.int k a) (.int k b) = some (.bool (!decide (a = b)))) ∧ (∀ k a b, binV .lss (.int k a) (.int k b) = some (.bool (decide (a < b)))) ∧ (∀ k a b, binV .leq (.int k a) (.int k b) = some (.bool (decide (a ≤ b)))) ∧
  (∀ k a b, binV .gtr (.int k a) (.int k b) = some (.bool (decide (b < a)))) ∧ (∀ k a b, binV .geq (.int k a) (.int k b) = some (.bool (decide (b ≤ a)))) ∧ (∀ t p q, pickV (.bool t) (.bool p) (.bool q) = some (.bool (if t then p else q))) ∧ (∀ t k p q, pickV (.bool t) (.int k p) (.int k q) = some (.int k (if t then p else q))) ∧
  (∀ k k' n, convV k (.int k' n) = some (.int k (k.wrap n))) ∧ (∀ b, unV .not (.bool b) = some (.bool !b)) ∧ (∀ k n, unV .neg (.int k n) = some (.int k (k.wrap (0 - n)))) := by
  refine ⟨?_, ?_, ?_, ?_, ?_, ?_, ?_, ?_, ?_, ?_, ?_, ?_, ?_, ?_, ?_, ?_⟩ <;> intros <;> simp only [binV, pickV, convV, unV, if_true, ne_eq, true_and, ite_not] <;> first | rfl | (congr 1)
/-- Numbers of 64 bits without a sign. -/
theorem shr_u64 {m : Nat} {b : Int} {k : IntKind} (h0 : 0 ≤ b) (hb : b ≤ 64) : binV .shr (.int .u64 m) (.int k b) = some (.int .u64 ((m / 2 ^ b.toNat : Nat) : Int)) := by
  simp only [binV]
  rw [if_neg (by omega), show IntKind.u64.bits = 64 from rfl, Nat.min_eq_left (by omega), Int.fdiv_eq_ediv_of_nonneg _ (Int.pow_nonneg (by omega))]
  norm_cast
theorem and_u64 {a b : Nat} (ha : a < 18446744073709551616) (hb : b < 18446744073709551616) : binV .and (.int .u64 a) (.int .u64 b) = some (.int .u64 ((a &&& b : Nat) : Int)) := by
  simp only [binV, if_true, bits_and_u64_nat a b ha hb]
theorem or_u64 {a b : Nat} (ha : a < 18446744073709551616) (hb : b < 18446744073709551616) : binV .or (.int .u64 a) (.int .u64 b) = some (.int .u64 ((a ||| b : Nat) : Int)) := by
  simp only [binV, if_true, bits_or_u64_nat a b ha hb]
theorem not_u64 {a : Nat} (ha : a < 18446744073709551616) : unV .xor (.int .u64 a) = some (.int .u64 ((18446744073709551615 ^^^ a : Nat) : Int)) := by
  have := bits_xor_u64_nat 18446744073709551615 a (by omega) ha
  simp only [unV]
  rw [← this]; rfl
theorem toNat_succ {i : Nat} : ((i : Int) + 1).toNat = i + 1 := by omega
/-- Operations. -/
theorem simE {ev : AX → Option AV} {at_ : At} {id : Nat} : (∀ x, evalA ev at_ id (.mv x) = pureR (ev x)) ∧ (∀ c a b, evalA ev at_ id (.pick c a b) = (ev c).bind fun c => (ev a).bind fun a => (ev b).bind fun b => pureR (pickV c a b)) ∧
  (∀ z, evalA ev at_ id (.new z) = some (.ptr id 0, [(id, some (.cells z))], [])) ∧ (∀ x, evalA ev at_ id (.box x) = (ev x).bind fun v => if v.flat = true then some (.ptr id 0, [(id, some (.cells v.cells))], []) else none) ∧
  (∀ x, evalA ev at_ id (.nchk x) = ev1 (ev x) nchkV) ∧ (∀ o x y, evalA ev at_ id (.bin o x y) = ev2 (ev x) (ev y) (binV o)) ∧ (∀ n x y, evalA ev at_ id (.eqb n x y) = ev2 (ev x) (ev y) (eqbV n)) ∧
  (∀ n f x y, evalA ev at_ id (.eqp n f x y) = ev2 (ev x) (ev y) (eqpV n f)) ∧ (∀ n k x y, evalA ev at_ id (.eqs n k x y) = ev2 (ev x) (ev y) (eqsV n k)) ∧ (∀ o x, evalA ev at_ id (.un o x) = ev1 (ev x) (unV o)) ∧
  (∀ k x, evalA ev at_ id (.conv k x) = ev1 (ev x) (convV k)) ∧ (∀ o x, evalA ev at_ id (.faddr o x) = ev1 (ev x) (faddrV o)) ∧ (∀ a o n x, evalA ev at_ id (.fld a o n x) = ev1 (ev x) (fldV a o n)) ∧
  (∀ l s x i, evalA ev at_ id (.iaddrA l s x i) = ev2 (ev x) (ev i) (iaddrAV l s)) ∧ (∀ s x i, evalA ev at_ id (.iaddrS s x i) = ev2 (ev x) (ev i) (iaddrSV s)) ∧ (∀ a l s x i, evalA ev at_ id (.idx a l s x i) = ev2 (ev x) (ev i) (idxV a l s)) ∧
  (∀ f fs cs, evalA ev at_ id (.mkfn f fs cs) = (valsV ev fs).bind fun fs => (valsV ev cs).map fun cs => (.fn f fs cs, [], [])) ∧ (∀ x i, evalA ev at_ id (.ext x i) = ev1 (ev x) (extV i)) ∧ (∀ x, evalA ev at_ id (.len x) = ev1 (ev x) lenV) ∧
  (∀ m x xs, evalA ev at_ id (.minmax m x xs) = (ev x).bind fun x => (valsV ev xs).bind fun l => pureR (mmV m x l)) := by
  refine ⟨?_, ?_, ?_, ?_, ?_, ?_, ?_, ?_, ?_, ?_, ?_, ?_, ?_, ?_, ?_, ?_, ?_, ?_, ?_, ?_⟩ <;> intros <;> simp only [evalA]
  · rename_i c a b; cases ev c <;> cases ev a <;> cases ev b <;> rfl
  · rename_i x; cases ev x <;> rfl
  · rename_i f fs cs; cases valsV ev fs <;> cases valsV ev cs <;> rfl
  · rename_i m x xs; cases ev x <;> cases valsV ev xs <;> rfl
def PlainL : List AV → Prop
  | [] => True
  | x :: r => Plain x ∧ PlainL r
theorem PlainL.all : ∀ {l : List AV}, PlainL l → ∀ x ∈ l, Plain x
  | _ :: _, h, x, hx => (List.mem_cons.1 hx).elim (fun e => e ▸ h.1) fun hx => h.2.all x hx
theorem fin_eq {P : Program} {h : Hp} {l : List AV} {r : AV} (hp : Plain r) (e : packV l = r) : finS P 0 (fun r' h' => r' = r ∧ h'.l = []) h (some l) := finS_plain e hp ⟨rfl, rfl⟩
theorem fin_int {P : Program} {h : Hp} {k : IntKind} {m n : Int} (e : n = m) : finS P 0 (fun r' h' => r' = .int k m ∧ h'.l = []) h (some [.int k n]) := fin_eq plain_int (by rw [e]; rfl)
theorem fin_bool {P : Program} {h : Hp} {m n : Bool} (e : n = m) : finS P 0 (fun r' h' => r' = .bool m ∧ h'.l = []) h (some [.bool n]) := fin_eq plain_bool (by rw [e]; rfl)
/-- A pure function's contract. -/
theorem pure_of {P : Program} {G : Gl} {f n : Nat} {ac : ACode} {rs : List ARes} {args : List AV} {r : AV} (hmix : P.follows .mixedOrders = true) (hb : Body P f ac rs n) (hG : PlainG G) (ha : PlainL args) (hr : Plain r)
    (hw : wpc P G none 0 ac (finQ P rs 0 fun r' h' => r' = r ∧ h'.l = []) (args ++ List.replicate (n - args.length) .undef) ⟨[], 0⟩) : PureC P G f args r := fun _ _ => fnU_pure hmix hb hG ha.all hr hw
end Go.Am
