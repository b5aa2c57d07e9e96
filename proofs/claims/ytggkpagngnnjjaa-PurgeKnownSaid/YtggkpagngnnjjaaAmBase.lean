/-
  The abstract machine: values without addresses, a store of named blocks, and how they stand for values and memory of the model. No program in sight.
-/
import Derived.CallsIn
import Derived.Below
set_option linter.unusedSimpArgs false
set_option linter.unusedVariables false
namespace Go.Am

/-- Abstract values. A slice that nothing writes any more bears its elements; one that may be written names its block. -/
inductive AV where
  | undef
  | int (k : IntKind) (n : Int)
  | bool (b : Bool)
  | str (s : ByteArray)
  | nilp
  | nilf
  | nils
  | ptr (id off : Nat)
  | iptr (cs : List AV)
  | sl (id off len cp sz : Nat)
  | isl (els : List (List AV))
  | agg (cs : List AV)
  | tup (cs : List AV)
  | fn (f : Nat) (first cap : List AV)
  | yld (l : Nat)
  | mapr (id : Nat)
instance : Inhabited AV := ⟨.undef⟩

def AV.cells : AV → List AV
  | .agg cs => cs
  | v => [v]

/-- Operands: a slot, a constant, the place of a package-level variable. -/
inductive AX where
  | t (n : Nat)
  | k (v : AV)
  | g (n : Nat)
/-- Operations, with all that the types tell written out. -/
inductive AOp where
  | mv (x : AX)
  | pick (c a b : AX)
  | new (z : List AV)
  | box (x : AX)
  | build (z : List AV) (ps : List (Nat × Nat × AX))
  | bslice (sz n : Nat) (z : List AV) (ps : List (Nat × Nat × AX))
  | load (ag : Bool) (n : Nat) (x : AX)
  | store (n : Nat) (a v : AX)
  | nchk (x : AX)
  | bin (op : BinOp) (x y : AX)
  | eqb (ng : Bool) (x y : AX)
  | eqp (ng fn : Bool) (x y : AX)
  | eqs (ng : Bool) (ks : List Bool) (x y : AX)
  | un (op : UnOp) (x : AX)
  | conv (k : IntKind) (x : AX)
  | faddr (off : Nat) (x : AX)
  | fld (ag : Bool) (off n : Nat) (x : AX)
  | iaddrA (len sz : Nat) (x i : AX)
  | iaddrS (sz : Nat) (x i : AX)
  | idx (ag : Bool) (len sz : Nat) (x i : AX)
  | slS (sz : Nat) (x : AX) (lo hi mx : Option AX)
  | slA (n sz : Nat) (x : AX) (lo hi : Option AX)
  | mkfn (f : Nat) (fs cs : List AX)
  | mks (sz bytes : Nat) (z : List AV) (l c : AX)
  | ext (x : AX) (i : Nat)
  | append (sz bytes : Nat) (s x : AX)
  | len (x : AX)
  | clear (z : List AV) (x : AX)
  | minmax (mx : Bool) (x : AX) (xs : List AX)
  | call (f : AX) (args : List AX)
/-- An operation of a region: where it puts its result, and the slot and the answer that it waits for. -/
structure AOper where
  dst : Option Nat
  op : AOp
  guard : Option (Nat × Bool) := none
/-- Code; a region that draws its order bears, for each operation, those that come before it. -/
inductive ACode where
  | skip
  | reg (ops : List AOper)
  | regD (ops : List AOper) (pre : List (List Nat))
  | seq (a b : ACode)
  | cond (c : AX) (a b : ACode)
  | block (id : Nat) (c : ACode)
  | loop (c : ACode)
  | rangeF (f : AX) (ps : List Nat) (assign body : ACode)
  | exit (id : Nat)
  | ret

inductive AObj where
  | cells (cs : List AV)
  | loop (st : LoopState) (pend : Option Code) (fr : List AV) (ps : List Nat) (assign body : ACode)
  | maps (es : List (AV × AV))

/-- Abstract names with their blocks, the names that have been used, where each lies, and the world. -/
structure Cx where
  U : Nat → Prop
  at_ : Nat → Option AObj
  mu : Nat → Nat × Nat
  w : World
  hid : Nat → Prop

/-- A block that no name can write, and that is not hidden. -/
structure Cx.Froz (c : Cx) (b : Nat) : Prop where
  lt : b < c.w.heap.size
  nm : ∀ id o, c.at_ id = some o → (c.mu id).1 ≠ b
  nh : ¬ c.hid b
def csize (w : World) (b : Nat) : Nat := match w.heap[b]? with | some (.cells a _ _) => a.size | _ => 0

def RCs (p : AV → Value → Prop) (xs : List AV) (look : Nat → Option Value) : Prop := ∀ j x, xs[j]? = some x → ∃ u, look j = some u ∧ p x u

/-- A value of one cell. -/
def One (v : Value) : Prop := (∀ cs, v ≠ .agg cs) ∧ ∀ vs, v ≠ .tuple vs
def AV.one : AV → Bool
  | .undef => false
  | .agg _ => false
  | .tup _ => false
  | _ => true
/-- Cells of memory: each is a value of one cell. -/
abbrev RC1 (p : AV → Value → Prop) (xs : List AV) (look : Nat → Option Value) : Prop := RCs (fun x u => p x u ∧ One u) xs look

/-- The abstract value stands for a value: depth d of nesting. -/
def R (c : Cx) : Nat → AV → Value → Prop
  | _, .undef, _ => True
  | _, .int k n, v => v = .int k n
  | _, .bool b, v => v = .bool b
  | _, .str s, v => v = .string s
  | _, .nilp, v => v = .pointer none
  | _, .nilf, v => v = .nilFunc
  | _, .nils, v => ∃ A, v = .slice A 0 0
  | _, .ptr id off, v => c.U id ∧ v = .pointer (some ⟨(c.mu id).1, (c.mu id).2 + off, none⟩)
  | _, .sl id off len cp sz, v => c.U id ∧ (c.mu id).1 < c.w.heap.size ∧ ∃ cap, v = .slice (some ⟨(c.mu id).1, (c.mu id).2 + off, none⟩) len cap ∧ len ≤ cp ∧ cp ≤ cap ∧ cap ≤ maxLen ∧ (c.mu id).2 + off + cap * sz ≤ csize c.w (c.mu id).1
  | _, .yld l, v => c.U l ∧ v = .func (.yield (c.mu l).1) #[] #[]
  | _, .mapr l, v => c.U l ∧ v = .map (some (c.mu l).1)
  | d + 1, .isl els, v => ∃ A cap, v = .slice A els.length cap ∧ els.length ≤ cap ∧ cap ≤ maxLen ∧ (els ≠ [] → ∃ b off sz, A = some ⟨b, off, none⟩ ∧ c.Froz b ∧
      ∀ (k : Nat) el, els[k]? = some el → el.length = sz ∧ RC1 (R c d) el fun j => c.w.cell? ⟨b, off + k * sz + j, none⟩)
  | d + 1, .iptr cs, v => ∃ b off, v = .pointer (some ⟨b, off, none⟩) ∧ c.Froz b ∧ RC1 (R c d) cs fun j => c.w.cell? ⟨b, off + j, none⟩
  | d + 1, .agg cs, v => ∃ vs : Array Value, v = .agg vs ∧ vs.size = cs.length ∧ RC1 (R c d) cs fun j => vs[j]?
  | d + 1, .tup cs, v => ∃ vs : Array Value, v = .tuple vs ∧ vs.size = cs.length ∧ RCs (R c d) cs fun j => vs[j]?
  | d + 1, .fn f fs cs, v => ∃ vf vc : Array Value, v = .func (.func f) vf vc ∧ (vf.size = fs.length ∧ RCs (R c d) fs fun j => vf[j]?) ∧ (vc.size = cs.length ∧ RCs (R c d) cs fun j => vc[j]?)
  | 0, _, _ => False

theorem RCs.imp {p q : AV → Value → Prop} {xs : List AV} {look look' : Nat → Option Value} (h : RCs p xs look) (hp : ∀ x v, p x v → q x v) (hl : ∀ j u, look j = some u → look' j = some u) : RCs q xs look' := fun j x hx => by
  obtain ⟨u, hu, hxu⟩ := h j x hx
  exact ⟨u, hl j u hu, hp _ _ hxu⟩
theorem R.mono {c : Cx} : ∀ {d d' : Nat}, d ≤ d' → ∀ {x : AV} {v : Value}, R c d x v → R c d' x v
  | 0, d', _, x, v, h => by cases x <;> first | (simp only [R] at h; done) | (cases d' <;> exact h)
  | d + 1, 0, hd, _, _, _ => absurd hd (by omega)
  | d + 1, d' + 1, hd, x, v, h => by
    have ih : ∀ x v, R c d x v → R c d' x v := fun x v hx => R.mono (by omega) hx
    have ih1 : ∀ x v, R c d x v ∧ One v → R c d' x v ∧ One v := fun x v hx => ⟨ih x v hx.1, hx.2⟩
    cases x with
    | isl els =>
      obtain ⟨A, cap, h1, h2, h3, h4⟩ := h
      refine ⟨A, cap, h1, h2, h3, fun hne => ?_⟩
      obtain ⟨b, off, sz, h5, h6, h7⟩ := h4 hne
      exact ⟨b, off, sz, h5, h6, fun k el hk => ⟨(h7 k el hk).1, (h7 k el hk).2.imp ih1 fun _ _ h => h⟩⟩
    | iptr cs => obtain ⟨b, off, h1, h2, h3⟩ := h; exact ⟨b, off, h1, h2, h3.imp ih1 fun _ _ h => h⟩
    | agg cs => obtain ⟨vs, h1, h2, h3⟩ := h; exact ⟨vs, h1, h2, h3.imp ih1 fun _ _ h => h⟩
    | tup cs => obtain ⟨vs, h1, h2, h3⟩ := h; exact ⟨vs, h1, h2, h3.imp ih fun _ _ h => h⟩
    | fn f fs cs => obtain ⟨vf, vc, h1, ⟨h2, h3⟩, h4, h5⟩ := h; exact ⟨vf, vc, h1, ⟨h2, h3.imp ih fun _ _ h => h⟩, h4, h5.imp ih fun _ _ h => h⟩
    | _ => exact h

/-- It stands for a value, at some depth. -/
def RR (c : Cx) (x : AV) (v : Value) : Prop := ∃ d, R c d x v
theorem RCs.bound {c : Cx} : ∀ {xs : List AV} {look : Nat → Option Value}, RCs (RR c) xs look → ∃ d, RCs (R c d) xs look
  | [], _, _ => ⟨0, fun j x hx => by simp at hx⟩
  | y :: ys, look, h => by
    obtain ⟨u, hu, d1, hd1⟩ := h 0 y rfl
    obtain ⟨d2, h2⟩ := RCs.bound (xs := ys) (look := fun j => look (j + 1)) fun j x hx => h (j + 1) x (by simpa using hx)
    refine ⟨max d1 d2, fun j x hx => ?_⟩
    cases j with
    | zero => simp at hx; subst hx; exact ⟨u, hu, R.mono (Nat.le_max_left ..) hd1⟩
    | succ j => obtain ⟨u, hu, hxu⟩ := h2 j x (by simpa using hx); exact ⟨u, hu, R.mono (Nat.le_max_right ..) hxu⟩
theorem RCs.bound1 {c : Cx} : ∀ {xs : List AV} {look : Nat → Option Value}, RC1 (RR c) xs look → ∃ d, RC1 (R c d) xs look
  | [], _, _ => ⟨0, fun j x hx => by simp at hx⟩
  | y :: ys, look, h => by
    obtain ⟨u, hu, ⟨d1, hd1⟩, h1⟩ := h 0 y rfl
    obtain ⟨d2, h2⟩ := RCs.bound1 (xs := ys) (look := fun j => look (j + 1)) fun j x hx => h (j + 1) x (by simpa using hx)
    refine ⟨max d1 d2, fun j x hx => ?_⟩
    cases j with
    | zero => simp at hx; subst hx; exact ⟨u, hu, R.mono (Nat.le_max_left ..) hd1, h1⟩
    | succ j => obtain ⟨u, hu, hxu, ho⟩ := h2 j x (by simpa using hx); exact ⟨u, hu, R.mono (Nat.le_max_right ..) hxu, ho⟩
theorem RCs.up1 {c : Cx} {d d' : Nat} {xs : List AV} {look : Nat → Option Value} (h : RC1 (R c d) xs look) (hd : d ≤ d') : RC1 (R c d') xs look := h.imp (fun _ _ h => ⟨R.mono hd h.1, h.2⟩) fun _ _ h => h
theorem RCs.rr1 {c : Cx} {d : Nat} {xs : List AV} {look : Nat → Option Value} (h : RC1 (R c d) xs look) : RC1 (RR c) xs look := h.imp (fun _ _ h => ⟨⟨d, h.1⟩, h.2⟩) fun _ _ h => h
theorem RCs.up {c : Cx} {d d' : Nat} {xs : List AV} {look : Nat → Option Value} (h : RCs (R c d) xs look) (hd : d ≤ d') : RCs (R c d') xs look := h.imp (fun _ _ => R.mono hd) fun _ _ h => h
theorem RCs.rr {c : Cx} {d : Nat} {xs : List AV} {look : Nat → Option Value} (h : RCs (R c d) xs look) : RCs (RR c) xs look := h.imp (fun _ _ h => ⟨d, h⟩) fun _ _ h => h

section forms
variable {c : Cx} {v : Value}
@[simp] theorem RR_undef : RR c .undef v := ⟨0, by simp [R]⟩
@[simp] theorem RR_int {k : IntKind} {n : Int} : RR c (.int k n) v ↔ v = .int k n := ⟨fun ⟨d, h⟩ => by cases d <;> exact h, fun h => ⟨0, h⟩⟩
@[simp] theorem RR_bool {b : Bool} : RR c (.bool b) v ↔ v = .bool b := ⟨fun ⟨d, h⟩ => by cases d <;> exact h, fun h => ⟨0, h⟩⟩
@[simp] theorem RR_str {b : ByteArray} : RR c (.str b) v ↔ v = .string b := ⟨fun ⟨d, h⟩ => by cases d <;> exact h, fun h => ⟨0, h⟩⟩
@[simp] theorem RR_nilp : RR c .nilp v ↔ v = .pointer none := ⟨fun ⟨d, h⟩ => by cases d <;> exact h, fun h => ⟨0, h⟩⟩
@[simp] theorem RR_nilf : RR c .nilf v ↔ v = .nilFunc := ⟨fun ⟨d, h⟩ => by cases d <;> exact h, fun h => ⟨0, h⟩⟩
@[simp] theorem RR_nils : RR c .nils v ↔ ∃ A, v = .slice A 0 0 := ⟨fun ⟨d, h⟩ => by cases d <;> exact h, fun h => ⟨0, h⟩⟩
theorem RR_ptr {id off : Nat} : RR c (.ptr id off) v ↔ c.U id ∧ v = .pointer (some ⟨(c.mu id).1, (c.mu id).2 + off, none⟩) := ⟨fun ⟨d, h⟩ => by cases d <;> exact h, fun h => ⟨0, h⟩⟩
theorem RR_sl {id off len cp sz : Nat} : RR c (.sl id off len cp sz) v ↔ c.U id ∧ (c.mu id).1 < c.w.heap.size ∧ ∃ cap, v = .slice (some ⟨(c.mu id).1, (c.mu id).2 + off, none⟩) len cap ∧ len ≤ cp ∧ cp ≤ cap ∧ cap ≤ maxLen ∧ (c.mu id).2 + off + cap * sz ≤ csize c.w (c.mu id).1 := ⟨fun ⟨d, h⟩ => by cases d <;> exact h, fun h => ⟨0, h⟩⟩
theorem RR_yld {l : Nat} : RR c (.yld l) v ↔ c.U l ∧ v = .func (.yield (c.mu l).1) #[] #[] := ⟨fun ⟨d, h⟩ => by cases d <;> exact h, fun h => ⟨0, h⟩⟩
theorem RR_mapr {l : Nat} : RR c (.mapr l) v ↔ c.U l ∧ v = .map (some (c.mu l).1) := ⟨fun ⟨d, h⟩ => by cases d <;> exact h, fun h => ⟨0, h⟩⟩
theorem RR_agg {cs : List AV} : RR c (.agg cs) v ↔ ∃ vs : Array Value, v = .agg vs ∧ vs.size = cs.length ∧ RC1 (RR c) cs fun j => vs[j]? :=
  ⟨fun ⟨d, h⟩ => by cases d with | zero => simp only [R] at h | succ d => obtain ⟨vs, h1, h2, h3⟩ := h; exact ⟨vs, h1, h2, h3.rr1⟩,
   fun ⟨vs, h1, h2, h3⟩ => let ⟨d, h4⟩ := h3.bound1; ⟨d + 1, vs, h1, h2, h4⟩⟩
theorem RR_tup {cs : List AV} : RR c (.tup cs) v ↔ ∃ vs : Array Value, v = .tuple vs ∧ vs.size = cs.length ∧ RCs (RR c) cs fun j => vs[j]? :=
  ⟨fun ⟨d, h⟩ => by cases d with | zero => simp only [R] at h | succ d => obtain ⟨vs, h1, h2, h3⟩ := h; exact ⟨vs, h1, h2, h3.rr⟩,
   fun ⟨vs, h1, h2, h3⟩ => let ⟨d, h4⟩ := h3.bound; ⟨d + 1, vs, h1, h2, h4⟩⟩
theorem RR_fn {f : Nat} {fs cs : List AV} : RR c (.fn f fs cs) v ↔ ∃ vf vc : Array Value, v = .func (.func f) vf vc ∧ (vf.size = fs.length ∧ RCs (RR c) fs fun j => vf[j]?) ∧ (vc.size = cs.length ∧ RCs (RR c) cs fun j => vc[j]?) :=
  ⟨fun ⟨d, h⟩ => by cases d with | zero => simp only [R] at h | succ d => obtain ⟨vf, vc, h1, ⟨h2, h3⟩, h4, h5⟩ := h; exact ⟨vf, vc, h1, ⟨h2, h3.rr⟩, h4, h5.rr⟩,
   fun ⟨vf, vc, h1, ⟨h2, h3⟩, h4, h5⟩ => let ⟨d, h6⟩ := h3.bound; let ⟨e, h7⟩ := h5.bound; ⟨max d e + 1, vf, vc, h1, ⟨h2, h6.up (Nat.le_max_left ..)⟩, h4, h7.up (Nat.le_max_right ..)⟩⟩
theorem RR_iptr {cs : List AV} : RR c (.iptr cs) v ↔ ∃ b off, v = .pointer (some ⟨b, off, none⟩) ∧ c.Froz b ∧ RC1 (RR c) cs fun j => c.w.cell? ⟨b, off + j, none⟩ :=
  ⟨fun ⟨d, h⟩ => by cases d with | zero => simp only [R] at h | succ d => obtain ⟨b, off, h1, h2, h3⟩ := h; exact ⟨b, off, h1, h2, h3.rr1⟩,
   fun ⟨b, off, h1, h2, h3⟩ => let ⟨d, h4⟩ := h3.bound1; ⟨d + 1, b, off, h1, h2, h4⟩⟩
theorem bound_els {w : World} : ∀ (els : List (List AV)) (b o sz : Nat), (∀ (k : Nat) el, els[k]? = some el → el.length = sz ∧ RC1 (RR c) el fun j => w.cell? ⟨b, o + k * sz + j, none⟩) →
    ∃ d, ∀ (k : Nat) el, els[k]? = some el → el.length = sz ∧ RC1 (R c d) el fun j => w.cell? ⟨b, o + k * sz + j, none⟩
  | [], _, _, _, _ => ⟨0, fun k el h => by simp at h⟩
  | e :: els, b, o, sz, h => by
    obtain ⟨h0, h1⟩ := h 0 e rfl
    obtain ⟨d1, hd1⟩ := h1.bound1
    obtain ⟨d2, hd2⟩ := bound_els els b (o + sz) sz fun k el hk => by
      have := h (k + 1) el (by simpa using hk)
      refine ⟨this.1, this.2.imp (fun _ _ h => h) fun j u hj => ?_⟩
      rw [show o + sz + k * sz + j = o + (k + 1) * sz + j by rw [Nat.succ_mul]; omega]; exact hj
    refine ⟨max d1 d2, fun k el hk => ?_⟩
    cases k with
    | zero => simp at hk; subst hk; exact ⟨h0, hd1.up1 (Nat.le_max_left ..)⟩
    | succ k =>
      have := hd2 k el (by simpa using hk)
      refine ⟨this.1, (this.2.up1 (Nat.le_max_right ..)).imp (fun _ _ h => h) fun j u hj => ?_⟩
      rw [show o + (k + 1) * sz + j = o + sz + k * sz + j by rw [Nat.succ_mul]; omega]; exact hj
theorem RR_isl {els : List (List AV)} : RR c (.isl els) v ↔ ∃ A cap, v = .slice A els.length cap ∧ els.length ≤ cap ∧ cap ≤ maxLen ∧ (els ≠ [] → ∃ b off sz, A = some ⟨b, off, none⟩ ∧ c.Froz b ∧
      ∀ (k : Nat) el, els[k]? = some el → el.length = sz ∧ RC1 (RR c) el fun j => c.w.cell? ⟨b, off + k * sz + j, none⟩) := by
  constructor
  · rintro ⟨d, h⟩
    cases d with
    | zero => simp only [R] at h
    | succ d =>
      obtain ⟨A, cap, h1, h2, h3, h4⟩ := h
      refine ⟨A, cap, h1, h2, h3, fun hne => ?_⟩
      obtain ⟨b, off, sz, h5, h6, h7⟩ := h4 hne
      exact ⟨b, off, sz, h5, h6, fun k el hk => ⟨(h7 k el hk).1, (h7 k el hk).2.rr1⟩⟩
  · rintro ⟨A, cap, h1, h2, h3, h4⟩
    by_cases hne : els = []
    · subst hne; exact ⟨1, A, cap, h1, h2, h3, fun h => absurd rfl h⟩
    · obtain ⟨b, off, sz, h5, h6, h7⟩ := h4 hne
      obtain ⟨d, h8⟩ := bound_els els b off sz h7
      exact ⟨d + 1, A, cap, h1, h2, h3, fun _ => ⟨b, off, sz, h5, h6, h8⟩⟩
theorem RR.one {x : AV} (h : RR c x v) (hx : x.one = true) : One v := by
  cases x <;> first
    | (simp [AV.one] at hx; done)
    | (simp only [RR_int, RR_bool, RR_str, RR_nilp, RR_nilf] at h; subst h; exact ⟨fun _ e => (by cases e), fun _ e => (by cases e)⟩)
    | (obtain ⟨A, rfl⟩ := RR_nils.1 h; exact ⟨fun _ e => (by cases e), fun _ e => (by cases e)⟩)
    | (obtain ⟨_, rfl⟩ := RR_ptr.1 h; exact ⟨fun _ e => (by cases e), fun _ e => (by cases e)⟩)
    | (obtain ⟨_, rfl⟩ := RR_yld.1 h; exact ⟨fun _ e => (by cases e), fun _ e => (by cases e)⟩)
    | (obtain ⟨_, rfl⟩ := RR_mapr.1 h; exact ⟨fun _ e => (by cases e), fun _ e => (by cases e)⟩)
    | (obtain ⟨_, _, _, rfl, _⟩ := RR_sl.1 h; exact ⟨fun _ e => (by cases e), fun _ e => (by cases e)⟩)
    | (obtain ⟨_, _, rfl, _⟩ := RR_isl.1 h; exact ⟨fun _ e => (by cases e), fun _ e => (by cases e)⟩)
    | (obtain ⟨_, _, rfl, _⟩ := RR_iptr.1 h; exact ⟨fun _ e => (by cases e), fun _ e => (by cases e)⟩)
    | (obtain ⟨_, _, rfl, _⟩ := RR_fn.1 h; exact ⟨fun _ e => (by cases e), fun _ e => (by cases e)⟩)
end forms

/-- A later state: what is frozen stays, names lie where they lay. -/
structure Ext (c c' : Cx) : Prop where
  used : ∀ id, c.U id → c'.U id
  mu : ∀ id, c.U id → c'.mu id = c.mu id
  csz : ∀ b, b < c.w.heap.size → csize c'.w b = csize c.w b
  froz : ∀ b, c.Froz b → c'.Froz b ∧ c'.w.heap[b]? = c.w.heap[b]?
  size : c.w.heap.size ≤ c'.w.heap.size
  hid : ∀ b, c'.hid b ↔ c.hid b
  hidh : ∀ b, c.hid b → c'.w.heap[b]? = c.w.heap[b]?
  env : c'.w.os = c.w.os ∧ c'.w.tape = c.w.tape ∧ c'.w.output = c.w.output
theorem Ext.refl (c : Cx) : Ext c c := ⟨fun _ h => h, fun _ _ => rfl, fun _ _ => rfl, fun _ h => ⟨h, rfl⟩, Nat.le_refl _, fun _ => Iff.rfl, fun _ _ => rfl, rfl, rfl, rfl⟩
theorem Ext.trans {a b c : Cx} (h : Ext a b) (h' : Ext b c) : Ext a c :=
  ⟨fun id hu => h'.used id (h.used id hu), fun id hu => (h'.mu id (h.used id hu)).trans (h.mu id hu), fun k hk => (h'.csz k (Nat.lt_of_lt_of_le hk h.size)).trans (h.csz k hk),
   fun blk hb => ⟨(h'.froz blk (h.froz blk hb).1).1, (h'.froz blk (h.froz blk hb).1).2.trans (h.froz blk hb).2⟩, Nat.le_trans h.size h'.size, fun b => (h'.hid b).trans (h.hid b), fun b hb => (h'.hidh b ((h.hid b).2 hb)).trans (h.hidh b hb), h'.env.1.trans h.env.1, h'.env.2.1.trans h.env.2.1, h'.env.2.2.trans h.env.2.2⟩
/-- As 'Ext', but of what is frozen the cells alone are spoken of. -/
structure ExtW (c c' : Cx) : Prop where
  used : ∀ id, c.U id → c'.U id
  mu : ∀ id, c.U id → c'.mu id = c.mu id
  csz : ∀ b, b < c.w.heap.size → csize c'.w b = csize c.w b
  froz : ∀ b, c.Froz b → c'.Froz b ∧ ∀ o v, c.w.cell? ⟨b, o, none⟩ = some v → c'.w.cell? ⟨b, o, none⟩ = some v
  size : c.w.heap.size ≤ c'.w.heap.size
theorem Ext.toW {c c' : Cx} (e : Ext c c') : ExtW c c' := ⟨e.used, e.mu, e.csz, fun b hb => ⟨(e.froz b hb).1, fun o v h => by
  have := (e.froz b hb).2
  simp only [World.cell?] at h ⊢
  rw [this]; exact h⟩, e.size⟩
theorem R.extW {c c' : Cx} (e : ExtW c c') : ∀ {d : Nat} {x : AV} {v : Value}, R c d x v → R c' d x v := by
  intro d
  induction d with
  | zero =>
    intro x v h
    cases x <;> first
      | exact h
      | (simp only [R] at h; done)
      | (obtain ⟨h1, h2⟩ := h
         refine ⟨e.used _ h1, ?_⟩
         rw [e.mu _ h1]
         first | exact h2 | (obtain ⟨h3, cap, h4, h5, h6, h7, h8⟩ := h2; exact ⟨Nat.lt_of_lt_of_le h3 e.size, cap, h4, h5, h6, h7, by rw [e.csz _ h3]; exact h8⟩))
  | succ d ih =>
    intro x v h
    have ihc : ∀ xs (b o : Nat), c.Froz b → RC1 (R c d) xs (fun j => c.w.cell? ⟨b, o + j, none⟩) → RC1 (R c' d) xs (fun j => c'.w.cell? ⟨b, o + j, none⟩) := fun xs b o hb hx =>
      hx.imp (fun _ _ h => ⟨ih h.1, h.2⟩) fun j u hj => (e.froz b hb).2 _ u hj
    cases x with
    | isl els =>
      obtain ⟨A, cap, h1, h2, h3, h4⟩ := h
      refine ⟨A, cap, h1, h2, h3, fun hne => ?_⟩
      obtain ⟨b, off, sz, h5, h6, h7⟩ := h4 hne
      exact ⟨b, off, sz, h5, (e.froz b h6).1, fun k el hk => ⟨(h7 k el hk).1, ihc _ _ _ h6 (h7 k el hk).2⟩⟩
    | iptr cs => obtain ⟨b, off, h1, h2, h3⟩ := h; exact ⟨b, off, h1, (e.froz b h2).1, ihc _ _ _ h2 h3⟩
    | agg cs => obtain ⟨vs, h1, h2, h3⟩ := h; exact ⟨vs, h1, h2, h3.imp (fun _ _ h => ⟨ih h.1, h.2⟩) fun _ _ h => h⟩
    | tup cs => obtain ⟨vs, h1, h2, h3⟩ := h; exact ⟨vs, h1, h2, h3.imp (fun _ _ => ih) fun _ _ h => h⟩
    | fn f fs cs => obtain ⟨vf, vc, h1, ⟨h2, h3⟩, h4, h5⟩ := h; exact ⟨vf, vc, h1, ⟨h2, h3.imp (fun _ _ => ih) fun _ _ h => h⟩, h4, h5.imp (fun _ _ => ih) fun _ _ h => h⟩
    | undef | int | bool | str | nilp | nilf | nils => exact h
    | ptr | yld | mapr =>
      obtain ⟨h1, h2⟩ := h
      refine ⟨e.used _ h1, ?_⟩
      rw [e.mu _ h1]; exact h2
    | sl =>
      obtain ⟨h1, h3, cap, h4, h5, h6, h7, h8⟩ := h
      refine ⟨e.used _ h1, ?_⟩
      rw [e.mu _ h1]
      exact ⟨Nat.lt_of_lt_of_le h3 e.size, cap, h4, h5, h6, h7, by rw [e.csz _ h3]; exact h8⟩
theorem R.ext {c c' : Cx} (e : Ext c c') {d : Nat} {x : AV} {v : Value} (h : R c d x v) : R c' d x v := h.extW e.toW
theorem RR.ext {c c' : Cx} (e : Ext c c') {x : AV} {v : Value} (h : RR c x v) : RR c' x v := let ⟨d, hd⟩ := h; ⟨d, hd.ext e⟩

theorem RC1.ext {c c' : Cx} (e : Ext c c') {xs : List AV} {look : Nat → Option Value} (h : RC1 (RR c) xs look) : RC1 (RR c') xs look := h.imp (fun _ _ h => ⟨h.1.ext e, h.2⟩) fun _ _ h => h
theorem RR.extW {c c' : Cx} (e : ExtW c c') {x : AV} {v : Value} (h : RR c x v) : RR c' x v := let ⟨d, hd⟩ := h; ⟨d, hd.extW e⟩
/-- An abstract frame stands for temporaries. -/
def FR (c : Cx) (fr : List AV) (tmps : Array Value) : Prop := tmps.size = fr.length ∧ RCs (RR c) fr fun j => tmps[j]?
theorem FR.ext {c c' : Cx} (e : Ext c c') {fr : List AV} {tmps : Array Value} (h : FR c fr tmps) : FR c' fr tmps := ⟨h.1, h.2.imp (fun _ _ => RR.ext e) fun _ _ h => h⟩
theorem FR.set {c : Cx} {fr : List AV} {tmps : Array Value} (h : FR c fr tmps) (t : Nat) {x : AV} {v : Value} (hx : RR c x v) : FR c (fr.set t x) (tmps.setIfInBounds t v) := by
  refine ⟨by simpa using h.1, fun j y hy => ?_⟩
  rw [List.getElem?_set] at hy
  split at hy
  · rename_i e
    subst e
    split at hy
    · rename_i hlt
      cases hy
      refine ⟨v, ?_, hx⟩
      simp [Array.getElem?_setIfInBounds, h.1, hlt]
    · cases hy
  · rename_i hne
    obtain ⟨u, hu, hyu⟩ := h.2 j y hy
    exact ⟨u, by show (tmps.setIfInBounds t v)[j]? = some u; rw [Array.getElem?_setIfInBounds_ne hne]; exact hu, hyu⟩

end Go.Am
