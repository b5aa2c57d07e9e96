/-
  From the model's code to the abstract machine's: the types' words written out. No program in sight.
-/
import Derived.Test.YtggkpagngnnjjaaAmBase
import Derived.Laws.Bits
set_option linter.unusedSimpArgs false
set_option linter.unusedVariables false
namespace Go.Am

/-- A constant as an abstract value. -/
def ofL : Value → Option AV
  | .int k n => some (.int k n)
  | .bool b => some (.bool b)
  | .string s => some (.str s)
  | .pointer none => some .nilp
  | .nilFunc => some .nilf
  | .slice none 0 0 => some .nils
  | .func (.func f) fs cs => if fs.size = 0 ∧ cs.size = 0 then some (.fn f [] []) else none
  | _ => none
def ofV : Nat → Value → Option AV
  | 0, v => ofL v
  | _ + 1, v => match v with
    | .agg vs => (vs.toList.mapM ofL).map .agg
    | v => ofL v
def cox : Operand → Option AX
  | .tmp t => some (.t t)
  | .const v => (ofV 9 v).map .k
  | .global g => some (.g g)
  | .func f => some (.k (.fn f [] []))
def zeroOf (P : Program) (t : TypeId) : Option (List AV) := ((P.info? t).bind (·.zero)).bind fun z => z.cells.toList.mapM ofL
def szOf (P : Program) (t : TypeId) : Option Nat := (P.info? t).map (·.size)
def bytesOf (P : Program) (t : TypeId) : Option Nat := (P.info? t).map (·.bytes)
def aggOf (P : Program) (t : TypeId) : Option Bool := (P.underlying t).map fun
  | .struct _ => true
  | .array _ _ => true
  | _ => false
/-- The parts of a composite literal: place, size, operand. -/
def cparts (place : Nat → Option (Nat × Nat)) : List (Nat × Operand) → Option (List (Nat × Nat × AX))
  | [] => some []
  | (i, x) :: r => match place i, cox x, cparts place r with
    | some (o, s), some a, some l => some ((o, s, a) :: l)
    | _, _, _ => none
def coxO : Option Operand → Option (Option AX)
  | none => some none
  | some x => (cox x).map some
/-- Fields that are compared: each an integer (false) or a bool (true), one behind the other. -/
def leafK (P : Program) (f : Field) : Option Bool := match P.underlying f.type with
  | some (.int _) => some false
  | some .bool => some true
  | _ => none
def leaves (P : Program) : List Field → Nat → Option (List Bool)
  | [], _ => some []
  | f :: r, i => if f.name ≠ "_" ∧ f.offset = i then match leafK P f, leaves P r (i + 1) with
    | some b, some l => some (b :: l)
    | _, _ => none
    else none
def cop (P : Program) : Op → Option AOp
  | .move x => (cox x).map .mv
  | .assign x => (cox x).map .mv
  | .pick c a b => match cox c, cox a, cox b with | some c, some a, some b => some (.pick c a b) | _, _, _ => none
  | .alloc e => (zeroOf P e).map .new
  | .box _ x => (cox x).map .box
  | .build t ps => match P.underlying t, zeroOf P t with
    | some (.struct fs), some z => match fs.toList.mapM (fun f => (P.info? f.type).map fun i => (f.offset, i.size)) with
      | some pl => (cparts (pl.toArray[·]?) ps.toList).map (.build z)
      | none => none
    | some (.array _ e), some z => (szOf P e).bind fun s => (cparts (fun i => some (i * s, s)) ps.toList).map (.build z)
    | _, _ => none
  | .buildSlice t n ps => match P.underlying t with
    | some (.slice e) => match szOf P e, zeroOf P e with
      | some s, some z => if n * s ≤ 2 ^ 24 ∧ z.length = s ∧ n ≤ maxLen then (cparts (fun i => some (i * s, s)) ps.toList).map (.bslice s n (List.replicate n z).flatten) else none
      | _, _ => none
    | _ => none
  | .load t x => match aggOf P t, szOf P t, cox x with | some b, some n, some x => some (.load b n x) | _, _, _ => none
  | .store t a v => match szOf P t, cox a, cox v with | some n, some a, some v => some (.store n a v) | _, _, _ => none
  | .nilCheck x => (cox x).map .nchk
  | .binOp op t x y _ => match cox x, cox y with
    | some x, some y =>
      if op = .eql ∨ op = .neq then
        match P.underlying t with
        | some (.int _) => some (.bin op x y)
        | some .string => some (.bin op x y)
        | some .bool => some (.eqb (op == .neq) x y)
        | some (.pointer _) => some (.eqp (op == .neq) false x y)
        | some (.func _ _ _) => some (.eqp (op == .neq) true x y)
        | some (.struct fs) => if !P.stoodInHeld t && !P.eqGuardType P.depth t then (leaves P fs.toList 0).map fun ks => .eqs (op == .neq) ks x y else none
        | _ => none
      else some (.bin op x y)
    | _, _ => none
  | .unOp op _ x => (cox x).map (.un op)
  | .convert s d x => match P.underlying s, P.underlying d with
    | some _, some (.int k) => (cox x).map (.conv k)
    | _, _ => none
  | .fieldAddr s x i => match P.underlying s, cox x with
    | some (.struct fs), some x => (fs[i]?).bind fun f => (szOf P f.type).bind fun n => if n = 0 then none else some (.faddr f.offset x)
    | _, _ => none
  | .field s x i => match P.underlying s, cox x with
    | some (.struct fs), some x => (fs[i]?).bind fun f => (szOf P f.type).bind fun n => (aggOf P f.type).map fun b => .fld b f.offset n x
    | _, _ => none
  | .indexAddr t x i => match P.underlying t, cox x, cox i with
    | some (.array n e), some x, some i => (szOf P e).map fun s => .iaddrA n s x i
    | some (.slice e), some x, some i => (szOf P e).map fun s => .iaddrS s x i
    | _, _, _ => none
  | .index t x i => match P.underlying t, cox x, cox i with
    | some (.array n e), some x, some i => (szOf P e).bind fun s => (aggOf P e).map fun b => .idx b n s x i
    | _, _, _ => none
  | .slice t x lo hi mx => match cox x, coxO lo, coxO hi, coxO mx with
    | some x, some lo, some hi, some mx => match P.underlying t, mx with
      | some (.slice e), mx => if mx.isSome && hi.isNone then none else (szOf P e).map fun s => .slS s x lo hi mx
      | some (.array n e), none => (szOf P e).map fun s => .slA n s x lo hi
      | _, _ => none
    | _, _, _, _ => none
  | .makeFunc (.func f) fs cs => match fs.toList.mapM cox, cs.toList.mapM cox with | some fs, some cs => some (.mkfn f fs cs) | _, _ => none
  | .makeSlice t l c => match P.underlying t, cox l, cox c with
    | some (.slice e), some l, some c => match szOf P e, bytesOf P e, zeroOf P e with
      | some s, some b, some z => if z.length = s then some (.mks s b z l c) else none
      | _, _, _ => none
    | _, _, _ => none
  | .extract x i => (cox x).map fun x => .ext x i
  | .call c => match c.callee with
    | .value f => match cox f, c.args.toList.mapM cox with | some f, some l => some (.call f l) | _, _ => none
    | .builtin b => match b, c.args.toList.mapM cox, c.argTypes.toList with
      | .append, some [s, x], [t, u] => match P.underlying t, P.underlying u with
        | some (.slice e), some (.slice _) => match szOf P e, bytesOf P e with | some n, some b => if 0 < n ∧ t = u ∧ (zeroOf P e).map List.length = some n then some (.append n b s x) else none | _, _ => none
        | _, _ => none
      | .len, some [x], [t] => match P.underlying t with | some (.slice _) => some (.len x) | _ => none
      | .clear, some [x], [t] => match P.underlying t with
        | some (.slice e) => match szOf P e, zeroOf P e with | some n, some z => if z.length = n ∧ 0 < n then some (.clear z x) else none | _, _ => none
        | _ => none
      | .min, some (x :: l), _ => some (.minmax false x l)
      | .max, some (x :: l), _ => some (.minmax true x l)
      | _, _, _ => none
    | _ => none
  | _ => none
/-- A region's operations; a guard is turned into the slot of the operation that is waited for. -/
def coper (P : Program) (ops : Array Oper) (o : Oper) : Option AOper :=
  match cop P o.op with
  | none => none
  | some a => match o.guard with
    | none => some { dst := o.dst, op := a }
    | some (j, b) => ((ops[j]?).bind (·.dst)).map fun t => { dst := o.dst, op := a, guard := some (t, b) }
def coops (P : Program) (ops : Array Oper) : Option (List AOper) := ops.toList.mapM (coper P ops)
def preds (o : Oper) : List Nat := (o.after.toList.filter (Region.binds .any)).map (·.on)
def ccode (P : Program) : Code → Option ACode
  | .skip => some .skip
  | .region _ ops false => (coops P ops).map .reg
  | .region _ ops true => (coops P ops).map fun l => .regD l (ops.toList.map preds)
  | .seq a b => match ccode P a, ccode P b with | some a, some b => some (.seq a b) | _, _ => none
  | .cond c a b => match cox c, ccode P a, ccode P b with | some c, some a, some b => some (.cond c a b) | _, _, _ => none
  | .block i c => (ccode P c).map (.block i)
  | .loop c => (ccode P c).map .loop
  | .rangeFunc f ps a b => match cox f, ccode P a, ccode P b with | some f, some a, some b => some (.rangeF f ps.toList a b) | _, _, _ => none
  | .exit i => some (.exit i)
  | .ret => some .ret
  | _ => none

/-- What an object of the store stands for. -/
def ObjR (P : Program) (c : Cx) (p : Nat × Nat) : AObj → Prop
  | .cells cs => ∃ a T, c.w.heap[p.1]? = some (.cells a T (0, 0)) ∧ RC1 (RR c) cs fun j => a[p.2 + j]?
  | .loop st pend fr ps assign body => ∃ fn tmps qs dn ca cb, c.w.heap[p.1]? = some (.loop { state := st, pending := pend, fn, tmps, params := qs, assign := ca, body := cb, defers := dn }) ∧ FR c fr tmps ∧ qs.toList = ps ∧ ccode P ca = some assign ∧ ccode P cb = some body
  | .maps es => ∃ (a : Array MapEntry) (clock : Nat), c.w.heap[p.1]? = some (.map a clock) ∧ a.size = es.length ∧ ∀ (j : Nat) (kv : AV × AV), es[j]? = some kv → ∃ m : MapEntry, a[j]? = some m ∧ RR c kv.1 m.key ∧ RR c kv.2 m.val
structure Rel (P : Program) (c : Cx) : Prop where
  used : ∀ id o, c.at_ id = some o → c.U id
  inj : ∀ id id' o o', c.at_ id = some o → c.at_ id' = some o' → (c.mu id).1 = (c.mu id').1 → id = id'
  obj : ∀ id o, c.at_ id = some o → ObjR P c (c.mu id) o
  many : ∃ N, ∀ id, c.U id → id < N
  nohid : ∀ id o, c.at_ id = some o → ¬ c.hid (c.mu id).1
  hidlt : ∀ b, c.hid b → b < c.w.heap.size
theorem ObjR.lt {P : Program} {c : Cx} {p : Nat × Nat} {o : AObj} (h : ObjR P c p o) : p.1 < c.w.heap.size := by
  rcases Nat.lt_or_ge p.1 c.w.heap.size with hlt | hge
  · exact hlt
  · have hn := Array.getElem?_eq_none hge
    cases o with
    | cells cs => obtain ⟨a, T, h1, _⟩ := h; rw [hn] at h1; cases h1
    | loop => obtain ⟨_, _, _, _, _, _, h1, _⟩ := h; rw [hn] at h1; cases h1
    | maps es => obtain ⟨a, T, h1, _⟩ := h; rw [hn] at h1; cases h1
theorem ObjR.ext {P : Program} {c c' : Cx} {p : Nat × Nat} {o : AObj} (e : Ext c c') (hb : c'.w.heap[p.1]? = c.w.heap[p.1]?) (h : ObjR P c p o) : ObjR P c' p o := by
  cases o with
  | cells cs => obtain ⟨a, T, h1, h2⟩ := h; exact ⟨a, T, hb.trans h1, RC1.ext e h2⟩
  | loop => obtain ⟨fn, tmps, qs, dn, ca, cb, h1, h2, h3⟩ := h; exact ⟨fn, tmps, qs, dn, ca, cb, hb.trans h1, h2.ext e, h3⟩
  | maps es => obtain ⟨a, k, h1, h2, h3⟩ := h; exact ⟨a, k, hb.trans h1, h2, fun j kv hj => let ⟨m, h4, h5, h6⟩ := h3 j kv hj; ⟨m, h4, h5.ext e, h6.ext e⟩⟩

/-- What the program's tables hold. -/
abbrev Gl := Nat → Option (List AV)
def RelG (G : Gl) (c : Cx) : Prop := ∀ n cs, G n = some cs → RR c (.iptr cs) (.pointer (some ⟨n, 0, none⟩))
theorem RelG.ext {G : Gl} {c c' : Cx} (e : Ext c c') (h : RelG G c) : RelG G c' := fun n cs hn => (h n cs hn).ext e

def ax (G : Gl) (fr : List AV) : AX → Option AV
  | .t n => fr[n]?
  | .k v => some v
  | .g n => (G n).map .iptr
theorem mapM_some {α β : Type} {f : α → Option β} : ∀ {l : List α} {r : List β}, l.mapM f = some r → r.length = l.length ∧ ∀ (j : Nat) y, r[j]? = some y → ∃ x, l[j]? = some x ∧ f x = some y
  | [], r, h => by simp at h; subst h; exact ⟨rfl, fun j y hy => by simp at hy⟩
  | x :: l, r, h => by
    simp only [List.mapM_cons, Option.bind_eq_bind, Option.bind_eq_some_iff] at h
    obtain ⟨y, hy, ys, hys, h2⟩ := h
    cases h2
    obtain ⟨h3, h4⟩ := mapM_some hys
    refine ⟨by simp [h3], fun j z hz => ?_⟩
    cases j with
    | zero => simp at hz; subst hz; exact ⟨x, rfl, hy⟩
    | succ j => obtain ⟨u, hu, hfu⟩ := h4 j z (by simpa using hz); exact ⟨u, by simpa using hu, hfu⟩
theorem ofL_rr {c : Cx} {v : Value} {x : AV} (h : ofL v = some x) : RR c x v := by
  unfold ofL at h
  split at h <;> first
    | (simp only [Option.some.injEq] at h; subst h; simp; done)
    | (split at h
       · rename_i hs
         simp only [Option.some.injEq] at h
         subst h
         exact RR_fn.2 ⟨_, _, rfl, ⟨hs.1, fun j x hx => by simp at hx⟩, hs.2, fun j x hx => by simp at hx⟩
       · cases h)
    | (exact absurd h (by simp))
theorem ofL_one {v : Value} {x : AV} (h : ofL v = some x) : One v := by
  unfold ofL at h
  split at h <;> first
    | (cases h; done)
    | exact ⟨fun _ e => (by cases e), fun _ e => (by cases e)⟩
theorem ofV_rr {c : Cx} : ∀ {d : Nat} {v : Value} {x : AV}, ofV d v = some x → RR c x v := by
  intro d
  cases d with
  | zero => intro v x h; exact ofL_rr h
  | succ d =>
    intro v x h
    cases v with
    | agg vs =>
      simp only [ofV, Option.map_eq_some_iff] at h
      obtain ⟨r, hr, rfl⟩ := h
      obtain ⟨h1, h2⟩ := mapM_some hr
      refine RR_agg.2 ⟨_, rfl, by simpa using h1.symm, fun j y hy => ?_⟩
      obtain ⟨u, hu, hfu⟩ := h2 j y hy
      exact ⟨u, by simpa using hu, ofL_rr hfu, ofL_one hfu⟩
    | _ => exact ofL_rr h
theorem cox_rr {G : Gl} {c : Cx} {fr : List AV} {a : Act} {o : Operand} {x : AX} {v : AV} (hF : FR c fr a.tmps) (hG : RelG G c) (h : cox o = some x) (hv : ax G fr x = some v) : RR c v (a.eval o) := by
  cases o with
  | tmp t =>
    cases h
    obtain ⟨u, hu, hr⟩ := hF.2 t v hv
    have hu' : a.tmps[t]? = some u := hu
    simp only [Act.eval, Array.getD_eq_getD_getElem?, hu', Option.getD_some]
    exact hr
  | const w =>
    simp only [cox, Option.map_eq_some_iff] at h
    obtain ⟨y, hy, rfl⟩ := h
    cases hv
    exact ofV_rr hy
  | global g =>
    cases h
    simp only [ax, Option.map_eq_some_iff] at hv
    obtain ⟨cs, hcs, rfl⟩ := hv
    exact hG g cs hcs
  | func f =>
    cases h
    cases hv
    exact RR_fn.2 ⟨_, _, rfl, ⟨rfl, fun j x hx => by simp at hx⟩, rfl, fun j x hx => by simp at hx⟩
end Go.Am
