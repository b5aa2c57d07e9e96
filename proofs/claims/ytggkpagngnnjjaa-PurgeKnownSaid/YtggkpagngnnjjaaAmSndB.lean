/-
  The abstract machine's operations stand for the model's: memory that is made, read and written. No program in sight.
-/
import Derived.Test.YtggkpagngnnjjaaAmSndA
set_option linter.unusedSimpArgs false
set_option linter.unusedVariables false
namespace Go.Am
theorem over_length : ∀ (vs : List AV) (o : Nat) (cs : List AV), (over cs o vs).length = cs.length
  | [], _, _ => rfl
  | v :: vs, o, cs => by rw [over, over_length vs]; simp
/-- The names and the world after a block was made. -/
def Cx.mk' (c : Cx) (id : Nat) (o : AObj) (ob : Obj) : Cx :=
  { U := fun i => c.U i ∨ i = id, at_ := upd c.at_ [(id, some o)], mu := fun i => if i = id then (c.w.heap.size, 0) else c.mu i, w := c.w.alloc ob, hid := c.hid }
section
variable {P : Program} {c : Cx}
theorem heap_alloc_lt (w : World) (o : Obj) {b : Nat} (h : b < w.heap.size) : (w.alloc o).heap[b]? = w.heap[b]? := by
  show (w.heap.push o)[b]? = _
  simp [Array.getElem?_push, Nat.ne_of_lt h]
theorem heap_alloc_eq (w : World) (o : Obj) : (w.alloc o).heap[w.heap.size]? = some o := by
  show (w.heap.push o)[w.heap.size]? = _
  simp
theorem ext_new {id : Nat} (hR : Rel P c) (hid : ¬ c.U id) (o : AObj) (ob : Obj) : Ext c (c.mk' id o ob) := by
  have hne : ∀ i, c.U i → i ≠ id := fun i hi e => hid (e ▸ hi)
  refine ⟨fun i hi => .inl hi, fun i hi => by simp [Cx.mk', hne i hi], fun b hb => ?_, fun b hb => ?_, by simp [Cx.mk'], fun _ => Iff.rfl, fun b hb => heap_alloc_lt c.w ob (hR.hidlt b hb), rfl, rfl, rfl⟩
  · simp only [csize, Cx.mk', heap_alloc_lt c.w ob hb]
  · refine ⟨⟨by have := hb.1; simp [Cx.mk']; omega, fun i o' hi => ?_, hb.3⟩, heap_alloc_lt c.w ob hb.1⟩
    simp only [Cx.mk', upd] at hi ⊢
    split at hi
    · rename_i e
      have := hb.1
      simp [e]; omega
    · rename_i e
      simp only [e, if_false]
      exact hb.2 i o' hi
theorem rel_new {id : Nat} (hR : Rel P c) (hid : ¬ c.U id) (o : AObj) (ob : Obj) (ho : ObjR P (c.mk' id o ob) (c.w.heap.size, 0) o) : Rel P (c.mk' id o ob) := by
  have hat : ∀ i o', (c.mk' id o ob).at_ i = some o' → (i = id ∧ o' = o ∧ (c.mk' id o ob).mu i = (c.w.heap.size, 0)) ∨ (i ≠ id ∧ c.at_ i = some o' ∧ (c.mk' id o ob).mu i = c.mu i ∧ (c.mu i).1 < c.w.heap.size) := fun i o' hi => by
    simp only [Cx.mk', upd] at hi ⊢
    split at hi
    · rename_i e; cases hi; exact .inl ⟨e, rfl, by simp [e]⟩
    · rename_i e; exact .inr ⟨e, hi, by simp [e], (hR.obj i o' hi).lt⟩
  refine ⟨fun i o' hi => ?_, fun i j o1 o2 hi hj hij => ?_, fun i o' hi => ?_, ?_, fun i o' hi hh => ?_, fun b hb => by have := hR.hidlt b hb; simp [Cx.mk']; omega⟩
  · rcases hat i o' hi with ⟨e, _⟩ | ⟨_, h, _⟩
    · exact .inr e
    · exact .inl (hR.used i o' h)
  · rcases hat i o1 hi with ⟨e1, _, m1⟩ | ⟨n1, h1, m1, l1⟩ <;> rcases hat j o2 hj with ⟨e2, _, m2⟩ | ⟨n2, h2, m2, l2⟩
    · rw [e1, e2]
    · rw [m1, m2] at hij; simp at hij; omega
    · rw [m1, m2] at hij; simp at hij; omega
    · rw [m1, m2] at hij; exact hR.inj i j o1 o2 h1 h2 hij
  · rcases hat i o' hi with ⟨e1, e2, m1⟩ | ⟨n1, h1, m1, l1⟩
    · rw [m1, e2]; exact ho
    · rw [m1]; exact (hR.obj i o' h1).ext (ext_new hR hid o ob) (heap_alloc_lt c.w ob l1)
  · obtain ⟨N, hN⟩ := hR.many
    exact ⟨max N (id + 1), fun i hi => by
      rcases hi with hi | hi
      · have := hN i hi; omega
      · omega⟩
  · rcases hat i o' hi with ⟨_, _, m1⟩ | ⟨_, h1, m1, _⟩
    · rw [m1] at hh; have := hR.hidlt _ hh; simp at this
    · rw [m1] at hh; exact hR.nohid i o' h1 hh
theorem done_new {id : Nat} {r : Result Next} {x : AV} {val : Value} {cs : List AV} {vs : Array Value} {T : TypeId} (hR : Rel P c) (hid : ¬ c.U id) (hs : RC1 (RR c) cs fun j => vs[j]?)
    (hr : r = .ok (.value val) (c.w.alloc (.cells vs T))) (hx : RR (c.mk' id (.cells cs) (.cells vs T)) x val) : Done P c r x [(id, some (.cells cs))] [id] := by
  have he := ext_new hR hid (.cells cs) (.cells vs T)
  refine ⟨_, .inl ⟨val, hr, hx⟩, rel_new hR hid _ _ ⟨vs, T, heap_alloc_eq _ _, (RC1.ext he hs).imp (fun _ _ h => h) fun j u hj => by simpa using hj⟩, he, rfl, fun i => by simp [Cx.mk']⟩
theorem csize_new (w : World) (vs : Array Value) (T : TypeId) : csize (w.alloc (.cells vs T)) w.heap.size = vs.size := by unfold csize; rw [heap_alloc_eq]
theorem rr_ptr_new {id : Nat} {o : AObj} {ob : Obj} : RR (c.mk' id o ob) (.ptr id 0) (.pointer (some ⟨c.w.heap.size, 0, none⟩)) := RR_ptr.2 ⟨.inr rfl, by simp [Cx.mk']⟩
theorem rr_sl_new {id n sz : Nat} {o : AObj} {vs : Array Value} {T : TypeId} {cap : Nat} (h1 : n ≤ cap) (h2 : cap ≤ maxLen) (h3 : cap * sz ≤ vs.size) : RR (c.mk' id o (.cells vs T)) (.sl id 0 n n sz) (.slice (some ⟨c.w.heap.size, 0, none⟩) n cap) :=
  RR_sl.2 ⟨.inr rfl, by simp [Cx.mk'], cap, by simp [Cx.mk'], Nat.le_refl _, h1, h2, by simp [Cx.mk', csize_new]; omega⟩

/-- The world after a name's cells were written. -/
def Cx.wr (c : Cx) (id : Nat) (cs : List AV) (w' : World) : Cx := { U := c.U, at_ := upd c.at_ [(id, some (.cells cs))], mu := c.mu, w := w', hid := c.hid }
theorem ext_wr {id : Nat} {o : AObj} {cs : List AV} {w' : World} (hR : Rel P c) (ho : c.at_ id = some o) (hother : ∀ b, b ≠ (c.mu id).1 → w'.heap[b]? = c.w.heap[b]?) (hcs : csize w' (c.mu id).1 = csize c.w (c.mu id).1) (hsz : w'.heap.size = c.w.heap.size) (henv : w'.os = c.w.os ∧ w'.tape = c.w.tape ∧ w'.output = c.w.output) :
    Ext c (c.wr id cs w') := by
  refine ⟨fun i hi => hi, fun i _ => rfl, fun b hb => ?_, fun b hb => ?_, by simp [Cx.wr, hsz], fun _ => Iff.rfl, fun b hb => hother b fun e => hR.nohid id o ho (e ▸ hb), henv⟩
  · by_cases e : b = (c.mu id).1
    · subst e; exact hcs
    · simp only [csize, Cx.wr, hother b e]
  · have hne : b ≠ (c.mu id).1 := fun e => hb.2 id o ho e.symm
    refine ⟨⟨by simp [Cx.wr, hsz]; exact hb.1, fun i o' hi => ?_, hb.3⟩, hother b hne⟩
    simp only [Cx.wr, upd] at hi ⊢
    split at hi
    · rename_i e; subst e; exact Ne.symm hne
    · exact hb.2 i o' hi
theorem rel_wr {id : Nat} {o : AObj} {cs : List AV} {w' : World} (hR : Rel P c) (ho : c.at_ id = some o) (hother : ∀ b, b ≠ (c.mu id).1 → w'.heap[b]? = c.w.heap[b]?) (hcs : csize w' (c.mu id).1 = csize c.w (c.mu id).1) (hsz : w'.heap.size = c.w.heap.size) (henv : w'.os = c.w.os ∧ w'.tape = c.w.tape ∧ w'.output = c.w.output)
    (hob : ObjR P (c.wr id cs w') (c.mu id) (.cells cs)) : Rel P (c.wr id cs w') := by
  have he := ext_wr (cs := cs) hR ho hother hcs hsz henv
  have hat : ∀ i o', (c.wr id cs w').at_ i = some o' → (i = id ∧ o' = .cells cs) ∨ (i ≠ id ∧ c.at_ i = some o') := fun i o' hi => by
    simp only [Cx.wr, upd] at hi
    split at hi
    · rename_i e; cases hi; exact .inl ⟨e, rfl⟩
    · rename_i e; exact .inr ⟨e, hi⟩
  have hlive : ∀ i o', (c.wr id cs w').at_ i = some o' → ∃ o1, c.at_ i = some o1 := fun i o' hi => by
    rcases hat i o' hi with ⟨e, _⟩ | ⟨_, h⟩
    · exact ⟨o, e ▸ ho⟩
    · exact ⟨o', h⟩
  refine ⟨fun i o' hi => ?_, fun i j o1 o2 hi hj hij => ?_, fun i o' hi => ?_, hR.many, fun i o' hi => (let ⟨o1, h1⟩ := hlive i o' hi; hR.nohid i o1 h1), fun b hb => by have := hR.hidlt b hb; simp [Cx.wr, hsz]; exact this⟩
  · obtain ⟨o1, h1⟩ := hlive i o' hi; exact hR.used i o1 h1
  · obtain ⟨p1, h1⟩ := hlive i o1 hi
    obtain ⟨p2, h2⟩ := hlive j o2 hj
    exact hR.inj i j p1 p2 h1 h2 hij
  · rcases hat i o' hi with ⟨e1, e2⟩ | ⟨n1, h1⟩
    · rw [e1, e2]; exact hob
    · exact (hR.obj i o' h1).ext he (hother _ fun e => n1 (hR.inj i id o' o h1 ho e))

/-- Cells of a block with others written over them. -/
def overA (a : Array Value) : Nat → List Value → Array Value
  | _, [] => a
  | o, v :: vs => overA (a.setIfInBounds o v) (o + 1) vs
theorem overA_size : ∀ (vs : List Value) (o : Nat) (a : Array Value), (overA a o vs).size = a.size
  | [], _, _ => rfl
  | v :: vs, o, a => by rw [overA, overA_size vs]; simp
theorem run_storeCells_row : ∀ (vs : List Value) (b o i : Nat) (w : World) (a : Array Value) (T : TypeId), w.heap[b]? = some (.cells a T (0, 0)) → o + i + vs.length ≤ a.size → (∀ v ∈ vs, One v) →
    ∃ w', (storeCells ⟨b, o, none⟩ vs i).run P w = .ok () w' ∧ w'.heap[b]? = some (.cells (overA a (o + i) vs) T (0, 0)) ∧ (∀ b', b' ≠ b → w'.heap[b']? = w.heap[b']?) ∧ w'.heap.size = w.heap.size ∧ w'.os = w.os ∧ w'.tape = w.tape ∧ w'.output = w.output
  | [], b, o, i, w, a, T, h, _, _ => ⟨w, rfl, h, fun _ _ => rfl, rfl, rfl, rfl, rfl⟩
  | v :: vs, b, o, i, w, a, T, h, hle, h1 => by
    have hadd : (⟨b, o, none⟩ : Addr).add i = ⟨b, o + i, none⟩ := by
      unfold Addr.add
      by_cases e : i = 0
      · simp [e]
      · simp [e]
    simp only [List.length_cons] at hle
    have hc : w.cell? ⟨b, o + i, none⟩ = some a[o + i] := by simp [World.cell?, h, show o + i < a.size by omega]
    have hf : w.frozen? ⟨b, o + i, none⟩ = false := by simp [World.frozen?, h]
    have hset : (w.setCell ⟨b, o + i, none⟩ v).heap[b]? = some (.cells (a.setIfInBounds (o + i) v) T (0, 0)) := by simp [World.setCell, Array.getElem?_modify, h]
    obtain ⟨w', h2, h3, h4, h5, h6⟩ := run_storeCells_row vs b o (i + 1) (w.setCell ⟨b, o + i, none⟩ v) _ T hset (by simp; omega) fun x hx => h1 x (List.mem_cons_of_mem _ hx)
    refine ⟨w', ?_, by rw [overA]; exact h3, fun b' hb' => (h4 b' hb').trans ?_, by rw [h5]; simp, h6⟩
    · have hst : (store ⟨b, o + i, none⟩ v).run P w = .ok () (w.setCell ⟨b, o + i, none⟩ v) := by
        have hone := h1 v (List.mem_cons_self ..)
        cases v <;> first | exact absurd rfl (hone.1 _) | exact absurd rfl (hone.2 _) | simp [store, Sem.run, hc, hf]
      simp only [storeCells, Sem.run_bind, hadd, hst, Result.andThen_ok]
      exact h2
    · simp [World.setCell, Array.getElem?_modify, Ne.symm hb']
theorem overA_rcs {c : Cx} : ∀ (xs : List AV) (vs : List Value) (base o : Nat) (cs : List AV) (a : Array Value), vs.length = xs.length → RC1 (RR c) xs (fun j => vs[j]?) → RC1 (RR c) cs (fun j => a[base + j]?) →
    RC1 (RR c) (over cs o xs) fun j => (overA a (base + o) vs)[base + j]?
  | [], [], base, o, cs, a, _, _, h => h
  | [], _ :: _, _, _, _, _, hl, _, _ => by simp at hl
  | _ :: _, [], _, _, _, _, hl, _, _ => by simp at hl
  | x :: xs, v :: vs, base, o, cs, a, hl, hx, h => by
    rw [over, overA]
    have ih := overA_rcs xs vs base (o + 1) (cs.set o x) (a.setIfInBounds (base + o) v) (by simpa using hl) (fun j y hy => by simpa using hx (j + 1) y (by simpa using hy)) ?_
    · rw [show base + o + 1 = base + (o + 1) by omega]; exact ih
    · intro j y hy
      obtain ⟨v', hv', hxv⟩ := hx 0 x rfl
      simp at hv'
      subst hv'
      rw [List.getElem?_set] at hy
      split at hy
      · rename_i e
        subst e
        split at hy
        · rename_i hlt
          cases hy
          obtain ⟨u, hu, _⟩ := h o cs[o] (List.getElem?_eq_getElem hlt)
          have hu' : a[base + o]? = some u := hu
          refine ⟨v, ?_, hxv⟩
          show (a.setIfInBounds (base + o) v)[base + o]? = some v
          have : base + o < a.size := by
            rcases Nat.lt_or_ge (base + o) a.size with h1 | h1
            · exact h1
            · rw [Array.getElem?_eq_none h1] at hu'; cases hu'
          simp [this]
        · cases hy
      · rename_i hne
        obtain ⟨u, hu, hr⟩ := h j y hy
        refine ⟨u, ?_, hr⟩
        show (a.setIfInBounds (base + o) v)[base + j]? = some u
        rw [Array.getElem?_setIfInBounds_ne (by omega)]
        exact hu
end
end Go.Am
