/-
  What is only read may be taken for a value: named blocks become values, for a while or for good. No program in sight.
-/
import Derived.Test.YtnddcnnangjgeaaAmDSim
set_option linter.unusedSimpArgs false
set_option linter.unusedVariables false
namespace Go.Am
/-- Does a value name no block? -/
def plainB : Nat → AV → Bool
  | _, .undef => true
  | _, .int _ _ => true
  | _, .bool _ => true
  | _, .str _ => true
  | _, .nilp => true
  | _, .nilf => true
  | _, .nils => true
  | d + 1, .iptr cs => cs.all (plainB d)
  | d + 1, .isl els => els.all fun e => e.all (plainB d)
  | d + 1, .agg cs => cs.all (plainB d)
  | d + 1, .tup cs => cs.all (plainB d)
  | d + 1, .fn _ fs cs => fs.all (plainB d) && cs.all (plainB d)
  | _, _ => false
theorem plainB_plain : ∀ (d : Nat) (x : AV), plainB d x = true → Plain x
  | d, .undef, _ => plain_undef
  | d, .int _ _, _ => plain_int
  | d, .bool _, _ => plain_bool
  | d, .str _, _ => plain_str
  | d, .nilp, _ => plain_nilp
  | d, .nilf, _ => plain_nilf
  | d, .nils, _ => plain_nils
  | d + 1, .iptr cs, h => plain_iptr fun x hx => plainB_plain d x (by simp only [plainB, List.all_eq_true] at h; exact h x hx)
  | d + 1, .isl els, h => plain_isl fun e he x hx => plainB_plain d x (by simp only [plainB, List.all_eq_true] at h; exact h e he x hx)
  | d + 1, .agg cs, h => plain_agg fun x hx => plainB_plain d x (by simp only [plainB, List.all_eq_true] at h; exact h x hx)
  | d + 1, .tup cs, h => plain_tup fun x hx => plainB_plain d x (by simp only [plainB, List.all_eq_true] at h; exact h x hx)
  | d + 1, .fn f fs cs, h => by
    simp only [plainB, Bool.and_eq_true, List.all_eq_true] at h
    exact plain_fn (fun x hx => plainB_plain d x (h.1 x hx)) fun x hx => plainB_plain d x (h.2 x hx)
  | d, .ptr _ _, h => by cases d <;> cases h
  | d, .sl _ _ _ _ _, h => by cases d <;> cases h
  | d, .yld _, h => by cases d <;> cases h
  | d, .mapr _, h => by cases d <;> cases h
  | 0, .iptr _, h => by cases h
  | 0, .isl _, h => by cases h
  | 0, .agg _, h => by cases h
  | 0, .tup _, h => by cases h
  | 0, .fn _ _ _, h => by cases h
def chunks (sz : Nat) : Nat → List AV → List (List AV)
  | 0, _ => []
  | n + 1, l => l.take sz :: chunks sz n (l.drop sz)
theorem chunks_length {sz : Nat} : ∀ {n : Nat} {l : List AV}, (chunks sz n l).length = n
  | 0, _ => rfl
  | n + 1, l => by simp [chunks, chunks_length]
theorem chunks_get {sz : Nat} : ∀ {n : Nat} {l : List AV} {k : Nat} {el : List AV}, (chunks sz n l)[k]? = some el → el = (l.drop (k * sz)).take sz ∧ k < n
  | 0, _, _, _, h => by simp [chunks] at h
  | n + 1, l, 0, el, h => by simp [chunks] at h; subst h; simp
  | n + 1, l, k + 1, el, h => by
    simp only [chunks, List.getElem?_cons_succ] at h
    obtain ⟨h1, h2⟩ := chunks_get h
    refine ⟨?_, by omega⟩
    rw [h1, List.drop_drop, Nat.succ_mul, Nat.add_comm]
def frzL (f : AV → Option (AV × List Nat)) : List AV → Option (List AV × List Nat)
  | [] => some ([], [])
  | x :: r => match f x, frzL f r with
    | some (y, a), some (l, b) => some (y :: l, a ++ b)
    | _, _ => none
/-- A value without names, for one with names: what the blocks hold stands in it. -/
def frzV : Nat → At → AV → Option (AV × List Nat)
  | d + 1, at_, .ptr i o => match cellsAt at_ i with
    | some cs => match frzL (frzV d at_) (cs.drop o) with
      | some (l, r) => some (.iptr l, i :: r)
      | none => none
    | none => none
  | d + 1, at_, .sl i off len _ sz => match cellsAt at_ i with
    | some cs => if off + len * sz ≤ cs.length then match frzL (frzV d at_) ((cs.drop off).take (len * sz)) with
      | some (l, r) => some (.isl (chunks sz len l), i :: r)
      | none => none
      else none
    | none => none
  | d + 1, at_, .agg cs => match frzL (frzV d at_) cs with
    | some (l, r) => some (.agg l, r)
    | none => none
  | d + 1, at_, .tup cs => match frzL (frzV d at_) cs with
    | some (l, r) => some (.tup l, r)
    | none => none
  | d + 1, at_, .fn f fs cs => match frzL (frzV d at_) fs, frzL (frzV d at_) cs with
    | some (l, r), some (l', r') => some (.fn f l l', r ++ r')
    | _, _ => none
  | d, _, x => if plainB d x then some (x, []) else none
theorem frzL_spec {f : AV → Option (AV × List Nat)} : ∀ {xs ys : List AV} {r : List Nat}, frzL f xs = some (ys, r) → ys.length = xs.length ∧ ∀ (j : Nat) y, ys[j]? = some y → ∃ x a, xs[j]? = some x ∧ f x = some (y, a) ∧ ∀ i ∈ a, i ∈ r
  | [], ys, r, h => by cases h; exact ⟨rfl, fun j y hy => by simp at hy⟩
  | x :: xs, ys, r, h => by
    simp only [frzL] at h
    split at h
    · rename_i y a l b h1 h2
      cases h
      obtain ⟨k1, k2⟩ := frzL_spec h2
      refine ⟨by simp [k1], fun j z hz => ?_⟩
      cases j with
      | zero => simp at hz; subst hz; exact ⟨x, a, rfl, h1, fun i hi => List.mem_append_left _ hi⟩
      | succ j =>
        obtain ⟨x', a', q1, q2, q3⟩ := k2 j z (by simpa using hz)
        exact ⟨x', a', by simpa using q1, q2, fun i hi => List.mem_append_right _ (q3 i hi)⟩
    · cases h
section
variable {P : Program} {G : Gl}
/-- One context gives way to another, in which some blocks are not written any more. -/
structure Frz (c c' : Cx) (rd : List Nat) (at_ : At) : Prop where
  w : c'.w = c.w
  froz : ∀ b, c.Froz b → c'.Froz b
  nm : ∀ i ∈ rd, ∀ o, c.at_ i = some o → c'.Froz (c.mu i).1
  at_ : ∀ i ∈ rd, c.at_ i = at_ i
theorem Plain.frz {c c' : Cx} {rd : List Nat} {at_ : At} (hf : Frz c c' rd at_) {x : AV} {v : Value} (hp : Plain x) (h : RR c x v) : RR c' x v := hp c c' v (fun b hb => ⟨hf.froz b hb, fun o u hu => by rw [hf.w]; exact hu⟩) h
theorem frz_sound {c c' : Cx} {rd : List Nat} {at_ : At} (hf : Frz c c' rd at_) (hR : Rel P c) : ∀ (d : Nat) (x : AV) (y : AV) (r : List Nat), frzV d at_ x = some (y, r) → (∀ i ∈ r, i ∈ rd) → (∀ v, RR c x v → RR c' y v) ∧ Plain y := by
  intro d
  induction d with
  | zero =>
    intro x y r h hr
    have : plainB 0 x = true ∧ y = x := by
      cases x <;> simp only [frzV] at h <;> split at h <;> first | (cases h; exact ⟨by assumption, rfl⟩) | cases h
    obtain ⟨h1, rfl⟩ := this
    exact ⟨fun v hv => (plainB_plain 0 y h1).frz hf hv, plainB_plain 0 y h1⟩
  | succ d ih =>
    intro x y r h hr
    have base : ∀ {z : AV}, (if plainB (d + 1) z = true then some (z, ([] : List Nat)) else none) = some (y, r) → (∀ v, RR c z v → RR c' y v) ∧ Plain y := fun {z} hz => by
      split at hz
      · rename_i hp; cases hz; exact ⟨fun v hv => (plainB_plain _ _ hp).frz hf hv, plainB_plain _ _ hp⟩
      · cases hz
    have lst : ∀ {xs ys : List AV} {r' : List Nat}, frzL (frzV d at_) xs = some (ys, r') → (∀ i ∈ r', i ∈ rd) → (∀ look, RCs (RR c) xs look → RCs (RR c') ys look) ∧ (∀ look, RC1 (RR c) xs look → RC1 (RR c') ys look) ∧ (∀ y ∈ ys, Plain y) ∧ ys.length = xs.length := fun {xs ys r'} hl hr' => by
      obtain ⟨k1, k2⟩ := frzL_spec hl
      refine ⟨fun look hlk j z hz => ?_, fun look hlk j z hz => ?_, fun z hz => ?_, k1⟩
      · obtain ⟨x', a, q1, q2, q3⟩ := k2 j z hz
        obtain ⟨u, hu, hxu⟩ := hlk j x' q1
        exact ⟨u, hu, (ih _ _ _ q2 fun i hi => hr' i (q3 i hi)).1 u hxu⟩
      · obtain ⟨x', a, q1, q2, q3⟩ := k2 j z hz
        obtain ⟨u, hu, hxu, h1⟩ := hlk j x' q1
        exact ⟨u, hu, (ih _ _ _ q2 fun i hi => hr' i (q3 i hi)).1 u hxu, h1⟩
      · obtain ⟨j, hj⟩ := List.mem_iff_getElem?.1 hz
        obtain ⟨x', a, q1, q2, q3⟩ := k2 j z hj
        exact (ih _ _ _ q2 fun i hi => hr' i (q3 i hi)).2
    cases x with
    | ptr i o =>
      simp only [frzV] at h
      split at h
      · rename_i cs hcs
        split at h
        · rename_i l r' hl
          cases h
          have hi : i ∈ rd := hr i (List.mem_cons_self ..)
          obtain ⟨_, k2, k3, _⟩ := lst hl fun j hj => hr j (List.mem_cons_of_mem _ hj)
          have hci : cellsAt c.at_ i = some cs := by unfold cellsAt at hcs ⊢; rw [hf.at_ i hi]; exact hcs
          refine ⟨fun v hv => ?_, plain_iptr k3⟩
          obtain ⟨_, rfl⟩ := RR_ptr.1 hv
          obtain ⟨ar, T, h1, h2⟩ := hR.obj i _ (cellsAt_some hci)
          refine RR_iptr.2 ⟨_, _, rfl, hf.nm i hi _ (cellsAt_some hci), ?_⟩
          rw [hf.w]
          refine k2 _ fun j x hx => ?_
          obtain ⟨u, hu, hxu⟩ := h2 (o + j) x (by rw [← List.getElem?_drop]; exact hx)
          refine ⟨u, ?_, hxu⟩
          show c.w.cell? _ = _
          rw [cell_of h1, show (c.mu i).2 + o + j = (c.mu i).2 + (o + j) by omega]
          exact hu
        · cases h
      · cases h
    | sl i off len cp sz =>
      simp only [frzV] at h
      split at h
      · rename_i cs hcs
        split at h
        · rename_i hlen
          split at h
          · rename_i l r' hl
            cases h
            have hi : i ∈ rd := hr i (List.mem_cons_self ..)
            obtain ⟨_, k2, k3, k4⟩ := lst hl fun j hj => hr j (List.mem_cons_of_mem _ hj)
            have hci : cellsAt c.at_ i = some cs := by unfold cellsAt at hcs ⊢; rw [hf.at_ i hi]; exact hcs
            refine ⟨fun v hv => ?_, plain_isl fun e he x hx => ?_⟩
            · obtain ⟨_, hlt, cap, rfl, g1, g2, g3, g4⟩ := RR_sl.1 hv
              obtain ⟨ar, T, h1, h2⟩ := hR.obj i _ (cellsAt_some hci)
              refine RR_isl.2 ⟨_, cap, by rw [chunks_length], by rw [chunks_length]; omega, g3, fun _ => ⟨_, _, sz, rfl, hf.nm i hi _ (cellsAt_some hci), fun k el hk => ?_⟩⟩
              obtain ⟨rfl, hkl⟩ := chunks_get hk
              have hsz : k * sz + sz ≤ len * sz := by
                have := Nat.mul_le_mul_right sz (show k + 1 ≤ len by omega)
                rw [Nat.succ_mul] at this; omega
              have hll : l.length = len * sz := by rw [k4]; simp only [List.length_take, List.length_drop]; omega
              refine ⟨by simp only [List.length_take, List.length_drop]; omega, ?_⟩
              rw [hf.w]
              have key : RC1 (RR c') l fun j => c.w.cell? ⟨(c.mu i).1, (c.mu i).2 + off + j, none⟩ := by
                refine k2 _ fun j x hx => ?_
                have hx' : cs[off + j]? = some x := by
                  rw [List.getElem?_take] at hx
                  split at hx
                  · rw [List.getElem?_drop] at hx; exact hx
                  · cases hx
                obtain ⟨u, hu, hxu⟩ := h2 _ x hx'
                refine ⟨u, ?_, hxu⟩
                show c.w.cell? _ = _
                rw [cell_of h1, show (c.mu i).2 + off + j = (c.mu i).2 + (off + j) by omega]; exact hu
              intro j x hx
              have hx' : l[k * sz + j]? = some x := by
                rw [List.getElem?_take] at hx
                split at hx
                · rw [List.getElem?_drop] at hx; exact hx
                · cases hx
              obtain ⟨u, hu, hxu⟩ := key _ x hx'
              exact ⟨u, by show c.w.cell? _ = _; rw [show (c.mu i).2 + off + k * sz + j = (c.mu i).2 + off + (k * sz + j) by omega]; exact hu, hxu⟩
            · obtain ⟨k, hk⟩ := List.mem_iff_getElem?.1 he
              obtain ⟨rfl, _⟩ := chunks_get hk
              exact k3 x (List.mem_of_mem_drop (List.mem_of_mem_take hx))
          · cases h
        · cases h
      · cases h
    | agg cs =>
      simp only [frzV] at h
      split at h
      · rename_i l r' hl
        cases h
        obtain ⟨k1, k2, k3, k4⟩ := lst hl hr
        refine ⟨fun v hv => ?_, plain_agg k3⟩
        obtain ⟨vs, rfl, h1, h2⟩ := RR_agg.1 hv
        exact RR_agg.2 ⟨vs, rfl, by rw [h1, k4], k2 _ h2⟩
      · cases h
    | tup cs =>
      simp only [frzV] at h
      split at h
      · rename_i l r' hl
        cases h
        obtain ⟨k1, k2, k3, k4⟩ := lst hl hr
        refine ⟨fun v hv => ?_, plain_tup k3⟩
        obtain ⟨vs, rfl, h1, h2⟩ := RR_tup.1 hv
        exact RR_tup.2 ⟨vs, rfl, by rw [h1, k4], k1 _ h2⟩
      · cases h
    | fn f fs cs =>
      simp only [frzV] at h
      split at h
      · rename_i l r1 l' r2 hl1 hl2
        cases h
        obtain ⟨k1, _, k3, k4⟩ := lst hl1 fun i hi => hr i (List.mem_append_left _ hi)
        obtain ⟨q1, _, q3, q4⟩ := lst hl2 fun i hi => hr i (List.mem_append_right _ hi)
        refine ⟨fun v hv => ?_, plain_fn k3 q3⟩
        obtain ⟨vf, vc, rfl, ⟨h1, h2⟩, h3, h4⟩ := RR_fn.1 hv
        exact RR_fn.2 ⟨vf, vc, rfl, ⟨by rw [h1, k4], k1 _ h2⟩, by rw [h3, q4], q1 _ h4⟩
      · cases h
    | _ => simp only [frzV] at h; exact base h
/-- A value that leads to no memory at all. -/
def Scal (x : AV) : Prop := ∀ (c c' : Cx) (v : Value), RR c x v → RR c' x v
def scalB : Nat → AV → Bool
  | _, .undef => true
  | _, .int _ _ => true
  | _, .bool _ => true
  | _, .str _ => true
  | _, .nilp => true
  | _, .nilf => true
  | _, .nils => true
  | _, .isl [] => true
  | d + 1, .agg cs => cs.all (scalB d)
  | d + 1, .tup cs => cs.all (scalB d)
  | _, _ => false
theorem scal_agg {cs : List AV} (h : ∀ x ∈ cs, Scal x) : Scal (.agg cs) := fun c c' v hr => by
  obtain ⟨vs, h1, h2, h3⟩ := RR_agg.1 hr
  refine RR_agg.2 ⟨vs, h1, h2, fun j x hx => ?_⟩
  obtain ⟨u, hu, hxu, h4⟩ := h3 j x hx
  exact ⟨u, hu, h x (List.mem_of_getElem? hx) c c' u hxu, h4⟩
theorem scal_tup {cs : List AV} (h : ∀ x ∈ cs, Scal x) : Scal (.tup cs) := fun c c' v hr => by
  obtain ⟨vs, h1, h2, h3⟩ := RR_tup.1 hr
  refine RR_tup.2 ⟨vs, h1, h2, fun j x hx => ?_⟩
  obtain ⟨u, hu, hxu⟩ := h3 j x hx
  exact ⟨u, hu, h x (List.mem_of_getElem? hx) c c' u hxu⟩
theorem scal_undef : Scal .undef := fun _ _ _ _ => RR_undef
theorem scal_int {k : IntKind} {n : Int} : Scal (.int k n) := fun _ _ _ h => RR_int.2 (RR_int.1 h)
theorem scal_bool {b : Bool} : Scal (.bool b) := fun _ _ _ h => RR_bool.2 (RR_bool.1 h)
theorem scal_str {b : ByteArray} : Scal (.str b) := fun _ _ _ h => RR_str.2 (RR_str.1 h)
theorem scal_nilp : Scal .nilp := fun _ _ _ h => RR_nilp.2 (RR_nilp.1 h)
theorem scal_nilf : Scal .nilf := fun _ _ _ h => RR_nilf.2 (RR_nilf.1 h)
theorem scal_nils : Scal .nils := fun _ _ _ h => RR_nils.2 (RR_nils.1 h)
theorem scal_nil : Scal (.isl []) := fun _ _ _ h => by
  obtain ⟨A, cap, h1, h2, h3, _⟩ := RR_isl.1 h
  exact RR_isl.2 ⟨A, cap, h1, h2, h3, fun h => absurd rfl h⟩
theorem scalB_scal : ∀ (d : Nat) (x : AV), scalB d x = true → Scal x
  | d, .undef, _ => scal_undef
  | d, .int _ _, _ => scal_int
  | d, .bool _, _ => scal_bool
  | d, .str _, _ => scal_str
  | d, .nilp, _ => scal_nilp
  | d, .nilf, _ => scal_nilf
  | d, .nils, _ => scal_nils
  | d, .isl [], _ => scal_nil
  | d + 1, .agg cs, h => scal_agg fun x hx => scalB_scal d x (by simp only [scalB, List.all_eq_true] at h; exact h x hx)
  | d + 1, .tup cs, h => scal_tup fun x hx => scalB_scal d x (by simp only [scalB, List.all_eq_true] at h; exact h x hx)
  | d, .ptr _ _, h => by cases d <;> cases h
  | d, .sl _ _ _ _ _, h => by cases d <;> cases h
  | d, .yld _, h => by cases d <;> cases h
  | d, .mapr _, h => by cases d <;> cases h
  | d, .iptr _, h => by cases d <;> cases h
  | d, .isl (_ :: _), h => by cases d <;> cases h
  | d, .fn _ _ _, h => by cases d <;> cases h
  | 0, .agg _, h => by cases h
  | 0, .tup _, h => by cases h
theorem fnU_frzC {g : Nat} {args args' : List AV} {rd : List Nat} {at_ : At} {id : Nat} {r : AV} {d : Nat} (hp : PureC P G g args' r) (hG : PlainG G) (ha : frzL (frzV d at_) args = some (args', rd))
    (hr : ∀ (c c2 : Cx), ((∀ b, c.hid b → c2.hid b) ∧ ∀ b i o, c.at_ i = some o → i ∉ rd → (c.mu i).1 = b → c2.hid b) → ∀ v, RR c2 r v → RR { c with w := c2.w } r v) : FnU P G g args rd at_ r [] id := by
  refine ⟨(hp at_ id).1, fun c vs hR hg hid hat hargs => ?_⟩
  let cb : Cx := { U := fun _ => False, at_ := fun _ => none, mu := c.mu, w := c.w, hid := fun b => c.hid b ∨ ∃ id o, c.at_ id = some o ∧ id ∉ rd ∧ (c.mu id).1 = b }
  have hf : Frz c cb rd at_ := by
    refine ⟨rfl, fun b hb => ⟨hb.1, fun _ _ h => (by cases h), fun hh => hh.elim hb.3 fun ⟨i, o, ho, _, e⟩ => hb.2 i o ho e⟩, fun i hi o ho => ⟨(hR.obj i o ho).lt, fun _ _ h => (by cases h), fun hh => hh.elim (hR.nohid i o ho) fun ⟨j, o', hj, hn, e⟩ => hn (hR.inj j i _ _ hj ho e ▸ hi)⟩, hat⟩
  have hRb : Rel P cb := ⟨fun _ _ h => (by cases h), fun _ _ _ _ h => (by cases h), fun _ _ h => (by cases h), ⟨0, fun _ h => h.elim⟩, fun _ _ h => (by cases h), fun b hb => hb.elim (hR.hidlt b) fun ⟨i, o, ho, _, e⟩ => e ▸ (hR.obj i o ho).lt⟩
  have hgb : RelG G cb := fun k cs hk => (plain_iptr (hG k cs hk)).frz hf (hg k cs hk)
  obtain ⟨k1, k2⟩ := frzL_spec ha
  have hab : argsR cb args' vs := ⟨by rw [hargs.1, k1], fun j y hy => by
    obtain ⟨x, a, q1, q2, q3⟩ := k2 j y hy
    obtain ⟨u, hu, hxu⟩ := hargs.2 j x q1
    exact ⟨u, hu, (frz_sound hf hR d x y a q2 q3).1 u hxu⟩⟩
  refine ((hp (fun _ => none) 0).2 cb vs hRb hgb (fun h => h) (fun i hi => by cases hi) hab).mono ?_
  rintro e w' ⟨v, c2, rfl, rfl, hrv, hR2, he2, hat2, hU2⟩
  have named : ∀ i o, c.at_ i = some o → c2.w.heap[(c.mu i).1]? = c.w.heap[(c.mu i).1]? := fun i o ho => by
    by_cases hi : i ∈ rd
    · exact (he2.froz _ (hf.nm i hi o ho)).2
    · exact he2.hidh _ (.inr ⟨i, o, ho, hi, rfl⟩)
  have he : Ext c { c with w := c2.w } := ⟨fun _ h => h, fun _ _ => rfl, he2.csz, fun b hb => ⟨⟨Nat.lt_of_lt_of_le hb.1 he2.size, hb.2, hb.3⟩, (he2.froz b (hf.froz b hb)).2⟩, he2.size, fun _ => Iff.rfl, fun b hb => he2.hidh b (.inl hb), he2.env⟩
  refine ⟨v, { c with w := c2.w }, rfl, rfl, ?_, ?_, he, rfl, fun i => by simp [newOf]⟩
  · exact hr c c2 ⟨fun b hb => (he2.hid b).2 (.inl hb), fun b i o ho hi e => (he2.hid b).2 (.inr ⟨i, o, ho, hi, e⟩)⟩ v hrv
  · exact ⟨hR.used, hR.inj, fun i o ho => (hR.obj i o ho).ext he (named i o ho), hR.many, hR.nohid, fun b hb => Nat.lt_of_lt_of_le (hR.hidlt b hb) he2.size⟩
/-- **A pure function, called with what it only reads.** -/
theorem fnU_frz {g : Nat} {args args' : List AV} {rd : List Nat} {at_ : At} {id : Nat} {r : AV} {d : Nat} (hp : PureC P G g args' r) (hG : PlainG G) (ha : frzL (frzV d at_) args = some (args', rd)) (hr : Scal r) : FnU P G g args rd at_ r [] id := by
  exact fnU_frzC hp hG ha (fun c c2 _ v hrv => hr c2 _ v hrv)
/-- The same where nothing is read: the result may lead to memory. -/
theorem fnU_frz0 {g : Nat} {args args' : List AV} {at_ : At} {id : Nat} {r : AV} {d : Nat} (hp : PureC P G g args' r) (hG : PlainG G) (ha : frzL (frzV d at_) args = some (args', [])) (hr : Plain r) : FnU P G g args [] at_ r [] id := by
  refine fnU_frzC hp hG ha fun c c2 hfz v hrv => hr c2 { c with w := c2.w } v (fun b hb => ⟨⟨hb.1, fun i o ho e => ?_, fun hh => hb.3 (hfz.1 b hh)⟩, fun _ _ h => h⟩) hrv
  exact hb.3 (hfz.2 b i o ho (by simp) e)
end
end Go.Am
