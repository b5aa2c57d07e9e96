/-
  A call that leaves what it is given as it was, and makes memory of its own: its result becomes a value. No program in sight.
-/
import Derived.Test.YtnddcnnangjgeaaAmFrz
set_option linter.unusedSimpArgs false
set_option linter.unusedVariables false
namespace Go.Am
section
variable {P : Program} {G : Gl}
/-- How a store of the callee stands for blocks of the caller. -/
structure RoIn (p : Nat → Nat → Prop) (g : Nat → Nat) (rd : List Nat) (k : Nat) (at_ : At) (l0 : List (Nat × AObj)) : Prop where
  fn : ∀ i j, p i j → j < k ∧ g j = i ∧ i ∈ rd
  inj : ∀ i j j', p i j → p i j' → j = j'
  obj : ∀ j o, lk l0 j = some o → ∃ i cs ds, p i j ∧ at_ i = some (.cells cs) ∧ o = .cells ds ∧ RnL p cs ds ∧ RnL (fun j i => p i j) ds cs
  all : ∀ i ∈ rd, ∃ j o, p i j ∧ lk l0 j = some o
theorem fnU_ro {f k : Nat} {args args0 : List AV} {l0 : List (Nat × AObj)} {r r2 : AV} {at_ : At} {id : Nat} {rd : List Nat} {p : Nat → Nat → Prop} {g : Nat → Nat} (hc : LocC P G f args0 l0 k fun x h1 => x = r ∧ h1 = ⟨l0, k⟩) (hGp : PlainG G) (hp : RoIn p g rd k at_ l0) (ha : RnL p args args0) (hr : RnV (fun j i => p i j) r r2) : FnU P G f args rd at_ r2 [] id := by
  refine ⟨hc.1, fun c vs hR hG hid hat hargs => ?_⟩
  let c0 : Cx := { U := fun j => j < k, at_ := lk l0, mu := fun j => c.mu (g j), w := c.w, hid := fun b => c.hid b ∨ ∃ id o, c.at_ id = some o ∧ id ∉ rd ∧ (c.mu id).1 = b }
  have spec0 : ∀ j o, lk l0 j = some o → ∃ i cs ds, p i j ∧ c.at_ i = some (.cells cs) ∧ o = .cells ds ∧ RnL p cs ds ∧ RnL (fun j i => p i j) ds cs := fun j o ho => by
    obtain ⟨i, cs, ds, k1, k2, k3⟩ := hp.obj j o ho
    exact ⟨i, cs, ds, k1, by rw [hat i (hp.fn i j k1).2.2]; exact k2, k3⟩
  have hmu0 : ∀ {i j}, p i j → c0.mu j = c.mu i := fun {i j} hij => by show c.mu (g j) = _; rw [(hp.fn i j hij).2.1]
  have sub0 : Sub p c c0 := by
    refine ⟨fun i j hij _ => ⟨(hp.fn i j hij).1, hmu0 hij⟩, rfl, fun b hb => ⟨hb.1, fun j o ho => ?_, fun hh => hh.elim hb.3 fun ⟨i, o, ho, _, e⟩ => hb.2 i o ho e⟩⟩
    obtain ⟨i, cs, ds, k1, k2, _⟩ := spec0 j o ho
    rw [hmu0 k1]; exact hb.2 i _ k2
  have hR0 : Rel P c0 := by
    refine ⟨fun j o ho => ?_, fun j j' o o' ho ho' e => ?_, fun j o ho => ?_, ⟨k, fun i hi => hi⟩, fun j o ho hh => ?_, fun b hb => hb.elim (hR.hidlt b) fun ⟨i, o, ho, _, e⟩ => e ▸ (hR.obj i o ho).lt⟩
    · obtain ⟨i, cs, ds, k1, _⟩ := spec0 j o ho; exact (hp.fn i j k1).1
    · obtain ⟨i, cs, ds, k1, k2, _⟩ := spec0 j o ho
      obtain ⟨i', cs', ds', k1', k2', _⟩ := spec0 j' o' ho'
      rw [hmu0 k1, hmu0 k1'] at e
      have := hR.inj i i' _ _ k2 k2' e
      subst this
      exact hp.inj i j j' k1 k1'
    · obtain ⟨i, cs, ds, k1, k2, rfl, k4, _⟩ := spec0 j o ho
      obtain ⟨a, T, q1, q2⟩ := hR.obj i _ k2
      rw [hmu0 k1]
      exact ⟨a, T, q1, k4.rc1 sub0 q2⟩
    · obtain ⟨i, cs, ds, k1, k2, _⟩ := spec0 j o ho
      rw [hmu0 k1] at hh
      rcases hh with hh | ⟨i', o', ho', hn, e⟩
      · exact hR.nohid i _ k2 hh
      · exact hn (hR.inj i' i _ _ ho' k2 e ▸ (hp.fn i j k1).2.2)
  have hG0 : RelG G c0 := fun n cs hn => rn_plain (plain_iptr (hGp n cs hn)) c c0 _ sub0 (hG n cs hn)
  have hm0 : Mat c0 ⟨l0, k⟩ := ⟨rfl, fun i => Iff.rfl⟩
  have ha0 : argsR c0 args0 vs := ⟨by rw [hargs.1, ha.spec.1], ha.rcs sub0 hargs.2⟩
  refine (hc.2 c0 _ hR0 hG0 hm0 ha0).mono ?_
  rintro e w' ⟨v, rfl, r', h1, c2, rfl, ⟨rfl, rfl⟩, hrv, hR2, hm2, he2⟩
  have hat2 : ∀ j o, lk l0 j = some o → c2.at_ j = some o := fun j o hj => by rw [hm2.at_]; exact hj
  have hmu2 : ∀ {i j}, p i j → c2.mu j = c.mu i := fun {i j} hij => by rw [he2.mu j (hp.fn i j hij).1]; exact hmu0 hij
  have hfroz : ∀ b, c2.Froz b → ({ c with w := c2.w } : Cx).Froz b := fun b hb => by
    refine ⟨hb.1, fun i o ho => ?_, fun hh => hb.3 ((he2.hid b).2 (.inl hh))⟩
    by_cases hi : i ∈ rd
    · obtain ⟨j, o', k1, k2⟩ := hp.all i hi
      intro e
      exact hb.2 j o' (hat2 j o' k2) (by rw [hmu2 k1]; exact e)
    · exact fun e => hb.3 ((he2.hid b).2 (.inr ⟨i, o, ho, hi, e⟩))
  -- a name that stands in what is left was known to the caller
  have usedD : ∀ {i j}, p i j → c.U i := fun {i j} hij => by
    obtain ⟨j', o, k1, k2⟩ := hp.all i (hp.fn i j hij).2.2
    obtain ⟨i', cs, ds, q1, q2, _⟩ := spec0 j' o k2
    have : i' = i := by rw [← (hp.fn i' j' q1).2.1, (hp.fn i j' k1).2.1]
    exact this ▸ hR.used i' _ q2
  have sub1 : Sub (fun j i => p i j) c2 { c with w := c2.w } := ⟨fun j i hij _ => ⟨usedD hij, (hmu2 hij).symm⟩, rfl, hfroz⟩
  have he : Ext c { c with w := c2.w } := by
    refine ⟨fun _ h => h, fun _ _ => rfl, he2.csz, fun b hb => ?_, he2.size, fun _ => Iff.rfl, fun b hb => he2.hidh b (.inl hb), he2.env⟩
    have k := he2.froz b (sub0.froz b hb)
    exact ⟨hfroz b k.1, k.2⟩
  refine ⟨v, { c with w := c2.w }, rfl, rfl, hr c2 _ v sub1 hrv, ?_, he, rfl, fun i => by simp [newOf]⟩
  refine ⟨hR.used, hR.inj, fun i o ho => ?_, hR.many, hR.nohid, fun b hb => Nat.lt_of_lt_of_le (hR.hidlt b hb) he2.size⟩
  by_cases hi : i ∈ rd
  · obtain ⟨j, o', k1, k2⟩ := hp.all i hi
    obtain ⟨i', cs, ds, q1, q2, rfl, _, q5⟩ := spec0 j o' k2
    have : i' = i := by rw [← (hp.fn i' j q1).2.1, (hp.fn i j k1).2.1]
    subst this
    rw [q2] at ho
    cases ho
    obtain ⟨a, T, m1, m2⟩ := hR2.obj j _ (hat2 j _ k2)
    rw [hmu2 k1] at m1 m2
    exact ⟨a, T, m1, q5.rc1 sub1 m2⟩
  · exact (hR.obj i o ho).ext he (he2.hidh _ (.inr ⟨i, o, ho, hi, rfl⟩))
/-- The names in a value are among some. -/
def namesB (rd : List Nat) : Nat → AV → Bool
  | _, .ptr i _ => rd.contains i
  | _, .sl i _ _ _ _ => rd.contains i
  | d + 1, .agg cs => cs.all (namesB rd d)
  | d + 1, .tup cs => cs.all (namesB rd d)
  | d + 1, .fn _ fs cs => fs.all (namesB rd d) && cs.all (namesB rd d)
  | d, x => plainB d x
theorem rnl_all {p : Nat → Nat → Prop} : ∀ {xs : List AV}, (∀ x ∈ xs, RnV p x x) → RnL p xs xs
  | [], _ => trivial
  | x :: xs, h => ⟨h x (List.mem_cons_self ..), rnl_all fun y hy => h y (List.mem_cons_of_mem _ hy)⟩
theorem rn_fn {p : Nat → Nat → Prop} {f : Nat} {xs ys xs' ys' : List AV} (h1 : RnL p xs xs') (h2 : RnL p ys ys') : RnV p (.fn f xs ys) (.fn f xs' ys') := fun c c' v hs hr => by
  obtain ⟨vf, vc, rfl, ⟨k1, k2⟩, k3, k4⟩ := RR_fn.1 hr
  exact RR_fn.2 ⟨vf, vc, rfl, ⟨by rw [k1, h1.spec.1], h1.rcs hs k2⟩, by rw [k3, h2.spec.1], h2.rcs hs k4⟩
theorem names_rn {rd : List Nat} {p : Nat → Nat → Prop} (hp : ∀ i ∈ rd, p i i) : ∀ (d : Nat) (x : AV), namesB rd d x = true → RnV p x x := by
  intro d
  induction d with
  | zero =>
    intro x h
    cases x <;> first
      | exact rn_ptr (hp _ (by simpa [namesB] using h))
      | exact rn_sl (hp _ (by simpa [namesB] using h))
      | exact rn_plain (plainB_plain 0 _ h)
  | succ d ih =>
    intro x h
    cases x with
    | ptr i o => exact rn_ptr (hp _ (by simpa [namesB] using h))
    | sl i a b c e => exact rn_sl (hp _ (by simpa [namesB] using h))
    | agg cs => simp only [namesB, List.all_eq_true] at h; exact rn_agg (rnl_all fun x hx => ih x (h x hx))
    | tup cs => simp only [namesB, List.all_eq_true] at h; exact rn_tup (rnl_all fun x hx => ih x (h x hx))
    | fn f fs cs =>
      simp only [namesB, Bool.and_eq_true, List.all_eq_true] at h
      exact rn_fn (rnl_all fun x hx => ih x (h.1 x hx)) (rnl_all fun x hx => ih x (h.2 x hx))
    | _ => exact rn_plain (plainB_plain (d + 1) _ h)
theorem wkl_all {σ : Nat → Nat} {h h' : Hp} : ∀ {xs : List AV}, (∀ x ∈ xs, WkV P σ h h' x x) → WkL P σ h h' xs xs
  | [], _ => trivial
  | x :: xs, hx => ⟨hx x (List.mem_cons_self ..), wkl_all fun y hy => hx y (List.mem_cons_of_mem _ hy)⟩
theorem names_wk {rd : List Nat} {h h' : Hp} (hs : SubH id h h') (hp : ∀ i ∈ rd, i < h'.next) : ∀ (d : Nat) (x : AV), namesB rd d x = true → WkV P id h h' x x := by
  intro d
  induction d with
  | zero =>
    intro x hx
    cases x <;> first
      | exact wk_ptr rfl (hp _ (by simpa [namesB] using hx))
      | exact fun c v hR hm hr => by
          obtain ⟨h1, h2, cap, h3, h4, h5, h6, h7⟩ := RR_sl.1 hr
          exact RR_sl.2 ⟨hp _ (by simpa [namesB] using hx), h2, cap, h3, h4, h5, h6, h7⟩
      | exact wk_plain hs (plainB_plain 0 _ hx)
  | succ d ih =>
    intro x hx
    cases x with
    | ptr i o => exact wk_ptr rfl (hp _ (by simpa [namesB] using hx))
    | sl i a b c e =>
      intro c v hR hm hr
      obtain ⟨h1, h2, cap, h3, h4, h5, h6, h7⟩ := RR_sl.1 hr
      exact RR_sl.2 ⟨hp _ (by simpa [namesB] using hx), h2, cap, h3, h4, h5, h6, h7⟩
    | agg cs => simp only [namesB, List.all_eq_true] at hx; exact wk_agg (wkl_all fun x h => ih x (hx x h))
    | tup cs => simp only [namesB, List.all_eq_true] at hx; exact wk_tup (wkl_all fun x h => ih x (hx x h))
    | fn f fs cs =>
      simp only [namesB, Bool.and_eq_true, List.all_eq_true] at hx
      exact wk_fn (wkl_all fun x h => ih x (hx.1 x h)) (wkl_all fun x h => ih x (hx.2 x h))
    | _ => exact wk_plain hs (plainB_plain (d + 1) _ hx)
def eqIK (a b : IntKind) : Bool := match a, b with
  | .i8, .i8 | .i16, .i16 | .i32, .i32 | .i64, .i64 | .u8, .u8 | .u16, .u16 | .u32, .u32 | .u64, .u64 => true
  | _, _ => false
theorem eqIK_eq {a b : IntKind} (h : eqIK a b = true) : a = b := by cases a <;> cases b <;> first | rfl | cases h
def allB2 (f : AV → AV → Bool) : List AV → List AV → Bool
  | [], [] => true
  | x :: xs, y :: ys => f x y && allB2 f xs ys
  | _, _ => false
theorem allB2_eq {f : AV → AV → Bool} (hf : ∀ x y, f x y = true → x = y) : ∀ {xs ys : List AV}, allB2 f xs ys = true → xs = ys
  | [], [], _ => rfl
  | x :: xs, y :: ys, h => by
    simp only [allB2, Bool.and_eq_true] at h
    rw [hf x y h.1, allB2_eq hf h.2]
  | [], _ :: _, h => by cases h
  | _ :: _, [], h => by cases h
def allB2L (f : List AV → List AV → Bool) : List (List AV) → List (List AV) → Bool
  | [], [] => true
  | x :: xs, y :: ys => f x y && allB2L f xs ys
  | _, _ => false
theorem allB2L_eq {f : List AV → List AV → Bool} (hf : ∀ x y, f x y = true → x = y) : ∀ {xs ys : List (List AV)}, allB2L f xs ys = true → xs = ys
  | [], [], _ => rfl
  | x :: xs, y :: ys, h => by
    simp only [allB2L, Bool.and_eq_true] at h
    rw [hf x y h.1, allB2L_eq hf h.2]
  | [], _ :: _, h => by cases h
  | _ :: _, [], h => by cases h
def eqAV : Nat → AV → AV → Bool
  | _, .undef, .undef => true
  | _, .int k n, .int k' n' => eqIK k k' && n == n'
  | _, .bool a, .bool b => a == b
  | _, .nilp, .nilp => true
  | _, .nilf, .nilf => true
  | _, .nils, .nils => true
  | _, .ptr i o, .ptr j q => i == j && o == q
  | _, .sl i a b c d, .sl i' a' b' c' d' => i == i' && a == a' && b == b' && c == c' && d == d'
  | d + 1, .isl xs, .isl ys => allB2L (allB2 (eqAV d)) xs ys
  | d + 1, .iptr xs, .iptr ys => allB2 (eqAV d) xs ys
  | d + 1, .agg xs, .agg ys => allB2 (eqAV d) xs ys
  | d + 1, .fn f xs ys, .fn g xs' ys' => f == g && allB2 (eqAV d) xs xs' && allB2 (eqAV d) ys ys'
  | _, .str s, .str t => decide (s = t)
  | _, _, _ => false
theorem eqAV_eq : ∀ (d : Nat) (x y : AV), eqAV d x y = true → x = y := by
  intro d
  induction d with
  | zero =>
    intro x y h
    cases x <;> cases y <;> first | rfl | (simp only [eqAV, Bool.and_eq_true, beq_iff_eq, decide_eq_true_eq] at h; first | (obtain ⟨⟨⟨⟨rfl, rfl⟩, rfl⟩, rfl⟩, rfl⟩ := h; rfl) | (obtain ⟨rfl, rfl⟩ := h; rfl) | (obtain ⟨h1, rfl⟩ := h; rw [eqIK_eq h1]) | (subst h; rfl) | cases h) | cases h
  | succ d ih =>
    intro x y h
    have e2 := fun xs ys => allB2_eq (f := eqAV d) ih (xs := xs) (ys := ys)
    cases x <;> cases y <;> first
      | rfl
      | (simp only [eqAV, Bool.and_eq_true, beq_iff_eq, decide_eq_true_eq] at h; first
          | (obtain ⟨⟨⟨⟨rfl, rfl⟩, rfl⟩, rfl⟩, rfl⟩ := h; rfl)
          | (obtain ⟨⟨rfl, h1⟩, h2⟩ := h; rw [e2 _ _ h1, e2 _ _ h2])
          | (obtain ⟨rfl, rfl⟩ := h; rfl)
          | (obtain ⟨h1, rfl⟩ := h; rw [eqIK_eq h1])
          | (rw [e2 _ _ h])
          | (rw [allB2L_eq (fun _ _ => e2 _ _) h])
          | (subst h; rfl)
          | cases h)
      | cases h
/-- What stood in the store still stands there. -/
def sameB (l1 : List (Nat × AObj)) : List (Nat × AObj) → Bool
  | [] => true
  | (i, .cells cs) :: r => (match lk l1 i with | some (.cells ds) => allB2 (eqAV 9) ds cs | _ => false) && sameB l1 r
  | _ :: _ => false
/-- A store in which each name stands once, below a number, and leads to names of the store. -/
def tidyB (rd : List Nat) (k : Nat) : List (Nat × AObj) → Bool
  | [] => true
  | (i, .cells cs) :: r => decide (i < k) && cs.all (namesB rd 9) && tidyB rd k r
  | _ :: _ => false
theorem sameB_lk {l1 : List (Nat × AObj)} : ∀ {l : List (Nat × AObj)}, sameB l1 l = true → ∀ q ∈ l, ∃ cs, q.2 = .cells cs ∧ lk l1 q.1 = some (.cells cs)
  | [], _, q, hq => by cases hq
  | (i, .cells cs) :: r, h, q, hq => by
    simp only [sameB, Bool.and_eq_true] at h
    rcases List.mem_cons.1 hq with rfl | hq
    · refine ⟨cs, rfl, ?_⟩
      have h1 := h.1
      split at h1
      · rename_i ds e; rw [e, allB2_eq (eqAV_eq 9) h1]
      · cases h1
    · exact sameB_lk h.2 q hq
  | (i, .loop _ _ _ _ _ _) :: r, h, q, hq => by cases h
  | (i, .maps _) :: r, h, q, hq => by cases h
theorem tidyB_lk {rd : List Nat} {k : Nat} : ∀ {l : List (Nat × AObj)}, tidyB rd k l = true → ∀ i o, lk l i = some o → i < k ∧ ∃ cs, o = .cells cs ∧ ∀ x ∈ cs, namesB rd 9 x = true
  | [], _, i, o, h => by cases h
  | (j, .cells cs) :: r, h, i, o, hl => by
    simp only [tidyB, Bool.and_eq_true, decide_eq_true_eq, List.all_eq_true] at h
    simp only [lk] at hl
    split at hl
    · rename_i e; subst e; cases hl; exact ⟨h.1.1, cs, rfl, h.1.2⟩
    · exact tidyB_lk h.2 i o hl
  | (j, .loop _ _ _ _ _ _) :: r, h, i, o, hl => by cases h
  | (j, .maps _) :: r, h, i, o, hl => by cases h
theorem tidyB_mem {rd : List Nat} {k : Nat} : ∀ {l : List (Nat × AObj)}, tidyB rd k l = true → ∀ {i : Nat} {cs : List AV}, (i, AObj.cells cs) ∈ l → ∀ x ∈ cs, namesB rd 9 x = true
  | (j, .cells ds) :: r, h, i, cs, hm, x, hx => by
    simp only [tidyB, Bool.and_eq_true, decide_eq_true_eq, List.all_eq_true] at h
    rcases List.mem_cons.1 hm with e | hm
    · cases e; exact h.1.2 x hx
    · exact tidyB_mem h.2 hm x hx
  | (j, .loop _ _ _ _ _ _) :: r, h, _, _, _, _, _ => by cases h
  | (j, .maps _) :: r, h, _, _, _, _, _ => by cases h
theorem frzV_plain {at_ : At} : ∀ (d : Nat) (x y : AV) (r : List Nat), frzV d at_ x = some (y, r) → Plain y := by
  intro d
  induction d with
  | zero =>
    intro x y r h
    cases x <;> simp only [frzV] at h <;> split at h <;> first | (cases h; exact plainB_plain 0 _ (by assumption)) | cases h
  | succ d ih =>
    intro x y r h
    have lst : ∀ {xs ys : List AV} {r' : List Nat}, frzL (frzV d at_) xs = some (ys, r') → ∀ y ∈ ys, Plain y := fun {xs ys r'} hl z hz => by
      obtain ⟨j, hj⟩ := List.mem_iff_getElem?.1 hz
      obtain ⟨x', a, q1, q2, q3⟩ := (frzL_spec hl).2 j z hj
      exact ih _ _ _ q2
    have base : ∀ {z : AV}, (if plainB (d + 1) z = true then some (z, ([] : List Nat)) else none) = some (y, r) → Plain y := fun {z} hz => by
      split at hz
      · rename_i hp; cases hz; exact plainB_plain _ _ hp
      · cases hz
    cases x with
    | ptr i o =>
      simp only [frzV] at h
      split at h
      · split at h
        · rename_i l r' hl; cases h; exact plain_iptr (lst hl)
        · cases h
      · cases h
    | sl i off len cp sz =>
      simp only [frzV] at h
      split at h
      · split at h
        · split at h
          · rename_i l r' hl
            cases h
            refine plain_isl fun e he x hx => ?_
            obtain ⟨k, hk⟩ := List.mem_iff_getElem?.1 he
            obtain ⟨rfl, _⟩ := chunks_get hk
            exact lst hl x (List.mem_of_mem_drop (List.mem_of_mem_take hx))
          · cases h
        · cases h
      · cases h
    | agg cs =>
      simp only [frzV] at h
      split at h
      · rename_i l r' hl; cases h; exact plain_agg (lst hl)
      · cases h
    | tup cs =>
      simp only [frzV] at h
      split at h
      · rename_i l r' hl; cases h; exact plain_tup (lst hl)
      · cases h
    | fn f fs cs =>
      simp only [frzV] at h
      split at h
      · rename_i l r1 l' r2 hl1 hl2; cases h; exact plain_fn (lst hl1) (lst hl2)
      · cases h
    | _ => simp only [frzV] at h; exact base h
theorem lk_key : ∀ {l : List (Nat × AObj)} {i : Nat}, i ∈ l.map (·.1) → ∃ o, lk l i = some o
  | (j, o) :: r, i, h => by
    simp only [lk]
    by_cases e : i = j
    · exact ⟨o, if_pos e⟩
    · rw [if_neg e]
      simp only [List.map_cons, List.mem_cons] at h
      exact lk_key (h.resolve_left e)
theorem lk_in : ∀ {l : List (Nat × AObj)} {i : Nat} {o : AObj}, lk l i = some o → (i, o) ∈ l
  | (j, x) :: r, i, o, h => by
    simp only [lk] at h
    split at h
    · rename_i e; subst e; cases h; exact List.mem_cons_self ..
    · exact List.mem_cons_of_mem _ (lk_in h)
/-- Is a result fit, and the store as it was? Then the result as a value. -/
def roB (h : Hp) (args : List AV) (r : AV) (h1 : Hp) : Option AV :=
  let rd := h.l.map (·.1)
  if tidyB rd h.next h.l && args.all (namesB rd 9) && sameB h1.l h.l && decide (h.next ≤ h1.next) then
    if namesB rd 9 r then some r else match frzV 9 (lk h1.l) r with
    | some (r', rd') => if rd'.all (fun i => !rd.contains i) then some r' else none
    | none => none
  else none
theorem roIn_id {h : Hp} {at_ : At} (hat : ∀ j o, lk h.l j = some o → at_ j = some o) (ht : tidyB (h.l.map (·.1)) h.next h.l = true) : RoIn (fun i j => i = j ∧ i ∈ h.l.map (·.1)) id (h.l.map (·.1)) h.next at_ h.l := by
  refine ⟨fun i j ⟨e, hi⟩ => ?_, fun i j j' h h' => h.1.symm.trans h'.1, fun j o ho => ?_, fun i hi => ?_⟩
  · subst e
    obtain ⟨o, ho⟩ := lk_key hi
    exact ⟨(tidyB_lk ht i o ho).1, rfl, hi⟩
  · obtain ⟨_, cs, rfl, hn⟩ := tidyB_lk ht j o ho
    have hj : j ∈ h.l.map (·.1) := List.mem_map.2 ⟨_, lk_in ho, rfl⟩
    exact ⟨j, cs, cs, ⟨rfl, hj⟩, hat _ _ ho, rfl, rnl_all fun x hx => names_rn (fun i hi => ⟨rfl, hi⟩) 9 x (hn x hx), rnl_all fun x hx => names_rn (fun i hi => ⟨rfl, hi⟩) 9 x (hn x hx)⟩
  · obtain ⟨o, ho⟩ := lk_key hi
    exact ⟨i, o, ⟨rfl, hi⟩, ho⟩
/-- Some blocks of a store. -/
def restr (l : List (Nat × AObj)) : List Nat → List (Nat × AObj)
  | [] => []
  | i :: r => match lk l i with
    | some o => if r.contains i then restr l r else (i, o) :: restr l r
    | none => restr l r
theorem restr_lk {l : List (Nat × AObj)} : ∀ {r : List Nat} {j : Nat} {o : AObj}, lk (restr l r) j = some o → lk l j = some o
  | [], _, _, h => by cases h
  | i :: r, j, o, h => by
    simp only [restr] at h
    split at h
    · rename_i o' ho
      split at h
      · exact restr_lk h
      · simp only [lk] at h
        split at h
        · rename_i e; subst e; cases h; exact ho
        · exact restr_lk h
    · exact restr_lk h
/-- The end of a body that leaves everything as it was. -/
theorem ro_fin {h h1 : Hp} {args l : List AV} {r r' : AV} {rs : List ARes} {fr : List AV} (hro : roB h args r h1 = some r') (hl : resVs fr (lk h1.l) rs = some l) (hp : r = packV l) : (∃ l' σ q h2, resVs fr (lk h1.l) rs = some l' ∧ Weak P σ [packV l'] h1 [q] h2 ∧ Keeps h.next σ ∧ h.next ≤ h2.next ∧ q = r' ∧ h2 = ⟨h.l, h.next⟩) ∧ tidyB (h.l.map (·.1)) h.next h.l = true ∧ args.all (namesB (h.l.map (·.1)) 9) = true ∧ RnV (fun j i => i = j ∧ i ∈ h.l.map (·.1)) r' r' := by
  simp only [roB] at hro
  split at hro
  · rename_i hb
    simp only [Bool.and_eq_true, decide_eq_true_eq] at hb
    obtain ⟨⟨⟨ht, hargs⟩, hsame⟩, hnx⟩ := hb
    have hs : SubH id h1 ⟨h.l, h.next⟩ := fun i o hi => by
      obtain ⟨cs, _, h2⟩ := sameB_lk hsame _ (lk_in hi)
      exact ⟨_, h2⟩
    have hlt' : ∀ j ∈ h.l.map (·.1), j < h.next := fun j hj => by obtain ⟨o2, ho2⟩ := lk_key hj; exact (tidyB_lk ht j o2 ho2).1
    have hkey : WkV P id h1 ⟨h.l, h.next⟩ r r' ∧ RnV (fun j i => i = j ∧ i ∈ h.l.map (·.1)) r' r' := by
      split at hro
      · rename_i hnm
        cases hro
        exact ⟨names_wk (rd := h.l.map (·.1)) hs hlt' 9 r hnm, names_rn (fun i hi => ⟨rfl, hi⟩) 9 r hnm⟩
      · split at hro
        · rename_i r1 rd' hf
          split at hro
          · rename_i hd
            cases hro
            refine ⟨?_, rn_plain (frzV_plain 9 _ _ _ hf)⟩
            intro c v hR hm hr
            have hfz : Frz c (c.ren id ⟨h.l, h.next⟩) rd' (lk h1.l) := by
              refine ⟨rfl, fun b hb => ⟨hb.1, fun i o hi => ?_, hb.3⟩, fun i hi o ho => ⟨(hR.obj i o ho).lt, fun j o' hj e => ?_, hR.nohid i o ho⟩, fun i _ => by rw [hm.at_]⟩
              · obtain ⟨o', ho'⟩ := hs i o hi; exact hb.2 i o' (by rw [hm.at_]; exact ho')
              · obtain ⟨o'', ho''⟩ := hs j o' hj
                have hij : j = i := hR.inj j i o'' o (by rw [hm.at_]; exact ho'') ho e
                have h1 := List.all_eq_true.1 hd i hi
                simp only [Bool.not_eq_true', List.contains_eq_mem, decide_eq_false_iff_not] at h1
                exact h1 (List.mem_map.2 ⟨_, lk_in hj, hij⟩)
            exact (frz_sound hfz hR 9 r r' rd' hf fun i hi => hi).1 v hr
          · cases hro
        · cases hro
    refine ⟨⟨l, id, r', ⟨h.l, h.next⟩, hl, weak_of (fun i j o o' _ _ e => e) ⟨by rw [← hp]; exact hkey.1, trivial⟩ ?_, fun _ _ => rfl, Nat.le_refl _, rfl, rfl⟩, ht, hargs, hkey.2⟩
    have : ∀ l' : List (Nat × AObj), (∀ q ∈ l', q ∈ h.l) → WkO P id h1 ⟨h.l, h.next⟩ l' := by
      intro l'
      induction l' with
      | nil => intro _; trivial
      | cons q l' ih =>
        intro hq
        have hqm := hq q (List.mem_cons_self ..)
        obtain ⟨cs, e1, e2⟩ := sameB_lk hsame q hqm
        obtain ⟨i, o⟩ := q
        dsimp only at e1 e2
        subst e1
        have hlk : ∃ o, lk h.l i = some o := lk_key (List.mem_map.2 ⟨_, hqm, rfl⟩)
        obtain ⟨o, ho⟩ := hlk
        have hlt := (tidyB_lk ht i o ho).1
        exact wko_cells hlt e2 (wkl_all fun x hx => names_wk (rd := h.l.map (·.1)) hs hlt' 9 x (tidyB_mem ht hqm x hx)) (ih fun q hq' => hq q (List.mem_cons_of_mem _ hq'))
    exact this h.l fun q hq => hq
  · cases hro
end
end Go.Am
