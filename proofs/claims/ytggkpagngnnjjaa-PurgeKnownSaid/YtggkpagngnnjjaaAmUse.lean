/-
  How functions are told of: those that are pure; the rounds of a range; what may be forgotten. No program in sight.
-/
import Derived.Test.YtggkpagngnnjjaaAmFn
set_option linter.unusedSimpArgs false
set_option linter.unusedVariables false
namespace Go.Am
/-- A value that names no block: it stands for the same wherever what is frozen stays. -/
def Plain (x : AV) : Prop := ∀ (c c' : Cx) (v : Value), (∀ b, c.Froz b → c'.Froz b ∧ ∀ o u, c.w.cell? ⟨b, o, none⟩ = some u → c'.w.cell? ⟨b, o, none⟩ = some u) → RR c x v → RR c' x v
theorem plain_undef : Plain .undef := fun _ _ _ _ _ => RR_undef
theorem plain_int {k : IntKind} {n : Int} : Plain (.int k n) := fun _ _ _ _ h => RR_int.2 (RR_int.1 h)
theorem plain_bool {b : Bool} : Plain (.bool b) := fun _ _ _ _ h => RR_bool.2 (RR_bool.1 h)
theorem plain_str {b : ByteArray} : Plain (.str b) := fun _ _ _ _ h => RR_str.2 (RR_str.1 h)
theorem plain_nilp : Plain .nilp := fun _ _ _ _ h => RR_nilp.2 (RR_nilp.1 h)
theorem plain_nilf : Plain .nilf := fun _ _ _ _ h => RR_nilf.2 (RR_nilf.1 h)
theorem plain_nils : Plain .nils := fun _ _ _ _ h => RR_nils.2 (RR_nils.1 h)
theorem plain_isl {els : List (List AV)} (h : ∀ e ∈ els, ∀ x ∈ e, Plain x) : Plain (.isl els) := fun c c' v hf hr => by
  obtain ⟨A, cap, h1, h2, h3, h4⟩ := RR_isl.1 hr
  refine RR_isl.2 ⟨A, cap, h1, h2, h3, fun hne => ?_⟩
  obtain ⟨b, off, sz, h5, h6, h7⟩ := h4 hne
  refine ⟨b, off, sz, h5, (hf b h6).1, fun k el hk => ⟨(h7 k el hk).1, fun j x hx => ?_⟩⟩
  obtain ⟨u, hu, hxu, h1⟩ := (h7 k el hk).2 j x hx
  exact ⟨u, (hf b h6).2 _ u hu, h el (List.mem_of_getElem? hk) x (List.mem_of_getElem? hx) c c' u hf hxu, h1⟩
theorem plain_iptr {cs : List AV} (h : ∀ x ∈ cs, Plain x) : Plain (.iptr cs) := fun c c' v hf hr => by
  obtain ⟨b, off, h1, h2, h3⟩ := RR_iptr.1 hr
  refine RR_iptr.2 ⟨b, off, h1, (hf b h2).1, fun j x hx => ?_⟩
  obtain ⟨u, hu, hxu, h4⟩ := h3 j x hx
  exact ⟨u, (hf b h2).2 _ u hu, h x (List.mem_of_getElem? hx) c c' u hf hxu, h4⟩
theorem plain_agg {cs : List AV} (h : ∀ x ∈ cs, Plain x) : Plain (.agg cs) := fun c c' v hf hr => by
  obtain ⟨vs, h1, h2, h3⟩ := RR_agg.1 hr
  refine RR_agg.2 ⟨vs, h1, h2, fun j x hx => ?_⟩
  obtain ⟨u, hu, hxu, h4⟩ := h3 j x hx
  exact ⟨u, hu, h x (List.mem_of_getElem? hx) c c' u hf hxu, h4⟩
theorem plain_tup {cs : List AV} (h : ∀ x ∈ cs, Plain x) : Plain (.tup cs) := fun c c' v hf hr => by
  obtain ⟨vs, h1, h2, h3⟩ := RR_tup.1 hr
  refine RR_tup.2 ⟨vs, h1, h2, fun j x hx => ?_⟩
  obtain ⟨u, hu, hxu⟩ := h3 j x hx
  exact ⟨u, hu, h x (List.mem_of_getElem? hx) c c' u hf hxu⟩
theorem plain_fn {f : Nat} {fs cs : List AV} (h : ∀ x ∈ fs, Plain x) (h' : ∀ x ∈ cs, Plain x) : Plain (.fn f fs cs) := fun c c' v hf hr => by
  obtain ⟨vf, vc, h1, ⟨h2, h3⟩, h4, h5⟩ := RR_fn.1 hr
  refine RR_fn.2 ⟨vf, vc, h1, ⟨h2, fun j x hx => ?_⟩, h4, fun j x hx => ?_⟩
  · obtain ⟨u, hu, hxu⟩ := h3 j x hx
    exact ⟨u, hu, h x (List.mem_of_getElem? hx) c c' u hf hxu⟩
  · obtain ⟨u, hu, hxu⟩ := h5 j x hx
    exact ⟨u, hu, h' x (List.mem_of_getElem? hx) c c' u hf hxu⟩
/-- The program's tables bear plain values. -/
def PlainG (G : Gl) : Prop := ∀ n cs, G n = some cs → ∀ x ∈ cs, Plain x
section
variable {P : Program} {G : Gl}
/-- A context in which no name is left: the blocks of names are hidden. -/
def Cx.bare (c : Cx) : Cx := { U := fun _ => False, at_ := fun _ => none, mu := c.mu, w := c.w, hid := fun b => c.hid b ∨ ∃ id o, c.at_ id = some o ∧ (c.mu id).1 = b }
theorem froz_bare {c : Cx} {b : Nat} : c.bare.Froz b ↔ c.Froz b :=
  ⟨fun h => ⟨h.1, fun id o ho e => h.3 (.inr ⟨id, o, ho, e⟩), fun hh => h.3 (.inl hh)⟩, fun h => ⟨h.1, fun _ _ ho => (by cases ho), fun hh => hh.elim h.3 fun ⟨id, o, ho, e⟩ => h.2 id o ho e⟩⟩
theorem Plain.bare {c : Cx} {x : AV} {v : Value} (hp : Plain x) (h : RR c x v) : RR c.bare x v := hp c c.bare v (fun _ hb => ⟨froz_bare.2 hb, fun _ _ h => h⟩) h
/-- **A pure function**, out of its body, walked over an empty store. -/
theorem fnU_pure {f n : Nat} {ac : ACode} {rs : List ARes} {args : List AV} {r : AV} {at_ : At} {id : Nat} (hmix : P.follows .mixedOrders = true) (hb : Body P f ac rs n) (hG : PlainG G) (ha : ∀ x ∈ args, Plain x) (hr : Plain r)
    (hw : wpc P G none 0 ac (finQ P rs 0 fun r' h' => r' = r ∧ h'.l = []) (args ++ List.replicate (n - args.length) .undef) ⟨[], 0⟩) : FnU P G f args [] at_ r [] id := by
  refine ⟨hb.ok, fun c vs hR hg hid _ hargs => ?_⟩
  have hRb : Rel P c.bare := ⟨fun _ _ h => (by cases h), fun _ _ _ _ h => (by cases h), fun _ _ h => (by cases h), ⟨0, fun _ h => h.elim⟩, fun _ _ h => (by cases h), fun b hb => hb.elim (hR.hidlt b) fun ⟨i, o, ho, e⟩ => e ▸ (hR.obj i o ho).lt⟩
  have hgb : RelG G c.bare := fun k cs hk => (plain_iptr (hG k cs hk)).bare (hg k cs hk)
  have hmb : Mat c.bare ⟨[], 0⟩ := ⟨rfl, fun i => ⟨fun h => h.elim, fun h => by simp at h⟩⟩
  have hab : argsR c.bare args vs := ⟨hargs.1, fun j x hx => by
    obtain ⟨u, hu, hxu⟩ := hargs.2 j x hx
    exact ⟨u, hu, (ha x (List.mem_of_getElem? hx)).bare hxu⟩⟩
  refine (calls_body hmix hb hw hRb hgb hmb hab).mono ?_
  rintro e w' ⟨v, rfl, r', h', c2, rfl, ⟨rfl, hl⟩, hrv, hR2, hm2, he2⟩
  have named : ∀ i o, c.at_ i = some o → c2.w.heap[(c.mu i).1]? = c.w.heap[(c.mu i).1]? := fun i o ho => he2.hidh _ (.inr ⟨i, o, ho, rfl⟩)
  have he : Ext c { c with w := c2.w } := ⟨fun _ h => h, fun _ _ => rfl, he2.csz, fun b hb => ⟨⟨Nat.lt_of_lt_of_le hb.1 he2.size, hb.2, hb.3⟩, (he2.froz b (froz_bare.2 hb)).2⟩, he2.size, fun _ => Iff.rfl, fun b hb => he2.hidh b (.inl hb), he2.env⟩
  refine ⟨v, { c with w := c2.w }, rfl, rfl, ?_, ?_, he, rfl, fun i => by simp [newOf]⟩
  · refine hr c2 _ v (fun b hb => ⟨⟨hb.1, fun i o ho e => hb.3 ((he2.hid b).2 (.inr ⟨i, o, ho, e⟩)), fun hh => hb.3 ((he2.hid b).2 (.inl hh))⟩, fun _ _ h => h⟩) hrv
  · exact ⟨hR.used, hR.inj, fun i o ho => (hR.obj i o ho).ext he (named i o ho), hR.many, hR.nohid, fun b hb => Nat.lt_of_lt_of_le (hR.hidlt b hb) he2.size⟩

/-! What may be forgotten, and by what name the rest is known. -/
def WkV (P : Program) (σ : Nat → Nat) (h h' : Hp) (x x' : AV) : Prop := ∀ (c : Cx) (v : Value), Rel P c → Mat c h → RR c x v → RR (c.ren σ h') x' v
def WkL (P : Program) (σ : Nat → Nat) (h h' : Hp) : List AV → List AV → Prop
  | [], [] => True
  | x :: xs, y :: ys => WkV P σ h h' x y ∧ WkL P σ h h' xs ys
  | _, _ => False
variable {σ : Nat → Nat}
theorem WkL.spec {h h' : Hp} : ∀ {xs ys : List AV}, WkL P σ h h' xs ys → xs.length = ys.length ∧ ∀ (j : Nat) y, ys[j]? = some y → ∃ x, xs[j]? = some x ∧ WkV P σ h h' x y
  | [], [], _ => ⟨rfl, fun j y hy => by simp at hy⟩
  | x :: xs, y :: ys, hw => by
    obtain ⟨h1, h2⟩ := hw.2.spec
    refine ⟨by simp [h1], fun j z hz => ?_⟩
    cases j with
    | zero => simp at hz; subst hz; exact ⟨x, rfl, hw.1⟩
    | succ j => obtain ⟨u, hu, hr⟩ := h2 j z (by simpa using hz); exact ⟨u, by simpa using hu, hr⟩
  | [], _ :: _, hw => hw.elim
  | _ :: _, [], hw => hw.elim
theorem wkl_nil {h h' : Hp} : WkL P σ h h' [] [] := trivial
theorem wkl_cons {h h' : Hp} {x y : AV} {xs ys : List AV} (h1 : WkV P σ h h' x y) (h2 : WkL P σ h h' xs ys) : WkL P σ h h' (x :: xs) (y :: ys) := ⟨h1, h2⟩
/-- Objects that are kept, each with what it holds weakened likewise. -/
def WkO (P : Program) (σ : Nat → Nat) (h h' : Hp) : List (Nat × AObj) → Prop
  | [] => True
  | (i, .cells cs') :: r => i < h'.next ∧ (∃ cs R, lk h.l (σ i) = some (.cells (cs ++ R)) ∧ WkL P σ h h' cs cs') ∧ WkO P σ h h' r
  | (i, .loop st pend fr' ps as bd) :: r => i < h'.next ∧ (∃ fr, lk h.l (σ i) = some (.loop st pend fr ps as bd) ∧ WkL P σ h h' fr fr') ∧ WkO P σ h h' r
  | (_, .maps _) :: _ => False
theorem wko_nil {h h' : Hp} : WkO P σ h h' [] := trivial
theorem wko_cells {h h' : Hp} {i : Nat} {cs cs' : List AV} {r : List (Nat × AObj)} (h1 : i < h'.next) (h2 : lk h.l (σ i) = some (.cells cs)) (h3 : WkL P σ h h' cs cs') (h4 : WkO P σ h h' r) : WkO P σ h h' ((i, .cells cs') :: r) := ⟨h1, ⟨cs, [], by rw [List.append_nil]; exact h2, h3⟩, h4⟩
/-- Of a block just the first cells are kept. -/
theorem wko_prefix {h h' : Hp} {i : Nat} {cs cs' R : List AV} {r : List (Nat × AObj)} (h1 : i < h'.next) (h2 : lk h.l (σ i) = some (.cells (cs ++ R))) (h3 : WkL P σ h h' cs cs') (h4 : WkO P σ h h' r) : WkO P σ h h' ((i, .cells cs') :: r) := ⟨h1, ⟨cs, R, h2, h3⟩, h4⟩
theorem wko_loop {h h' : Hp} {i : Nat} {st : LoopState} {pend : Option Code} {ps : List Nat} {as bd : ACode} {fr fr' : List AV} {r : List (Nat × AObj)} (h1 : i < h'.next) (h2 : lk h.l (σ i) = some (.loop st pend fr ps as bd)) (h3 : WkL P σ h h' fr fr') (h4 : WkO P σ h h' r) : WkO P σ h h' ((i, .loop st pend fr' ps as bd) :: r) := ⟨h1, ⟨fr, h2, h3⟩, h4⟩
theorem WkO.spec {h h' : Hp} {i : Nat} {o' : AObj} : ∀ {l : List (Nat × AObj)}, WkO P σ h h' l → lk l i = some o' → i < h'.next ∧ ∃ o, lk h.l (σ i) = some o ∧ ∀ c, Rel P c → Mat c h → ObjR P (c.ren σ h') (c.mu (σ i)) o'
  | [], _, hl => by cases hl
  | (j, ob) :: r, hw, hl => by
    simp only [lk] at hl
    cases ob with
    | cells cs' =>
      obtain ⟨h1, ⟨cs, R, h2, h3⟩, h4⟩ := hw
      split at hl
      · rename_i e
        subst e
        cases hl
        refine ⟨h1, _, h2, fun c hR hm => ?_⟩
        obtain ⟨a, T, k1, k2⟩ := hR.obj (σ i) _ (by rw [hm.at_]; exact h2)
        obtain ⟨k3, k4⟩ := h3.spec
        refine ⟨a, T, k1, fun j y hy => ?_⟩
        obtain ⟨x, hx, hxy⟩ := k4 j y hy
        obtain ⟨u, hu, hxu, hone⟩ := k2 j x (by rw [List.getElem?_append_left (List.getElem?_eq_some_iff.1 hx).1]; exact hx)
        exact ⟨u, hu, hxy c u hR hm hxu, hone⟩
      · exact WkO.spec h4 hl
    | loop st pend fr' ps as bd =>
      obtain ⟨h1, ⟨fr, h2, h3⟩, h4⟩ := hw
      split at hl
      · rename_i e
        subst e
        cases hl
        refine ⟨h1, _, h2, fun c hR hm => ?_⟩
        obtain ⟨fn, tmps, qs, dn, ca, cb, k1, k2, k3⟩ := hR.obj (σ i) _ (by rw [hm.at_]; exact h2)
        obtain ⟨k4, k5⟩ := h3.spec
        refine ⟨fn, tmps, qs, dn, ca, cb, k1, ⟨by rw [k2.1, k4], fun j y hy => ?_⟩, k3⟩
        obtain ⟨x, hx, hxy⟩ := k5 j y hy
        obtain ⟨u, hu, hxu⟩ := k2.2 j x hx
        exact ⟨u, hu, hxy c u hR hm hxu⟩
      · exact WkO.spec h4 hl
    | maps es => exact hw.elim
/-- No two names for one. -/
def OneOf (σ : Nat → Nat) (l : List (Nat × AObj)) : Prop := ∀ i j o o', lk l i = some o → lk l j = some o' → σ i = σ j → i = j
theorem weak_of {fr fr' : List AV} {h h' : Hp} (hi : OneOf σ h'.l) (hf : WkL P σ h h' fr fr') (ho : WkO P σ h h' h'.l) : Weak P σ fr h fr' h' := by
  intro c tmps hR hm hF
  have sub : ∀ i o', lk h'.l i = some o' → ∃ o, c.at_ (σ i) = some o := fun i o' hi => by
    obtain ⟨_, o, h1, _⟩ := ho.spec hi
    exact ⟨o, by rw [hm.at_]; exact h1⟩
  obtain ⟨h1, h2⟩ := hf.spec
  refine ⟨⟨fun i o hi => (ho.spec hi).1, fun i j o o' hi' hj hij => ?_, fun i o hi => ?_, ⟨h'.next, fun i hi => hi⟩, fun i o hi => ?_, hR.hidlt⟩, ⟨by rw [hF.1, h1], fun j y hy => ?_⟩, fun i o' hi => let ⟨_, o, h1, _⟩ := ho.spec hi; ⟨o, h1⟩⟩
  · obtain ⟨o1, k1⟩ := sub i o hi'
    obtain ⟨o2, k2⟩ := sub j o' hj
    exact hi i j o o' hi' hj (hR.inj (σ i) (σ j) o1 o2 k1 k2 hij)
  · obtain ⟨_, o1, _, k⟩ := ho.spec hi; exact k c hR hm
  · obtain ⟨o1, k1⟩ := sub i o hi; exact hR.nohid (σ i) o1 k1
  · obtain ⟨x, hx, hxy⟩ := h2 j y hy
    obtain ⟨u, hu, hxu⟩ := hF.2 j x hx
    exact ⟨u, hu, hxy c u hR hm hxu⟩
theorem wk_undef {h h' : Hp} {x : AV} : WkV P σ h h' x .undef := fun _ _ _ _ _ => RR_undef
theorem wk_int {h h' : Hp} {k : IntKind} {m n : Int} (e : m = n) : WkV P σ h h' (.int k m) (.int k n) := fun _ _ _ _ hr => by subst e; exact RR_int.2 (RR_int.1 hr)
theorem wk_bool {h h' : Hp} {m n : Bool} (e : m = n) : WkV P σ h h' (.bool m) (.bool n) := fun _ _ _ _ hr => by subst e; exact RR_bool.2 (RR_bool.1 hr)
theorem wk_ptr {h h' : Hp} {i j o : Nat} (e : σ i = j) (hi : i < h'.next) : WkV P σ h h' (.ptr j o) (.ptr i o) := fun _ _ _ _ hr => by subst e; exact RR_ptr.2 ⟨hi, (RR_ptr.1 hr).2⟩
theorem wk_sl {h h' : Hp} {i j off len len' cp cp' sz : Nat} (e : σ i = j) (hi : i < h'.next) (el : len = len') (ec : cp' ≤ cp) (elc : len' ≤ cp') : WkV P σ h h' (.sl j off len cp sz) (.sl i off len' cp' sz) := fun _ _ _ _ hr => by
  subst e; subst el
  obtain ⟨h1, h2, cap, h3, h4, h5, h6, h7⟩ := RR_sl.1 hr
  exact RR_sl.2 ⟨hi, h2, cap, h3, elc, Nat.le_trans ec h5, h6, h7⟩
theorem wk_yld {h h' : Hp} {i j : Nat} (e : σ i = j) (hi : i < h'.next) : WkV P σ h h' (.yld j) (.yld i) := fun _ _ _ _ hr => by subst e; exact RR_yld.2 ⟨hi, (RR_yld.1 hr).2⟩
theorem wk_nils {h h' : Hp} : WkV P σ h h' .nils (.isl []) := fun _ _ _ _ hr => by
  obtain ⟨A, rfl⟩ := RR_nils.1 hr
  exact RR_isl.2 ⟨A, 0, rfl, Nat.le_refl _, Nat.zero_le _, fun h => absurd rfl h⟩
/-- What is kept of the store was there. -/
def SubH (σ : Nat → Nat) (h h' : Hp) : Prop := ∀ i o, lk h'.l i = some o → ∃ o', lk h.l (σ i) = some o'
theorem wk_plain {h h' : Hp} {x : AV} (hs : SubH σ h h') (hp : Plain x) : WkV P σ h h' x x := fun c v _ hm hr =>
  hp c (c.ren σ h') v (fun b hb => ⟨⟨hb.1, fun i o hi => by obtain ⟨o', ho⟩ := hs i o hi; exact hb.2 (σ i) o' (by rw [hm.at_]; exact ho), hb.3⟩, fun _ _ h => h⟩) hr
theorem wk_plain_eq {h h' : Hp} {x y : AV} (hs : SubH σ h h') (hp : Plain x) (e : x = y) : WkV P σ h h' x y := e ▸ wk_plain hs hp
theorem wk_agg {h h' : Hp} {xs ys : List AV} (hw : WkL P σ h h' xs ys) : WkV P σ h h' (.agg xs) (.agg ys) := fun c v hR hm hr => by
  obtain ⟨vs, rfl, h1, h2⟩ := RR_agg.1 hr
  obtain ⟨h3, h4⟩ := hw.spec
  refine RR_agg.2 ⟨vs, rfl, by rw [h1, h3], fun j y hy => ?_⟩
  obtain ⟨x, hx, hxy⟩ := h4 j y hy
  obtain ⟨u, hu, hxu, hone⟩ := h2 j x hx
  exact ⟨u, hu, hxy c u hR hm hxu, hone⟩
theorem wk_tup {h h' : Hp} {xs ys : List AV} (hw : WkL P σ h h' xs ys) : WkV P σ h h' (.tup xs) (.tup ys) := fun c v hR hm hr => by
  obtain ⟨vs, rfl, h1, h2⟩ := RR_tup.1 hr
  obtain ⟨h3, h4⟩ := hw.spec
  refine RR_tup.2 ⟨vs, rfl, by rw [h1, h3], fun j y hy => ?_⟩
  obtain ⟨x, hx, hxy⟩ := h4 j y hy
  obtain ⟨u, hu, hxu⟩ := h2 j x hx
  exact ⟨u, hu, hxy c u hR hm hxu⟩
theorem wk_fn {h h' : Hp} {f : Nat} {xs ys us vs : List AV} (hw : WkL P σ h h' xs ys) (hw' : WkL P σ h h' us vs) : WkV P σ h h' (.fn f xs us) (.fn f ys vs) := fun c v hR hm hr => by
  obtain ⟨vf, vc, h1, ⟨h2, h3⟩, h4, h5⟩ := RR_fn.1 hr
  obtain ⟨k1, k2⟩ := hw.spec
  obtain ⟨k3, k4⟩ := hw'.spec
  refine RR_fn.2 ⟨vf, vc, h1, ⟨by rw [h2, k1], fun j y hy => ?_⟩, by rw [h4, k3], fun j y hy => ?_⟩
  · obtain ⟨x, hx, hxy⟩ := k2 j y hy
    obtain ⟨u, hu, hxu⟩ := h3 j x hx
    exact ⟨u, hu, hxy c u hR hm hxu⟩
  · obtain ⟨x, hx, hxy⟩ := k4 j y hy
    obtain ⟨u, hu, hxu⟩ := h5 j x hx
    exact ⟨u, hu, hxy c u hR hm hxu⟩
/-- A slice that nothing will write any more becomes a value. -/
theorem wk_frz {h h' : Hp} {i off len cp sz : Nat} {cs : List AV} {els : List (List AV)} (hi : lk h.l i = some (.cells cs)) (hi' : ∀ j o, lk h'.l j = some o → σ j ≠ i) (hs : SubH σ h h') (hl : els.length = len) (hsz : ∀ e ∈ els, e.length = sz) (hc : (cs.drop off).take (len * sz) = els.flatten) (hp : ∀ e ∈ els, ∀ x ∈ e, Plain x) :
    WkV P σ h h' (.sl i off len cp sz) (.isl els) := fun c v hR hm hr => by
  obtain ⟨_, hlt, cap, rfl, g1, g2, g3, g4⟩ := RR_sl.1 hr
  obtain ⟨a, T, k1, k2⟩ := hR.obj i _ (by rw [hm.at_]; exact hi)
  have hfz : (c.ren σ h').Froz (c.mu i).1 := by
    refine ⟨hlt, fun j o hj e => ?_, hR.nohid i _ (by rw [hm.at_]; exact hi)⟩
    obtain ⟨o', ho'⟩ := hs j o hj
    exact hi' j o hj (hR.inj (σ j) i o' _ (by rw [hm.at_]; exact ho') (by rw [hm.at_]; exact hi) e)
  refine RR_isl.2 ⟨_, cap, by rw [hl], by omega, g3, fun hne => ⟨_, _, sz, rfl, hfz, fun k el hk => ⟨hsz el (List.mem_of_getElem? hk), fun j x hx => ?_⟩⟩⟩
  have hel := hsz el (List.mem_of_getElem? hk)
  have hj : j < sz := by have := (List.getElem?_eq_some_iff.1 hx).1; omega
  have hflat : ∀ (els : List (List AV)), (∀ e ∈ els, e.length = sz) → ∀ (k : Nat) el, els[k]? = some el → els.flatten[k * sz + j]? = el[j]? := by
    intro els
    induction els with
    | nil => intro _ k el hk; simp at hk
    | cons e els ih =>
      intro hall k el hk
      rw [List.flatten_cons]
      cases k with
      | zero =>
        simp at hk; subst hk
        rw [List.getElem?_append_left (by have := hall e (List.mem_cons_self ..); omega)]; simp
      | succ k =>
        rw [List.getElem?_append_right (by have := hall e (List.mem_cons_self ..); rw [Nat.succ_mul]; omega), hall e (List.mem_cons_self ..), ← ih (fun e he => hall e (List.mem_cons_of_mem _ he)) k el (by simpa using hk)]
        congr 1; rw [Nat.succ_mul]; omega
  have hcx : cs[off + (k * sz + j)]? = some x := by
    have h1 := hflat els hsz k el hk
    rw [← hc, List.getElem?_take] at h1
    split at h1
    · rw [List.getElem?_drop] at h1; rw [h1]; exact hx
    · rw [hx] at h1; cases h1
  obtain ⟨u, hu, hxu, hone⟩ := k2 _ x hcx
  have hu' : a[(c.mu i).2 + (off + (k * sz + j))]? = some u := hu
  refine ⟨u, ?_, (wk_plain (P := P) hs (hp el (List.mem_of_getElem? hk) x (List.mem_of_getElem? hx))) c u hR hm hxu, hone⟩
  show c.w.cell? _ = some u
  rw [cell_of k1, show (c.mu i).2 + off + k * sz + j = (c.mu i).2 + (off + (k * sz + j)) by omega]
  exact hu'
end
end Go.Am
