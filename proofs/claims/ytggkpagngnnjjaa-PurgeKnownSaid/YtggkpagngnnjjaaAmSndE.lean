/-
  The abstract machine's operations stand for the model's: addresses, indexes, slices, comparisons. No program in sight.
-/
import Derived.Test.YtggkpagngnnjjaaAmSndD
set_option linter.unusedSimpArgs false
set_option linter.unusedVariables false
namespace Go.Am
section
variable {P : Program} {c : Cx} {G : Gl} {fr : List AV} {a : Act}
theorem szOf_spec {t : TypeId} {n : Nat} (h : szOf P t = some n) (w : World) : (sizeOf t).run P w = .ok n w := by
  unfold szOf at h
  simp only [Option.map_eq_some_iff] at h
  obtain ⟨i, hi, rfl⟩ := h
  simp [sizeOf, typeInfo, hi]
theorem snd_nchk {x : AV} {u : Value} {r : AV} (hx : RR c x u) (h : nchkV x = some r) : r = x ∧ ∃ p, u = .pointer (some p) := by
  unfold nchkV at h
  split at h
  · cases h; obtain ⟨_, rfl⟩ := RR_ptr.1 hx; exact ⟨rfl, _, rfl⟩
  · cases h; obtain ⟨_, _, rfl, _⟩ := RR_iptr.1 hx; exact ⟨rfl, _, rfl⟩
  · cases h
theorem eqIn_ptr {t e : TypeId} (ht : P.underlying t = some (.pointer e)) (p : Option Addr) (d : Nat) (w : World) : (Op.equalIn (d + 1) t (.pointer p) (.pointer none)).run P w = .ok p.isNone w ∧ (Op.equalIn (d + 1) t (.pointer none) (.pointer p)).run P w = .ok p.isNone w := by
  constructor
  · cases p <;> simp [Op.equalIn, run_underlying ht]
  · cases p <;> simp [Op.equalIn, run_underlying ht]
theorem eqIn_fn {t : TypeId} {ps rs : Array TypeId} {vr : Bool} (ht : P.underlying t = some (.func ps rs vr)) (d : Nat) (w : World) : (Op.equalIn (d + 1) t .nilFunc .nilFunc).run P w = .ok true w ∧
    ∀ f x y, (Op.equalIn (d + 1) t (.func f x y) .nilFunc).run P w = .ok false w ∧ (Op.equalIn (d + 1) t .nilFunc (.func f x y)).run P w = .ok false w := by
  refine ⟨by simp [Op.equalIn, run_underlying ht], fun f x y => ⟨by simp [Op.equalIn, run_underlying ht], by simp [Op.equalIn, run_underlying ht]⟩⟩
theorem equal_eq (t : TypeId) (x y : Value) : Op.equal t x y = Op.equalIn (9999 + 1) t x y := rfl
theorem snd_eqb {op : BinOp} {t : TypeId} {x y : AV} {u v : Value} {r : AV} (ht : P.underlying t = some .bool) (hop : op = .eql ∨ op = .neq) (hx : RR c x u) (hy : RR c y v) (h : eqbV (op == .neq) x y = some r) :
    ∃ val, (binOp op t u v).run P c.w = .ok val c.w ∧ RR c r val := by
  unfold eqbV at h
  split at h
  · simp only [RR_bool] at hx hy
    subst hx; subst hy
    cases h
    rcases hop with rfl | rfl
    · exact ⟨_, by simp [binOp, equal_eq, run_equalIn_bool _ 9999 t _ _ ht], RR_bool.2 rfl⟩
    · exact ⟨_, by simp [binOp, equal_eq, run_equalIn_bool _ 9999 t _ _ ht], RR_bool.2 rfl⟩
  · cases h
theorem nilK_spec {fn : Bool} {x : AV} {u : Value} {b : Bool} (hx : RR c x u) (h : nilK fn x = some b) : (fn = false ∧ ∃ p, u = .pointer p ∧ b = p.isNone) ∨ (fn = true ∧ ((u = .nilFunc ∧ b = true) ∨ ∃ f vf vc, u = .func f vf vc ∧ b = false)) := by
  unfold nilK at h
  split at h <;> first
    | (cases h; done)
    | (split at h
       · cases h
       · rename_i hf
         simp only [Option.some.injEq] at h
         subst h
         refine .inl ⟨by simpa using hf, ?_⟩
         first
           | (simp only [RR_nilp] at hx; exact ⟨_, hx, rfl⟩)
           | (obtain ⟨_, rfl⟩ := RR_ptr.1 hx; exact ⟨_, rfl, rfl⟩)
           | (obtain ⟨_, _, rfl, _⟩ := RR_iptr.1 hx; exact ⟨_, rfl, rfl⟩))
    | (split at h
       · rename_i hf
         simp only [Option.some.injEq] at h
         subst h
         refine .inr ⟨hf, ?_⟩
         first
           | (simp only [RR_nilf] at hx; exact .inl ⟨hx, rfl⟩)
           | (obtain ⟨_, _, rfl, _⟩ := RR_fn.1 hx; exact .inr ⟨_, _, _, rfl, rfl⟩)
       · cases h)
/-- A comparison with nil, of pointers or of functions. -/
theorem snd_eqp {op : BinOp} {t : TypeId} {d : TypeDesc} {fn : Bool} {x y : AV} {u v : Value} {r : AV} (ht : P.underlying t = some d) (hd : (fn = false ∧ ∃ e, d = .pointer e) ∨ (fn = true ∧ ∃ p q s, d = .func p q s)) (hop : op = .eql ∨ op = .neq) (hx : RR c x u) (hy : RR c y v) (h : eqpV (op == .neq) fn x y = some r) :
    ∃ val, (binOp op t u v).run P c.w = .ok val c.w ∧ RR c r val := by
  have key : ∃ b, (Op.equal t u v).run P c.w = .ok b c.w ∧ r = .bool (if op == .neq then !b else b) ∧ ((∃ p, u = .pointer p) ∨ u = .nilFunc ∨ ∃ f vf vc, u = .func f vf vc) := by
    unfold eqpV at h
    have fin : ∀ b b', nilK fn x = some b → nilK fn y = some b' → (b = true ∨ b' = true) → ((Op.equal t u v).run P c.w = .ok (b && b') c.w ∧ ((∃ p, u = .pointer p) ∨ u = .nilFunc ∨ ∃ f vf vc, u = .func f vf vc)) := fun b b' h1 h2 hb => by
      rcases nilK_spec hx h1 with ⟨rfl, p, rfl, rfl⟩ | ⟨rfl, h3⟩
      · rcases nilK_spec hy h2 with ⟨_, q, rfl, rfl⟩ | ⟨h, _⟩
        · rcases hd with ⟨_, e, rfl⟩ | ⟨h, _⟩
          · refine ⟨?_, .inl ⟨_, rfl⟩⟩
            cases p with
            | none => rw [equal_eq, (eqIn_ptr ht q 9999 c.w).2]; rfl
            | some p =>
              have : q = none := by simpa using hb
              subst this
              rw [equal_eq, (eqIn_ptr ht (some p) 9999 c.w).1]; rfl
          · cases h
        · cases h
      · rcases nilK_spec hy h2 with ⟨h, _⟩ | ⟨_, h4⟩
        · cases h
        · rcases hd with ⟨h, _⟩ | ⟨_, p, q, s, rfl⟩
          · cases h
          · rcases h3 with ⟨rfl, rfl⟩ | ⟨f, vf, vc, rfl, rfl⟩ <;> rcases h4 with ⟨rfl, rfl⟩ | ⟨f', vf', vc', rfl, rfl⟩
            · exact ⟨(eqIn_fn ht 9999 c.w).1, .inr (.inl rfl)⟩
            · exact ⟨((eqIn_fn ht 9999 c.w).2 _ _ _).2, .inr (.inl rfl)⟩
            · exact ⟨((eqIn_fn ht 9999 c.w).2 _ _ _).1, .inr (.inr ⟨_, _, _, rfl⟩)⟩
            · simp at hb
    split at h
    · rename_i b h1 h2
      cases h
      obtain ⟨k1, k2⟩ := fin _ _ h1 h2 (.inl rfl)
      exact ⟨b, by simpa using k1, rfl, k2⟩
    · rename_i b _ h1 h2
      cases h
      obtain ⟨k1, k2⟩ := fin _ _ h1 h2 (.inr rfl)
      exact ⟨b, by simpa using k1, rfl, k2⟩
    · cases h
  obtain ⟨b, h1, rfl, hu⟩ := key
  refine ⟨.bool (if op == .neq then !b else b), ?_, RR_bool.2 rfl⟩
  rcases hop with rfl | rfl <;> rcases hu with ⟨p, rfl⟩ | rfl | ⟨f, vf, vc, rfl⟩ <;> simp [binOp, h1]
theorem leaf_run {f : Field} {kb : Bool} (h : leafK P f = some kb) : ∃ d, P.underlying f.type = some d ∧ ((kb = false ∧ ∃ k, d = .int k) ∨ (kb = true ∧ d = .bool)) ∧ ∀ (w : World), (isAgg f.type).run P w = .ok false w := by
  unfold leafK at h
  split at h
  · rename_i k hd; cases h; exact ⟨_, hd, .inl ⟨rfl, k, rfl⟩, fun w => by simp [isAgg, run_underlying hd]⟩
  · rename_i hd; cases h; exact ⟨_, hd, .inr ⟨rfl, rfl⟩, fun w => by simp [isAgg, run_underlying hd]⟩
  · cases h
theorem eqL_spec : ∀ (fs : List Field) (i : Nat) (ks : List Bool) (xs ys : List AV) (us vs : Array Value) (b : Bool) (w : World) (d : Nat), leaves P fs i = some ks → RC1 (RR c) xs (fun j => us[i + j]?) → RC1 (RR c) ys (fun j => vs[i + j]?) →
    eqL ks xs ys = some b → (Op.eqFields (d + 1) us vs fs).run P w = .ok b w
  | [], i, ks, xs, ys, us, vs, b, w, d, hk, _, _, h => by
    cases hk
    cases xs <;> cases ys <;> simp [eqL] at h
    subst h; simp [Op.eqFields]
  | f :: fs, i, ks, xs, ys, us, vs, b, w, d, hlf, hx, hy, h => by
    simp only [leaves] at hlf
    split at hlf
    · rename_i hno
      obtain ⟨hn, hoff⟩ := hno
      split at hlf
      · rename_i kb l hkb hl
        cases hlf
        obtain ⟨dsc, hd, hkind, hagg⟩ := leaf_run hkb
        cases xs with
        | nil => cases kb <;> simp [eqL] at h
        | cons x xs =>
          cases ys with
          | nil => cases kb <;> cases x <;> simp [eqL] at h
          | cons y ys =>
            obtain ⟨u, hu, hxu, _⟩ := hx 0 x rfl
            obtain ⟨v, hv, hyv, _⟩ := hy 0 y rfl
            have hu' : us[i]? = some u := hu
            have hv' : vs[i]? = some v := hv
            have hxs : RC1 (RR c) xs fun j => us[i + 1 + j]? := fun j z hz => by
              have := hx (j + 1) z (by simpa using hz)
              show ∃ u, us[i + 1 + j]? = some u ∧ _
              rw [show i + 1 + j = i + (j + 1) by omega]; exact this
            have hys : RC1 (RR c) ys fun j => vs[i + 1 + j]? := fun j z hz => by
              have := hy (j + 1) z (by simpa using hz)
              show ∃ u, vs[i + 1 + j]? = some u ∧ _
              rw [show i + 1 + j = i + (j + 1) by omega]; exact this
            have ih := fun b h => eqL_spec fs (i + 1) l xs ys us vs b w d hl hxs hys h
            have hp1 : (part f.type us f.offset).run P w = .ok u w := by simp [part, hagg, hoff, hu']
            have hp2 : (part f.type vs f.offset).run P w = .ok v w := by simp [part, hagg, hoff, hv']
            have fin : ∀ (p t : Bool), (Op.equalIn (d + 1) f.type u v).run P w = .ok p w → eqL l xs ys = some t → b = (p && t) → (Op.eqFields (d + 1) us vs (f :: fs)).run P w = .ok b w := fun p t he ht hb => by
              have ih' := ih t ht
              simp only [Op.eqFields]
              simp only [ne_eq, hn, not_false_eq_true, if_true]
              simp [hp1, hp2, he]
              cases p <;> simp [hb, ih']
            cases kb with
            | false =>
              obtain ⟨k0, rfl⟩ : ∃ k, dsc = .int k := by rcases hkind with ⟨_, h⟩ | ⟨h, _⟩ <;> first | exact h | cases h
              cases x <;> cases y <;> simp only [eqL] at h <;> first | (cases h; done) | skip
              rename_i k p k' q
              split at h
              · rename_i hk
                subst hk
                simp only [Option.map_eq_some_iff] at h
                obtain ⟨t, ht, rfl⟩ := h
                simp only [RR_int] at hxu hyv
                subst hxu; subst hyv
                exact fin _ t (run_equalIn_int w d f.type k k0 p q hd) ht rfl
              · cases h
            | true =>
              obtain rfl : dsc = .bool := by rcases hkind with ⟨h, _⟩ | ⟨_, h⟩ <;> first | exact h | cases h
              cases x <;> cases y <;> simp only [eqL] at h <;> first | (cases h; done) | skip
              rename_i p q
              simp only [Option.map_eq_some_iff] at h
              obtain ⟨t, ht, rfl⟩ := h
              simp only [RR_bool] at hxu hyv
              subst hxu; subst hyv
              exact fin _ t (run_equalIn_bool w d f.type p q hd) ht rfl
      · cases hlf
    · cases hlf
theorem snd_eqs {op : BinOp} {t : TypeId} {fs : Array Field} {ks : List Bool} {x y : AV} {u v : Value} {r : AV} (ht : P.underlying t = some (.struct fs)) (hl : leaves P fs.toList 0 = some ks) (hst : P.stoodInHeld t = false) (hop : op = .eql ∨ op = .neq) (hx : RR c x u) (hy : RR c y v) (h : eqsV (op == .neq) ks x y = some r) :
    ∃ xs ys val, u = .agg xs ∧ v = .agg ys ∧ (binOp op t u v).run P c.w = .ok val c.w ∧ RR c r val := by
  unfold eqsV at h
  split at h
  · simp only [Option.map_eq_some_iff] at h
    obtain ⟨b, hb, rfl⟩ := h
    obtain ⟨xs, rfl, _, h1⟩ := RR_agg.1 hx
    obtain ⟨ys, rfl, _, h2⟩ := RR_agg.1 hy
    have hf : P.fieldsOf t = fs := by simp [Program.fieldsOf, ht]
    have he : (Op.equalIn 10000 t (.agg xs) (.agg ys)).run P c.w = .ok b c.w := by
      rw [run_equalIn_agg c.w 9999 t xs ys (by rw [hf]; exact ht) hst, hf]
      exact eqL_spec (d := 9998) fs.toList 0 ks _ _ xs ys b c.w hl (h1.imp (fun _ _ h => h) fun j u hj => by simpa using hj) (h2.imp (fun _ _ h => h) fun j u hj => by simpa using hj) hb
    rcases hop with rfl | rfl
    · exact ⟨xs, ys, .bool b, rfl, rfl, by rw [run_eql_struct, he]; rfl, RR_bool.2 (by simp)⟩
    · exact ⟨xs, ys, .bool !b, rfl, rfl, by rw [run_neq_struct, he]; rfl, RR_bool.2 (by simp)⟩
  · cases h
theorem snd_conv {s d : TypeId} {ds : TypeDesc} {k : IntKind} {x : AV} {u : Value} {r : AV} (hs : P.underlying s = some ds) (hd : P.underlying d = some (.int k)) (hx : RR c x u) (h : convV k x = some r) : ∃ val, (convert s d u).run P c.w = .ok val c.w ∧ RR c r val := by
  unfold convV at h
  split at h
  · simp only [RR_int] at hx
    subst hx
    cases h
    exact ⟨_, by simp [convert, run_underlying hs, run_underlying hd, Conv.intToInt], RR_int.2 rfl⟩
  · cases h
end
end Go.Am
