/-
  The abstract machine's operations stand for the model's: places, indexes, slices. No program in sight.
-/
import Derived.Test.YtggkpagngnnjjaaAmSndE
set_option linter.unusedSimpArgs false
set_option linter.unusedVariables false
namespace Go.Am
section
variable {P : Program} {c : Cx} {G : Gl} {fr : List AV} {a : Act}
theorem RC1.drop {xs : List AV} {b q : Nat} (h : RC1 (RR c) xs fun j => c.w.cell? ⟨b, q + j, none⟩) (o : Nat) : RC1 (RR c) (xs.drop o) fun j => c.w.cell? ⟨b, q + o + j, none⟩ :=
  (RCs.drop h o).imp (fun _ _ h => h) fun j u hj => by rw [Nat.add_assoc]; exact hj
theorem snd_faddr {s : TypeId} {fs : Array Field} {f : Field} {i n : Nat} {x : AV} {u : Value} {r : AV} (hs : P.underlying s = some (.struct fs)) (hf : fs[i]? = some f) (hn : szOf P f.type = some n) (hn0 : n ≠ 0) (hx : RR c x u) (h : faddrV f.offset x = some r) :
    ∃ val, (Instr.fieldAt s u i).run P c.w = .ok val c.w ∧ RR c r val := by
  have hsz := szOf_spec hn c.w
  unfold faddrV at h
  split at h
  · cases h
    obtain ⟨h1, rfl⟩ := RR_ptr.1 hx
    exact ⟨.pointer (some ⟨_, _, none⟩), by simp [Instr.fieldAt, run_underlying hs, hf, Instr.sureAddr, fieldPlace, hsz, hn0, add_addr]; exact ⟨rfl, rfl⟩, RR_ptr.2 ⟨h1, by rw [← Nat.add_assoc]⟩⟩
  · cases h
    obtain ⟨b, q, rfl, h2, h3⟩ := RR_iptr.1 hx
    exact ⟨_, by simp [Instr.fieldAt, run_underlying hs, hf, Instr.sureAddr, fieldPlace, hsz, hn0, add_addr], RR_iptr.2 ⟨b, _, rfl, h2, h3.drop _⟩⟩
  · cases h
theorem snd_fld {s : TypeId} {fs : Array Field} {f : Field} {i n : Nat} {ag : Bool} {x : AV} {u : Value} {r : AV} (hs : P.underlying s = some (.struct fs)) (hf : fs[i]? = some f) (hn : szOf P f.type = some n) (hb : aggOf P f.type = some ag) (hx : RR c x u) (h : fldV ag f.offset n x = some r) :
    ∃ val, (Instr.field s u i).run P c.w = .ok val c.w ∧ RR c r val := by
  unfold fldV at h
  split at h
  · obtain ⟨vs, rfl, h1, h2⟩ := RR_agg.1 hx
    obtain ⟨val, h3, h4, _⟩ := part_of c.w hb hn h1 h2 h
    exact ⟨val, by simp [Instr.field, run_underlying hs, hf, asAgg, h3], h4⟩
  · cases h
theorem snd_iaddrA {t e : TypeId} {n s : Nat} {x y : AV} {u v : Value} {r : AV} (ht : P.underlying t = some (.array n e)) (hs : szOf P e = some s) (hx : RR c x u) (hy : RR c y v) (h : iaddrAV n s x y = some r) :
    ∃ val, (Instr.indexAt t u v).run P c.w = .ok val c.w ∧ RR c r val := by
  have hsz := szOf_spec hs c.w
  unfold iaddrAV at h
  split at h
  · split at h
    · rename_i hc
      cases h
      obtain ⟨h1, rfl⟩ := RR_ptr.1 hx
      simp only [RR_int] at hy
      subst hy
      exact ⟨.pointer (some ⟨_, _, none⟩), by simp [Instr.indexAt, run_underlying ht, asIntOf, Instr.sureAddr, hc, hsz, add_addr]; exact ⟨rfl, rfl⟩, RR_ptr.2 ⟨h1, by rw [← Nat.add_assoc]⟩⟩
    · cases h
  · split at h
    · rename_i hc
      cases h
      obtain ⟨b, q, rfl, h2, h3⟩ := RR_iptr.1 hx
      simp only [RR_int] at hy
      subst hy
      exact ⟨_, by simp [Instr.indexAt, run_underlying ht, asIntOf, Instr.sureAddr, hc, hsz, add_addr], RR_iptr.2 ⟨b, _, rfl, h2, h3.drop _⟩⟩
    · cases h
  · cases h
theorem snd_iaddrS {t e : TypeId} {s : Nat} {x y : AV} {u v : Value} {r : AV} (ht : P.underlying t = some (.slice e)) (hs : szOf P e = some s) (hx : RR c x u) (hy : RR c y v) (h : iaddrSV s x y = some r) :
    ∃ val, (Instr.indexAt t u v).run P c.w = .ok val c.w ∧ RR c r val := by
  have hsz := szOf_spec hs c.w
  unfold iaddrSV at h
  split at h
  · split at h
    · rename_i hc
      cases h
      obtain ⟨h1, _, cap, rfl, _⟩ := RR_sl.1 hx
      simp only [RR_int] at hy
      subst hy
      obtain ⟨rfl, hc1, hc2⟩ := hc
      exact ⟨.pointer (some ⟨_, _, none⟩), by simp [Instr.indexAt, run_underlying ht, asIntOf, hc1, hc2, hsz, add_addr]; exact ⟨rfl, rfl⟩, RR_ptr.2 ⟨h1, by rw [← Nat.add_assoc]⟩⟩
    · cases h
  · split at h
    · rename_i els k n hc
      simp only [Option.bind_eq_some_iff] at h
      obtain ⟨el, hel, h⟩ := h
      split at h
      · rename_i hl
        cases h
        obtain ⟨A, cap, rfl, h2, h3, h4⟩ := RR_isl.1 hx
        simp only [RR_int] at hy
        subst hy
        obtain ⟨b, off, sz, rfl, h5, h6⟩ := h4 (by intro e; rw [e] at hel; simp at hel)
        obtain ⟨h7, h8⟩ := h6 _ el hel
        have hlt : n < (els.length : Int) := by
          have := (List.getElem?_eq_some_iff.1 hel).1; omega
        have : sz = s := by omega
        subst this
        exact ⟨_, by simp [Instr.indexAt, run_underlying ht, asIntOf, hc, hlt, hsz, add_addr], RR_iptr.2 ⟨b, _, rfl, h5, h8⟩⟩
      · cases h
    · cases h
  · cases h
theorem snd_idx {t e : TypeId} {n s : Nat} {ag : Bool} {x y : AV} {u v : Value} {r : AV} (ht : P.underlying t = some (.array n e)) (hs : szOf P e = some s) (hb : aggOf P e = some ag) (hx : RR c x u) (hy : RR c y v) (h : idxV ag n s x y = some r) :
    ∃ val, (Instr.index t u v).run P c.w = .ok val c.w ∧ RR c r val := by
  have hsz := szOf_spec hs c.w
  unfold idxV at h
  split at h
  · split at h
    · rename_i hc
      obtain ⟨vs, rfl, h1, h2⟩ := RR_agg.1 hx
      simp only [RR_int] at hy
      subst hy
      obtain ⟨val, h3, h4, _⟩ := part_of c.w hb hs h1 h2 h
      exact ⟨val, by simp [Instr.index, run_underlying ht, asIntOf, hc, hsz, h3], h4⟩
    · cases h
  · cases h
theorem bnd_spec {o : Option AV} {w : Option Value} {b : Option Nat} (h : bndV o = some b) (hr : (o = none ∧ w = none) ∨ ∃ x v, o = some x ∧ w = some v ∧ RR c x v) : (b = none ∧ w = none) ∨ ∃ k n, b = some n ∧ w = some (.int k n) := by
  rcases hr with ⟨rfl, rfl⟩ | ⟨x, v, rfl, rfl, hx⟩
  · cases h; exact .inl ⟨rfl, rfl⟩
  · cases x <;> simp only [bndV] at h <;> first | (cases h; done) | skip
    split at h
    · rename_i hn
      cases h
      simp only [RR_int] at hx
      subst hx
      exact .inr ⟨_, _, rfl, by rw [Int.toNat_of_nonneg hn]⟩
    · cases h
theorem run_bound {k : IntKind} {n y : Nat} {code : BoundsCode} (h : n ≤ y) (w : World) : (Instr.sliceBound (.int k n) y code).run P w = .ok n w := by
  have : ((n : Int) ≤ (y : Int)) := by omega
  simp [Instr.sliceBound, asIntOf, this]
theorem run_bounds {b : Bool} {len cap : Nat} {lo hi mx : Option Nat} {vl vh vm : Option Value} (hl : (lo = none ∧ vl = none) ∨ ∃ k n, lo = some n ∧ vl = some (.int k n)) (hh : (hi = none ∧ vh = none) ∨ ∃ k n, hi = some n ∧ vh = some (.int k n))
    (hm : (mx = none ∧ vm = none) ∨ ∃ k n, mx = some n ∧ vm = some (.int k n)) (h1 : lo.getD 0 ≤ hi.getD len) (h2 : hi.getD len ≤ mx.getD cap) (h3 : mx.getD cap ≤ cap) (h4 : mx.isSome = true → hi.isSome = true) (w : World) :
    (Instr.sliceBounds b len cap vl vh vm).run P w = .ok (lo.getD 0, hi.getD len, mx.getD cap) w := by
  rcases hl with ⟨rfl, rfl⟩ | ⟨k1, n1, rfl, rfl⟩ <;> rcases hh with ⟨rfl, rfl⟩ | ⟨k2, n2, rfl, rfl⟩ <;> rcases hm with ⟨rfl, rfl⟩ | ⟨k3, n3, rfl, rfl⟩ <;> simp at h1 h2 h3 h4 <;> simp [Instr.sliceBounds, run_bound, h1, h2, h3]
theorem snd_slS {t e : TypeId} {s : Nat} {x : AV} {u : Value} {lo hi mx : Option Nat} {vl vh vm : Option Value} {r : AV} (ht : P.underlying t = some (.slice e)) (hs : szOf P e = some s) (hx : RR c x u) (hl : (lo = none ∧ vl = none) ∨ ∃ k n, lo = some n ∧ vl = some (.int k n)) (hh : (hi = none ∧ vh = none) ∨ ∃ k n, hi = some n ∧ vh = some (.int k n))
    (hm : (mx = none ∧ vm = none) ∨ ∃ k n, mx = some n ∧ vm = some (.int k n)) (h4 : mx.isSome = true → hi.isSome = true) (h : slSV s x lo hi mx = some r) : ∃ val, (Instr.sliceAt t u vl vh vm).run P c.w = .ok val c.w ∧ RR c r val := by
  have hsz := szOf_spec hs c.w
  unfold slSV at h
  split at h
  · rename_i id off len cp sz'
    dsimp only at h
    split at h
    · rename_i hc
      obtain ⟨rfl, h1, h2, h3⟩ := hc
      obtain ⟨hu, hlt, cap, rfl, h5, h6, h7, h8⟩ := RR_sl.1 hx
      have hmc : mx.getD cap = mx.getD cp ∨ (mx = none) := by cases mx <;> simp
      have hb := run_bounds (P := P) (b := true) (len := len) (cap := cap) hl hh hm h1 (by cases mx <;> simp at h2 h3 ⊢ <;> omega) (by cases mx <;> simp at h2 h3 ⊢ <;> omega) h4 c.w
      have hrun : (Instr.sliceAt t (.slice (some ⟨(c.mu id).1, (c.mu id).2 + off, none⟩) len cap) vl vh vm).run P c.w = .ok (.slice (if mx.getD cap = lo.getD 0 then some ⟨(c.mu id).1, (c.mu id).2 + off, none⟩ else some ⟨(c.mu id).1, (c.mu id).2 + off + lo.getD 0 * s, none⟩) (hi.getD len - lo.getD 0) (mx.getD cap - lo.getD 0)) c.w := by
        simp [Instr.sliceAt, Instr.slice, run_underlying ht, hb, hsz, add_addr]
      refine ⟨_, hrun, ?_⟩
      split at h
      · rename_i hlm
        cases h
        have hne : mx.getD cap ≠ lo.getD 0 := by cases mx <;> simp at hlm h3 ⊢ <;> omega
        rw [if_neg hne]
        refine RR_sl.2 ⟨hu, hlt, _, by rw [Nat.add_assoc], by omega, ?_, by cases mx <;> simp at h3 ⊢ <;> omega, ?_⟩
        · cases mx <;> simp at h3 ⊢ <;> omega
        · have hle : mx.getD cap ≤ cap := by cases mx <;> simp at h3 ⊢ <;> omega
          have hlm' : lo.getD 0 ≤ mx.getD cap := by cases mx <;> simp at hlm h3 ⊢ <;> omega
          have : lo.getD 0 * s + (mx.getD cap - lo.getD 0) * s = mx.getD cap * s := by rw [← Nat.add_mul]; congr 1; omega
          have := Nat.mul_le_mul_right s hle
          omega
      · rename_i hlm
        have e1 : hi.getD len - lo.getD 0 = 0 := by omega
        split at h
        · rename_i hms
          cases h
          have : mx.getD cap = mx.getD cp := by cases mx <;> simp at hms ⊢
          have e2 : mx.getD cap - lo.getD 0 = 0 := by omega
          rw [e1, e2]
          exact RR_nils.2 ⟨_, rfl⟩
        · cases h
          rw [e1]
          exact RR_isl.2 ⟨_, _, rfl, Nat.zero_le _, by cases mx <;> simp at h3 ⊢ <;> omega, fun h => absurd rfl h⟩
    · cases h
  · rename_i els
    dsimp only at h
    split at h
    · rename_i hc
      obtain ⟨h1, h2, h3, hall⟩ := hc
      obtain ⟨A, cap, rfl, h5, h6, h7⟩ := RR_isl.1 hx
      have hb := run_bounds (P := P) (b := true) (len := els.length) (cap := cap) hl hh hm h1 (by cases mx <;> simp at h2 h3 ⊢ <;> omega) (by cases mx <;> simp at h2 h3 ⊢ <;> omega) h4 c.w
      have hrun : (Instr.sliceAt t (.slice A els.length cap) vl vh vm).run P c.w = .ok (.slice (if mx.getD cap = lo.getD 0 then A else A.map (·.add (lo.getD 0 * s))) (hi.getD els.length - lo.getD 0) (mx.getD cap - lo.getD 0)) c.w := by
        simp [Instr.sliceAt, Instr.slice, run_underlying ht, hb, hsz]
      refine ⟨_, hrun, ?_⟩
      split at h
      · rename_i hms
        cases h
        have : mx.getD cap = mx.getD els.length := by have := hms.1; cases mx <;> simp at this ⊢
        have e1 : hi.getD els.length - lo.getD 0 = 0 := by omega
        have e2 : mx.getD cap - lo.getD 0 = 0 := by omega
        rw [e1, e2]
        exact RR_nils.2 ⟨_, rfl⟩
      · cases h
        have hlen : ((els.take (hi.getD els.length)).drop (lo.getD 0)).length = hi.getD els.length - lo.getD 0 := by
          simp; omega
        refine RR_isl.2 ⟨_, _, by rw [hlen], by rw [hlen]; cases mx <;> simp at h2 h3 ⊢ <;> omega, by cases mx <;> simp at h3 ⊢ <;> omega, fun hne => ?_⟩
        have hpos : 0 < ((els.take (hi.getD els.length)).drop (lo.getD 0)).length := List.length_pos_iff.2 hne
        rw [hlen] at hpos
        obtain ⟨b, q, sz, rfl, h8, h9⟩ := h7 (by intro e; subst e; simp at h2 h3 hpos; cases hi <;> cases mx <;> simp at h2 h3 hpos <;> omega)
        have hne' : mx.getD cap ≠ lo.getD 0 := by cases mx <;> simp at h2 h3 ⊢ <;> omega
        have hoff : lo.getD 0 * s = lo.getD 0 * sz := by
          rcases hall with h0 | hall
          · rw [h0]; simp
          · have hlt : lo.getD 0 < els.length := by cases mx <;> simp at h2 h3 <;> omega
            have e1 := (h9 _ _ (List.getElem?_eq_getElem hlt)).1
            have e2 := List.all_eq_true.1 hall _ (List.getElem_mem hlt)
            simp at e2
            rw [← e1, e2]
        rw [if_neg hne']
        refine ⟨b, q + lo.getD 0 * s, sz, by simp [add_addr], h8, fun k el hk => ?_⟩
        rw [List.getElem?_drop, List.getElem?_take] at hk
        split at hk
        · obtain ⟨h10, h11⟩ := h9 _ el hk
          refine ⟨h10, h11.imp (fun _ _ h => h) fun j u hj => ?_⟩
          rw [hoff, show q + lo.getD 0 * sz + k * sz + j = q + (lo.getD 0 + k) * sz + j by rw [Nat.add_mul]; omega]
          exact hj
        · cases hk
    · cases h
  · split at h
    · rename_i hc
      cases h
      obtain ⟨A, rfl⟩ := RR_nils.1 hx
      have hb := run_bounds (P := P) (b := true) (len := 0) (cap := 0) hl hh hm (by omega) (by omega) (by omega) h4 c.w
      rw [hc.1, hc.2.1, hc.2.2] at hb
      exact ⟨.slice A 0 0, by simp [Instr.sliceAt, Instr.slice, run_underlying ht, hb, hsz], RR_nils.2 ⟨_, rfl⟩⟩
    · cases h
  · cases h
end
end Go.Am
