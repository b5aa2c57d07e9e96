/-
  The abstract machine's operations stand for the model's: all of them. No program in sight.
-/
import Derived.Test.YtggkpagngnnjjaaAmSndH
set_option linter.unusedSimpArgs false
set_option linter.unusedVariables false
namespace Go.Am
section
variable {P : Program} {c : Cx} {G : Gl} {fr : List AV} {a : Act}
theorem snd_slA {t e : TypeId} {n s : Nat} {x : AV} {u : Value} {lo hi : Option Nat} {vl vh : Option Value} {r : AV} {rd : List Nat} (hR : Rel P c) (ht : P.underlying t = some (.array n e)) (hs : szOf P e = some s) (hx : RR c x u) (hl : (lo = none ∧ vl = none) ∨ ∃ k n, lo = some n ∧ vl = some (.int k n))
    (hh : (hi = none ∧ vh = none) ∨ ∃ k n, hi = some n ∧ vh = some (.int k n)) (h : slAV c.at_ n s x lo hi = some (r, rd)) : ∃ val, (Instr.sliceAt t u vl vh none).run P c.w = .ok val c.w ∧ RR c r val := by
  have hsz := szOf_spec hs c.w
  unfold slAV at h
  split at h
  · rename_i id off
    split at h
    case h_2 => cases h
    rename_i cs hcs
    dsimp only at h
    split at h
    · rename_i hc
      obtain ⟨h1, h2, h3, hle, hpos⟩ := hc
      obtain ⟨hu, rfl⟩ := RR_ptr.1 hx
      obtain ⟨ar, T, hrow, hcells⟩ := hR.obj id _ (cellsAt_some hcs)
      have hsize : (c.mu id).2 + (off + n * s) ≤ ar.size := by
        obtain ⟨v, hv, _⟩ := hcells (off + n * s - 1) _ (List.getElem?_eq_getElem (by omega))
        have hv' : ar[(c.mu id).2 + (off + n * s - 1)]? = some v := hv
        have := (Array.getElem?_eq_some_iff.1 hv').1
        omega
      have hb := run_bounds (P := P) (b := false) (len := n) (cap := n) (mx := none) (vm := none) hl hh (.inl ⟨rfl, rfl⟩) h1 h2 (Nat.le_refl _) (by simp) c.w
      simp only [Option.getD_none] at hb
      have hrun : (Instr.sliceAt t (.pointer (some ⟨(c.mu id).1, (c.mu id).2 + off, none⟩)) vl vh none).run P c.w = .ok (.slice (some (if n = lo.getD 0 then ⟨(c.mu id).1, (c.mu id).2 + off, none⟩ else ⟨(c.mu id).1, (c.mu id).2 + off + lo.getD 0 * s, none⟩)) (hi.getD n - lo.getD 0) (n - lo.getD 0)) c.w := by
        simp [Instr.sliceAt, run_underlying ht, Instr.sureAddr, hb, hsz, add_addr]
      refine ⟨_, hrun, ?_⟩
      split at h
      · rename_i hlt
        cases h
        rw [if_neg (by omega)]
        refine RR_sl.2 ⟨hu, (hR.obj id _ (cellsAt_some hcs)).lt, _, by rw [Nat.add_assoc], by omega, Nat.le_refl _, by omega, ?_⟩
        simp only [csize, hrow]
        have : lo.getD 0 * s + (n - lo.getD 0) * s = n * s := by rw [← Nat.add_mul]; congr 1; omega
        omega
      · cases h
        have e1 : hi.getD n - lo.getD 0 = 0 := by omega
        have e2 : n - lo.getD 0 = 0 := by omega
        rw [e1, e2]
        exact RR_nils.2 ⟨_, rfl⟩
    · cases h
  · cases h
theorem snd_mks {t e : TypeId} {sz bytes id : Nat} {z : List AV} {x y : AV} {u v : Value} {r : AV} {up : Up} (hR : Rel P c) (hid : ¬ c.U id) (ht : P.underlying t = some (.slice e)) (hs : szOf P e = some sz) (hb : bytesOf P e = some bytes) (hz : zeroOf P e = some z) (hzl : z.length = sz) (hx : RR c x u) (hy : RR c y v)
    (h : mksV id sz bytes z x y = some (r, up)) : ∃ cs, up = [(id, some (.cells cs))] ∧ ∃ val vs, (Instr.makeSlice t u v).run P c.w = .ok val (c.w.alloc (.cells vs e)) ∧ RC1 (RR c) cs (fun j => vs[j]?) ∧ RR (c.mk' id (.cells cs) (.cells vs e)) r val := by
  unfold mksV at h
  split at h
  · rename_i l k
    split at h
    · rename_i hc
      obtain ⟨h1, h2, h3, h4⟩ := hc
      cases h
      simp only [RR_int] at hx hy
      subst hx; subst hy
      obtain ⟨zv, g1, g2, g3⟩ := zeroOf_spec (c := c) hz c.w
      unfold bytesOf at hb
      simp only [Option.map_eq_some_iff] at hb
      obtain ⟨i, hi, hb⟩ := hb
      unfold szOf at hs
      simp only [Option.map_eq_some_iff] at hs
      obtain ⟨i', hi', hs⟩ := hs
      rw [hi] at hi'
      cases hi'
      obtain ⟨zv', hzi⟩ : ∃ zv', i.zero = some zv' := by
        unfold zeroOf at hz
        rw [hi] at hz
        cases hq : i.zero with
        | none => simp [hq] at hz
        | some q => exact ⟨q, rfl⟩
      have hzz : zv = zv' := by
        have : (zeroValue e).run P c.w = .ok zv' c.w := by simp [zeroValue, typeInfo, hi, hzi]
        rw [g1] at this; cases this; rfl
      subst hzz
      have hrep := rep_rc1 (n := k.toNat) hzl (by rw [g2, hzl]) g3
      have hrun := run_make (P := P) c.w t e i zv ht hi hzi .i64 .i64 l k h1 h2 (by rw [hb]; omega) (by omega)
      rw [hs] at hrun
      refine ⟨_, rfl, _, _, hrun, hrep, ?_⟩
      refine RR_sl.2 ⟨.inr rfl, by simp [Cx.mk'], k.toNat, by simp [Cx.mk'], by omega, Nat.le_refl _, by unfold maxLen; omega, ?_⟩
      have : (madeCells zv.cells (k.toNat * sz)).size = k.toNat * sz := by simp [madeCells]
      simp [Cx.mk', csize_new, this]
    · cases h
  · cases h
theorem snd_mm {mx : Bool} : ∀ {l : List AV} {vs : List Value} {x : AV} {u r : _}, RR c x u → vs.length = l.length → RCs (RR c) l (fun j => vs[j]?) → mmV mx x l = some r → ∃ val, (vs.foldlM (if mx then Builtin.max2 else Builtin.min2) u).run P c.w = .ok val c.w ∧ RR c r val
  | [], [], x, u, r, hx, _, _, h => by cases h; exact ⟨u, by simp, hx⟩
  | [], _ :: _, _, _, _, _, hl, _, _ => by simp at hl
  | _ :: _, [], _, _, _, _, hl, _, _ => by simp at hl
  | y :: l, v :: vs, x, u, r, hx, hl, hr, h => by
    have hy : RR c y v := by obtain ⟨w, hw, hyw⟩ := hr 0 y rfl; simp at hw; subst hw; exact hyw
    have hrest : RCs (RR c) l fun j => vs[j]? := fun j z hz => by simpa using hr (j + 1) z (by simpa using hz)
    cases x <;> cases y <;> simp only [mmV] at h <;> first | (cases h; done) | skip
    rename_i k p k' q
    split at h
    · rename_i hk
      subst hk
      simp only [RR_int] at hx hy
      subst hx; subst hy
      obtain ⟨val, h1, h2⟩ := snd_mm (x := .int k (if mx then (if q > p then q else p) else (if q < p then q else p))) (u := .int k (if mx then (if q > p then q else p) else (if q < p then q else p))) (RR_int.2 rfl) (by simpa using hl) hrest h
      refine ⟨val, ?_, h2⟩
      cases mx <;> simpa [List.foldlM_cons, Builtin.max2, Builtin.min2] using h1
    · cases h
theorem snd_clear {t e : TypeId} {ty : TypeId} {z : List AV} {x : AV} {u : Value} {up : Up} {rd : List Nat} (hR : Rel P c) (ht : P.underlying t = some (.slice e)) (hz : zeroOf P e = some z) (h0 : 0 < z.length) (hx : RR c x u) (h : clearV c.at_ z x = some (up, rd)) :
    ∃ c', (Builtin.clear_ #[t] ty #[u]).run P c.w = .ok (.tuple #[]) c'.w ∧ Rel P c' ∧ Ext c c' ∧ c'.at_ = upd c.at_ up ∧ (∀ i, c'.U i ↔ c.U i) := by
  unfold clearV at h
  split at h
  · cases h
    obtain ⟨A, rfl⟩ := RR_nils.1 hx
    exact ⟨c, by cases A <;> simp [Builtin.clear_, run_underlying ht], hR, Ext.refl c, rfl, fun _ => Iff.rfl⟩
  · rename_i id off len cp sz
    split at h
    · rename_i cs hcs
      split at h
      · rename_i hc
        obtain ⟨hsz, hle⟩ := hc
        cases h
        have hd := cellsAt_some hcs
        obtain ⟨hu, hlt, cap, rfl, g1, g2, g3, g4⟩ := RR_sl.1 hx
        rcases Nat.eq_zero_or_pos len with hl0 | hl0
        · subst hl0
          have hover : over cs off (List.replicate 0 z).flatten = cs := by simp [over]
          refine ⟨c.wr id (over cs off (List.replicate 0 z).flatten) c.w, by simp [Builtin.clear_, run_underlying ht, Cx.wr], ?_, ?_, rfl, fun _ => Iff.rfl⟩
          · rw [hover]
            exact rel_wr hR hd (fun _ _ => rfl) rfl rfl ⟨rfl, rfl, rfl⟩ ((hR.obj id _ hd).ext (ext_wr hR hd (fun _ _ => rfl) rfl rfl ⟨rfl, rfl, rfl⟩) rfl)
          · exact ext_wr hR hd (fun _ _ => rfl) rfl rfl ⟨rfl, rfl, rfl⟩
        · obtain ⟨zv, z1, z2, z3⟩ := zeroOf_spec (c := c) hz c.w
          have hrep := rep_rc1 (n := len) rfl z2 z3
          obtain ⟨news, n1, n2, n3⟩ := hrep.list
          have hcap : len * sz ≤ cap * sz := Nat.mul_le_mul_right _ (by omega)
          have hfl := flatten_len (z := z) rfl len
          obtain ⟨w', ar, T, k1, k2, k3, k4, k5, k6, k7, k8, k9⟩ := write_row (off := off) hR hd n1 n3 (by rw [n1, hfl, ← hsz]; omega)
          have he := ext_wr (cs := over cs off (List.replicate len z).flatten) hR hd k5 k6 k7 k9
          have hnews : (Builtin.zeroCells zv.cells len).toList = news := by
            apply List.ext_getElem?
            intro j
            cases hj : news[j]? with
            | some v =>
              have e : Builtin.zeroCells zv.cells len = (Array.range (len * z.length)).map fun i => zv.cells[i % zv.cells.size]! := by simp only [Builtin.zeroCells, z2]
              rw [Array.getElem?_toList, e]; exact n2 j v hj
            | none =>
              rw [List.getElem?_eq_none]
              have := List.getElem?_eq_none_iff.1 hj
              simp only [Array.length_toList, size_zeroCells, z2]
              rw [n1, hfl] at this; exact this
          refine ⟨c.wr id (over cs off (List.replicate len z).flatten) w', ?_, rel_wr hR hd k5 k6 k7 k9 ⟨_, T, k4, RC1.ext he ?_⟩, he, rfl, fun _ => Iff.rfl⟩
          · obtain ⟨len', rfl⟩ : ∃ q, len = q + 1 := ⟨len - 1, by omega⟩
            simp [Builtin.clear_, run_underlying ht, z1, hnews, k1, Cx.wr]
          · exact overA_rcs _ news (c.mu id).2 off cs ar n1 n3 k3
      · cases h
    · cases h
  · cases h
    obtain ⟨A, cap, rfl, _⟩ := RR_isl.1 hx
    exact ⟨c, by cases A <;> simp [Builtin.clear_, run_underlying ht], hR, Ext.refl c, rfl, fun _ => Iff.rfl⟩
  · cases h
end
end Go.Am
