/-
  The abstract machine's operations stand for the model's: literals, fields, indexes, comparisons. No program in sight.
-/
import Derived.Test.YtggkpagngnnjjaaAmSndC
import Derived.Laws.Tables
import Derived.Laws.StructEq
import Derived.Laws.Pointers
import Derived.Great.BuildSlice
set_option linter.unusedSimpArgs false
set_option linter.unusedVariables false
namespace Go.Am
section
variable {P : Program} {c : Cx} {G : Gl} {fr : List AV} {a : Act}
theorem flatten_rep {z : List AV} {s : Nat} (hz : z.length = s) : ∀ (n j : Nat) (x : AV), (List.replicate n z).flatten[j]? = some x → j < n * s ∧ z[j % s]? = some x
  | 0, j, x, h => by simp at h
  | n + 1, j, x, h => by
    rw [List.replicate_succ, List.flatten_cons] at h
    rcases Nat.lt_or_ge j s with hj | hj
    · rw [List.getElem?_append_left (by omega)] at h
      rw [Nat.mod_eq_of_lt hj]
      exact ⟨by rw [Nat.succ_mul]; omega, h⟩
    · rw [List.getElem?_append_right (by omega), hz] at h
      obtain ⟨h1, h2⟩ := flatten_rep hz n (j - s) x h
      refine ⟨by rw [Nat.succ_mul]; omega, ?_⟩
      rw [Nat.mod_eq_sub_mod hj]; exact h2
theorem rep_rc1 {z : List AV} {s n : Nat} {zv : Array Value} (hz : z.length = s) (hs : zv.size = s) (h : RC1 (RR c) z fun j => zv[j]?) :
    RC1 (RR c) (List.replicate n z).flatten fun j => ((Array.range (n * s)).map fun i => zv[i % zv.size]!)[j]? := fun j x hx => by
  obtain ⟨h1, h2⟩ := flatten_rep hz n j x hx
  obtain ⟨u, hu, hr⟩ := h _ x h2
  have hu' : zv[j % s]? = some u := hu
  refine ⟨u, ?_, hr⟩
  have hlt : j % s < zv.size := by
    rcases Nat.lt_or_ge (j % s) zv.size with h | h
    · exact h
    · rw [Array.getElem?_eq_none h] at hu'; cases hu'
  have : zv[j % s]! = u := by rw [getElem!_pos zv _ hlt]; rw [Array.getElem?_eq_getElem hlt] at hu'; exact Option.some.inj hu'
  simp [h1, hs, this]
theorem flatten_len {z : List AV} {s : Nat} (hz : z.length = s) (n : Nat) : (List.replicate n z).flatten.length = n * s := by
  induction n with
  | zero => simp
  | succ n ih => rw [List.replicate_succ, List.flatten_cons, List.length_append, ih, hz, Nat.succ_mul]; omega
theorem foldl_over (vs : List Value) (cs : Array Value) (o k : Nat) : (vs.zipIdx k).foldl (fun (cs : Array Value) (p : Value × Nat) => cs.setIfInBounds (o + p.2) p.1) cs = overA cs (o + k) vs := by
  induction vs generalizing cs k with
  | nil => rfl
  | cons v vs ih => rw [List.zipIdx_cons, List.foldl_cons, ih, overA]; rfl
theorem fill_rel {place : Nat → Option (Nat × Nat)} : ∀ (l : List (Nat × Operand)) (ps : List (Nat × Nat × AX)) (vs : List (Nat × Nat × AV)) (z z' : List AV) (arr : Array Value), FR c fr a.tmps → RelG G c → cparts place l = some ps → partsV (ax G fr) ps = some vs → fillL z vs = some z' →
    arr.size = z.length → RC1 (RR c) z (fun j => arr[j]?) → ∃ arr', Instr.fill place arr (l.map fun p => (p.1, a.eval p.2)) = some arr' ∧ arr'.size = z'.length ∧ RC1 (RR c) z' fun j => arr'[j]?
  | [], ps, vs, z, z', arr, hF, hG, hc, hv, hf, hs, hr => by
    cases hc; cases hv; cases hf
    exact ⟨arr, rfl, hs, hr⟩
  | (i, x) :: l, ps, vs, z, z', arr, hF, hG, hc, hv, hf, hs, hr => by
    simp only [cparts] at hc
    split at hc
    · rename_i o s y ps' hpl hx hps
      cases hc
      simp only [partsV] at hv
      split at hv
      · rename_i v vs' hy hvs
        cases hv
        simp only [fillL] at hf
        split at hf
        · rename_i hcond
          obtain ⟨h1, h2⟩ := cells_rc1 (cox_rr hF hG hx hy) hcond.1
          have h3 := overA_rcs v.cells (a.eval x).cells.toList 0 o z arr (by simp [h1]) (h2.imp (fun _ _ h => h) fun j u hj => by simpa using hj) (hr.imp (fun _ _ h => h) fun j u hj => by simpa using hj)
          obtain ⟨arr', h4, h5, h6⟩ := fill_rel l ps' vs' (over z o v.cells) z' (overA arr o (a.eval x).cells.toList) hF hG hps hvs hf (by rw [overA_size, over_length, hs]) (h3.imp (fun _ _ h => h) fun j u hj => by simpa using hj)
          refine ⟨arr', ?_, h5, h6⟩
          simp only [List.map_cons, Instr.fill, hpl]
          have hb : ((a.eval x).cells.size ≠ s || o + (a.eval x).cells.size > arr.size) = false := by
            simp [h1, hcond.2.1, hs]; omega
          rw [if_neg (by rw [hb]; simp)]
          have hfold := foldl_over (a.eval x).cells.toList arr o 0
          rw [← Array.foldl_toList, Array.toList_zipIdx]
          have : (List.foldl (fun cs (x : Value × Nat) => match x with | (c, j) => cs.setIfInBounds (o + j) c) arr ((a.eval x).cells.toList.zipIdx 0)) = overA arr o (a.eval x).cells.toList := hfold
          rw [this]
          exact h4
        · cases hf
      · cases hv
    · cases hc
theorem snd_build {o : Oper} {t : TypeId} {ps : Array (Nat × Operand)} {y : AOp} {id : Nat} {v : AV} {up : Up} {rd : List Nat} (hF : FR c fr a.tmps) (hG : RelG G c) (hR : Rel P c) (ho : o.op = .build t ps) (hc : cop P (.build t ps) = some y)
    (hv : evalA (ax G fr) c.at_ id y = some (v, up, rd)) : Done P c ((execOp a.eval o).run P c.w) v up [] ∧ up = [] := by
  have fin : ∀ (place : Nat → Option (Nat × Nat)) (l : List (Nat × Nat × AX)) (z : List AV), zeroOf P t = some z → cparts place ps.toList = some l → evalA (ax G fr) c.at_ id (.build z l) = some (v, up, rd) →
      (∀ zv cells, (∃ i, P.info? t = some i ∧ i.zero = some zv) → Instr.fill place zv.cells ((ps.map fun (i, x) => (i, a.eval x)).toList) = some cells → P.built t (ps.map fun (i, x) => (i, a.eval x)).toList = some cells) →
      Done P c ((execOp a.eval o).run P c.w) v up [] ∧ up = [] := fun place l z hz hl hv hb => by
    simp only [evalA] at hv
    split at hv
    · rename_i vs hvs
      obtain ⟨h1, rfl, rfl⟩ := pureR_some hv
      simp only [Option.map_eq_some_iff] at h1
      obtain ⟨z', hz', rfl⟩ := h1
      unfold zeroOf at hz
      simp only [Option.bind_eq_some_iff] at hz
      obtain ⟨zv, ⟨i, hi, hiz⟩, hm⟩ := hz
      obtain ⟨m1, m2⟩ := mapM_some hm
      obtain ⟨arr', h2, h3, h4⟩ := fill_rel (c := c) (a := a) ps.toList l vs z z' zv.cells hF hG hl hvs hz' (by simpa using m1.symm) fun j y hy => by
        obtain ⟨u, hu, hfu⟩ := m2 j y hy
        exact ⟨u, by simpa using hu, ofL_rr hfu, ofL_one hfu⟩
      have hlist : (ps.map fun (x : Nat × Operand) => (x.1, a.eval x.2)).toList = ps.toList.map fun p => (p.1, a.eval p.2) := by simp
      refine ⟨Done.pure hR ?_ (RR_agg.2 ⟨arr', rfl, h3, h4⟩), rfl⟩
      have := run_build (P := P) c.w t (ps.map fun (i, x) => (i, a.eval x)) arr' (hb zv arr' ⟨i, hi, hiz⟩ (by rw [hlist]; exact h2))
      simp [execOp, ho, this]
    · cases hv
  simp only [cop] at hc
  split at hc
  · rename_i fs z hu hz
    split at hc
    · rename_i pl hpl
      simp only [Option.map_eq_some_iff] at hc
      obtain ⟨l, hl, rfl⟩ := hc
      exact fin _ l z hz hl hv fun zv cells ⟨i, hi, hiz⟩ hf => by simpa [Program.built, hi, hu, hiz, hpl] using hf
    · cases hc
  · rename_i n e z hu hz
    simp only [Option.bind_eq_some_iff, Option.map_eq_some_iff] at hc
    obtain ⟨s, hs, l, hl, rfl⟩ := hc
    unfold szOf at hs
    simp only [Option.map_eq_some_iff] at hs
    obtain ⟨ie, hie, rfl⟩ := hs
    exact fin _ l z hz hl hv fun zv cells ⟨i, hi, hiz⟩ hf => by simpa [Program.built, hi, hu, hiz, hie] using hf
  · cases hc
theorem snd_bslice {o : Oper} {t e : TypeId} {n s id : Nat} {ps : Array (Nat × Operand)} {l : List (Nat × Nat × AX)} {z : List AV} {v : AV} {up : Up} {rd : List Nat} (hF : FR c fr a.tmps) (hG : RelG G c) (hR : Rel P c) (hid : ¬ c.U id) (ho : o.op = .buildSlice t n ps)
    (hu : P.underlying t = some (.slice e)) (hs : szOf P e = some s) (hz : zeroOf P e = some z) (h24 : n * s ≤ 2 ^ 24) (hzl : z.length = s) (hm : n ≤ maxLen) (hl : cparts (fun i => some (i * s, s)) ps.toList = some l)
    (hv : evalA (ax G fr) c.at_ id (.bslice s n (List.replicate n z).flatten l) = some (v, up, rd)) : Done P c ((execOp a.eval o).run P c.w) v up [id] := by
  simp only [evalA] at hv
  split at hv
  · rename_i vs hvs
    split at hv
    · rename_i cs hcs
      cases hv
      obtain ⟨zv, h1, h2, h3⟩ := zeroOf_spec (c := c) hz c.w
      unfold szOf at hs
      simp only [Option.map_eq_some_iff] at hs
      obtain ⟨ie, hie, hs⟩ := hs
      obtain ⟨arr', h4, h5, h6⟩ := fill_rel (c := c) (a := a) ps.toList l vs (List.replicate n z).flatten cs ((Array.range (n * s)).map fun i => zv.cells[i % zv.cells.size]!) hF hG hl hvs hcs (by simp [flatten_len hzl]) (rep_rc1 hzl (by rw [h2, hzl]) h3)
      have hlist : (ps.map fun (x : Nat × Operand) => (x.1, a.eval x.2)).toList = ps.toList.map fun p => (p.1, a.eval p.2) := by simp
      have hal : cs.length = n * s := by
        have : ∀ (vs : List (Nat × Nat × AV)) (z z' : List AV), fillL z vs = some z' → z'.length = z.length := by
          intro vs
          induction vs with
          | nil => intro z z' h; cases h; rfl
          | cons p vs ih =>
            intro z z' h
            obtain ⟨o, s, v⟩ := p
            simp only [fillL] at h
            split at h
            · rw [ih _ _ h, over_length]
            · cases h
        rw [this _ _ _ hcs, flatten_len hzl]
      refine done_new (T := e) hR hid h6 ?_ (rr_sl_new (Nat.le_refl _) hm (by rw [h5, hal]; omega))
      by_cases h0 : n * s = 0
      · have h4' : Instr.fill (fun i => some (i * s, s)) #[] ((ps.map fun (x : Nat × Operand) => (x.1, a.eval x.2)).toList) = some arr' := by
          rw [hlist]
          have : (Array.range (n * s)).map (fun i => zv.cells[i % zv.cells.size]!) = #[] := by rw [h0]; simp
          rw [this] at h4; exact h4
        have hcell : (Instr.buildSlice t n (ps.map fun (i, x) => (i, a.eval x))).run P c.w = .ok (.slice (some ⟨c.w.heap.size, 0, none⟩) n n) (c.w.alloc (.cells arr' e)) := by
          have h4'' : Instr.fill (fun i => some (i * s, s)) #[] (ps.map fun (i, x) => (i, a.eval x)).toList = some arr' := h4'
          generalize (ps.map fun (i, x) => (i, a.eval x)) = qs at h4'' ⊢
          simp only [Instr.buildSlice, run_underlying hu, sizeOf, typeInfo, Sem.run_bind, Result.andThen_ok, run_program, hie, Sem.run_pure, hs, h0, if_true, Nat.not_lt_zero, if_false, gt_iff_lt]
          simp [newRow, newObj, Sem.run]
          rw [show Array.map (fun x => (default : Value)) (Array.range 0) = #[] from Array.eq_empty_of_size_eq_zero (by simp), h4'']
          simp [Sem.run]
        simp [execOp, ho, hcell]
      · have h4' := h4
        rw [← hlist] at h4'
        have hcell : (Instr.buildSlice t n (ps.map fun (i, x) => (i, a.eval x))).run P c.w = .ok (.slice (some ⟨c.w.heap.size, 0, none⟩) n n) (c.w.alloc (.cells arr' e)) := by
          obtain ⟨zv', hzi⟩ : ∃ zv', ie.zero = some zv' := by
            unfold zeroOf at hz
            rw [hie] at hz
            cases hq : ie.zero with
            | none => simp [hq] at hz
            | some q => exact ⟨q, rfl⟩
          have hzz : zv = zv' := by
            have : (zeroValue e).run P c.w = .ok zv' c.w := by simp [zeroValue, typeInfo, hie, hzi]
            rw [h1] at this; cases this; rfl
          subst hzz
          exact run_buildSlice (P := P) c.w t e n _ arr' ie zv hu hie hzi (by rw [hs]; omega) (by rw [hs]; exact h0) (by rw [hs]; exact h4')
        simp [execOp, ho, hcell]
    · cases hv
  · cases hv
end
end Go.Am
