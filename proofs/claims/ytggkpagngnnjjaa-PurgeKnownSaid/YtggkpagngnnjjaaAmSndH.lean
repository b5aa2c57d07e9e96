/-
  The abstract machine's operations stand for the model's: append. No program in sight.
-/
import Derived.Test.YtggkpagngnnjjaaAmSndG
set_option linter.unusedSimpArgs false
set_option linter.unusedVariables false
namespace Go.Am
section
variable {P : Program} {c : Cx} {G : Gl} {fr : List AV} {a : Act}
theorem overA_at : ∀ (vs : List Value) (o : Nat) (a : Array Value) (k : Nat), o + vs.length ≤ a.size → (overA a o vs)[k]? = if o ≤ k ∧ k < o + vs.length then vs[k - o]? else a[k]?
  | [], o, a, k, _ => by rw [overA, if_neg (by simp)]
  | v :: vs, o, a, k, h => by
    simp only [List.length_cons] at h
    rw [overA, overA_at vs (o + 1) (a.setIfInBounds o v) k (by simp; omega)]
    simp only [List.length_cons]
    by_cases h1 : o + 1 ≤ k ∧ k < o + 1 + vs.length
    · rw [if_pos h1, if_pos (by omega), show k - o = (k - (o + 1)) + 1 by omega, List.getElem?_cons_succ]
    · rw [if_neg h1]
      by_cases h2 : o = k
      · subst h2
        rw [if_pos (by omega)]
        simp [show o < a.size by omega]
      · rw [if_neg (by omega), Array.getElem?_setIfInBounds_ne h2]
theorem run_append_in {t ty e : TypeId} {i : TypeInfo} {n m cap cap2 sz : Nat} {b : Addr} {A : Option Addr} {news : List Value} {w w' : World} (ht : P.underlying t = some (.slice e)) (hi : P.info? e = some i) (hsz : i.size = sz) (hroom : n + m ≤ cap)
    (hfc : (Builtin.firstCells sz m (.slice A m cap2)).run P w = .ok news.toArray w) (hst : (storeCells (b.add (n * sz)) news).run P w = .ok () w') :
    (Builtin.append_ #[t, t] ty #[.slice (some b) n cap, .slice A m cap2]).run P w = .ok (.slice (some b) (n + m) cap) w' := by
  subst hsz
  simp [Builtin.append_, run_underlying ht, sizeOf, typeInfo, hi, Builtin.lenOf, hroom, hfc, hst]
theorem snd_append {t ty e : TypeId} {sz bytes id : Nat} {s x : AV} {u v : Value} {r : AV} {up : Up} {rd : List Nat} (hR : Rel P c) (hid : ¬ c.U id) (ht : P.underlying t = some (.slice e)) (hsz : szOf P e = some sz) (hby : bytesOf P e = some bytes) (hz : (zeroOf P e).map List.length = some sz) (h0 : 0 < sz)
    (hs : RR c s u) (hx : RR c x v) (h : appV c.at_ id sz bytes s x = some (r, up, rd)) :
    ∃ val c', (Builtin.append_ #[t, t] ty #[u, v]).run P c.w = .ok val c'.w ∧ RR c' r val ∧ Rel P c' ∧ Ext c c' ∧ c'.at_ = upd c.at_ up ∧ (∀ i, c'.U i ↔ c.U i ∨ (i = id ∧ up.any (fun p => p.1 == id) = true)) := by
  unfold appV at h
  split at h
  · rename_i src m rd' hsrc
    obtain ⟨A, cap2, news, rfl, hnl, hsl, hnr, hnc, hfc⟩ := src_list hR hx hsrc
    unfold szOf at hsz
    simp only [Option.map_eq_some_iff] at hsz
    obtain ⟨i, hi, hsz⟩ := hsz
    unfold bytesOf at hby
    simp only [Option.map_eq_some_iff] at hby
    obtain ⟨i', hi', hby⟩ := hby
    rw [hi] at hi'
    cases hi'
    obtain ⟨zv, hzv, hzs⟩ : ∃ zv, i.zero = some zv ∧ zv.cells.size = sz := by
      simp only [Option.map_eq_some_iff, zeroOf, Option.bind_eq_some_iff] at hz
      obtain ⟨l, ⟨z, ⟨i2, hi2, hz2⟩, hm⟩, hl⟩ := hz
      rw [hi] at hi2
      cases hi2
      refine ⟨z, hz2, ?_⟩
      have := (mapM_some hm).1
      simp at this; omega
    -- a new row
    have grown : ∀ (old : List Value) (oldA : List AV) (need ocap : Nat) (up' : Up) (c1 : Cx) (w1 : World), w1.heap = c.w.heap → (w1.os = c.w.os ∧ w1.tape = c.w.tape ∧ w1.output = c.w.output) → oldA.length = old.length → RC1 (RR c) oldA (fun j => old[j]?) → old.length + news.length = need * sz → need ≤ 1000000000000 → (c1 = c ∨ ∃ d, d ≠ id ∧ c1 = c.drop d) →
        ∃ c', c'.w = w1.alloc (.cells (old.toArray ++ news.toArray ++ Builtin.zeroCells zv.cells (grownCap c.w need ocap e - need)) e) ∧ RR c' (.sl id 0 need need sz) (.slice (some ⟨c.w.heap.size, 0, none⟩) need (grownCap c.w need ocap e)) ∧
          Rel P c' ∧ Ext c c' ∧ c'.at_ = upd c1.at_ [(id, some (.cells (oldA ++ src)))] ∧ (∀ i, c'.U i ↔ c.U i ∨ i = id) := by
      intro old oldA need ocap up' c1 w1 hw1 henv1 hol hor hlen hneed hc1
      have e1 : Ext c c1 := by
        rcases hc1 with h | ⟨d, _, h⟩
        · rw [h]; exact Ext.refl _
        · rw [h]; exact ext_drop d
      have r1 : Rel P c1 := by
        rcases hc1 with h | ⟨d, _, h⟩
        · rw [h]; exact hR
        · rw [h]; exact rel_drop d hR
      have u1 : c1.U = c.U := by rcases hc1 with h | ⟨d, _, h⟩ <;> rw [h] <;> rfl
      have hh1 : w1.heap = c1.w.heap := by rcases hc1 with h | ⟨d, _, h⟩ <;> rw [h] <;> exact hw1
      have he1 : w1.os = c1.w.os ∧ w1.tape = c1.w.tape ∧ w1.output = c1.w.output := by rcases hc1 with h | ⟨d, _, h⟩ <;> rw [h] <;> exact henv1
      have e2 := ext_wd (c := c1) hh1 he1
      have r2 := rel_wd hh1 he1 r1
      have hid2 : ¬ (c1.wd w1).U id := by show ¬ c1.U id; rw [u1]; exact hid
      have hge := grownCap_ge c.w need ocap e
      have hle := grownCap_le_maxLen c.w need ocap e (by unfold maxLen; omega)
      generalize grownCap c.w need ocap e = cap at hge hle
      have hsize : (old.toArray ++ news.toArray ++ Builtin.zeroCells zv.cells (cap - need)).size = cap * sz := by
        simp only [Array.size_append, List.size_toArray, size_zeroCells, hzs, hlen, ← Nat.add_mul]
        congr 1; omega
      have e3 := ext_new r2 hid2 (.cells (oldA ++ src)) (.cells (old.toArray ++ news.toArray ++ Builtin.zeroCells zv.cells (cap - need)) e)
      have hcells : RC1 (RR c) (oldA ++ src) fun j => (old.toArray ++ news.toArray ++ Builtin.zeroCells zv.cells (cap - need))[j]? := fun j y hy => by
        have hr : ∃ u, (old ++ news)[j]? = some u ∧ RR c y u ∧ One u := by
          rw [List.getElem?_append] at hy ⊢
          split at hy
          · rename_i hj; rw [if_pos (by omega)]; exact hor j y hy
          · rename_i hj; rw [if_neg (by omega), ← hol]; exact hnr _ y hy
        obtain ⟨u, hu, hr⟩ := hr
        refine ⟨u, ?_, hr⟩
        have hlt := (List.getElem?_eq_some_iff.1 hu).1
        show (old.toArray ++ news.toArray ++ Builtin.zeroCells zv.cells (cap - need))[j]? = some u
        rw [Array.getElem?_append_left (by simpa using hlt)]
        simpa using hu
      refine ⟨(c1.wd w1).mk' id (.cells (oldA ++ src)) (.cells (old.toArray ++ news.toArray ++ Builtin.zeroCells zv.cells (cap - need)) e), rfl, ?_, rel_new r2 hid2 _ _ ⟨_, e, heap_alloc_eq _ _, ?_⟩, (e1.trans e2).trans e3, rfl, fun i => ?_⟩
      · have := rr_sl_new (c := c1.wd w1) (id := id) (n := need) (sz := sz) (o := .cells (oldA ++ src)) (T := e) (vs := old.toArray ++ news.toArray ++ Builtin.zeroCells zv.cells (cap - need)) hge hle (by omega)
        have hs2 : (c1.wd w1).w.heap.size = c.w.heap.size := by show w1.heap.size = _; rw [hw1]
        rw [hs2] at this
        exact this
      · exact (RC1.ext ((e1.trans e2).trans e3) hcells).imp (fun _ _ h => h) fun j u hj => by rw [Nat.zero_add]; exact hj
      · show (c1.U i ∨ i = id) ↔ _; rw [u1]
    split at h
    · -- nil, or no room at all
      obtain ⟨B, rfl⟩ := RR_nils.1 hs
      split at h
      · rename_i hm
        cases h
        subst hm
        have hn : news = [] := List.eq_nil_of_length_eq_zero (by simpa using hnl)
        subst hn
        refine ⟨.slice B 0 0, c, ?_, RR_nils.2 ⟨_, rfl⟩, hR, Ext.refl c, rfl, fun i => by simp⟩
        have hfc' := hfc c.w rfl
        cases B <;> simp [Builtin.append_, run_underlying ht, sizeOf, typeInfo, hi, hsz, Builtin.lenOf, hfc', storeCells]
      · rename_i hm
        split at h
        · rename_i hb
          cases h
          obtain ⟨p, rfl, hpc⟩ := hnc (by omega)
          obtain ⟨c', h1, h2, h3, h4, h5, h6⟩ := grown [] [] m 0 [] c c.w.drew rfl ⟨rfl, rfl, rfl⟩ rfl (fun j x hx => by simp at hx) (by simpa using hnl) hb.2 (.inl rfl)
          refine ⟨_, c', ?_, h2, h3, h4, by simpa using h5, fun i => by rw [h6]; simp⟩
          cases B with
          | none =>
            have := run_append_nil (P := P) c.w t ty e i zv ht hi hzv p m cap2 news (by rw [hsz]; exact hnl) hpc (by omega) (by omega) (by rw [hby]; omega)
            rw [this, h1]; simp
          | some B =>
            have := run_append_grow (P := P) c.w t ty e i zv ht hi hzv B 0 0 [] (by simp) (fun j v h => by simp at h) p m cap2 news (by rw [hsz]; exact hnl) hpc (by omega) (by omega) (growslice_fits (by omega) (by rw [hby, Nat.zero_add]; exact hb.1))
            simp only [Nat.zero_add] at this
            rw [this, h1]
        · cases h
    · -- a row
      rename_i d off len cp sz'
      obtain ⟨hu, hlt, cap, rfl, g1, g2, g3, g4⟩ := RR_sl.1 hs
      split at h
      · rename_i cs hcs
        have hd := cellsAt_some hcs
        have hdid : d ≠ id := fun e => hid (e ▸ hu)
        split at h
        · rename_i hc
          obtain ⟨rfl, hc⟩ := hc
          have hadd : ((⟨(c.mu d).1, (c.mu d).2 + off, none⟩ : Addr).add (len * sz)) = ⟨(c.mu d).1, (c.mu d).2 + (off + len * sz), none⟩ := by rw [add_addr]; congr 1; omega
          split at h
          · rename_i hroom
            split at h
            · rename_i hfit
              cases h
              have hcap : (len + m) * sz ≤ cap * sz := Nat.mul_le_mul_right _ (by omega)
              rw [Nat.add_mul] at hcap
              obtain ⟨w', ar, T, k1, k2, k3, k4, k5, k6, k7, k8, k9⟩ := write_row (off := off + len * sz) hR hd (by omega) hnr (by omega)
              have he := ext_wr (cs := over cs (off + len * sz) src) hR hd k5 k6 k7 k9
              refine ⟨_, c.wr d (over cs (off + len * sz) src) w', run_append_in ht hi hsz (by omega) (hfc c.w rfl) (by rw [hadd]; exact k1), ?_, rel_wr hR hd k5 k6 k7 k9 ⟨_, T, k4, RC1.ext he ?_⟩, he, rfl, fun i => ?_⟩
              · exact RR_sl.2 ⟨hu, by show (c.mu d).1 < w'.heap.size; omega, cap, rfl, by omega, g2, g3, by show _ ≤ csize w' (c.mu d).1; rw [k6]; exact g4⟩
              · exact overA_rcs src news (c.mu d).2 (off + len * sz) cs ar (by omega) hnr k3
              · simp [Cx.wr, hdid]
            · cases h
          · rename_i hroom
            split at h
            · rename_i hb
              cases h
              have hmpos : 0 < m := by
                rcases Nat.eq_zero_or_pos m with h | h
                · omega
                · exact h
              obtain ⟨p, rfl, hpc⟩ := hnc hmpos
              obtain ⟨ar, T, hrow, hcells⟩ := hR.obj d _ hd
              have hold : RC1 (RR c) ((cs.drop off).take (len * sz)) fun j => ar[(c.mu d).2 + off + j]? := (RCs.take (RCs.drop hcells off) _).imp (fun _ _ h => h) fun j u hj => by rw [Nat.add_assoc]; exact hj
              have holdl : ((cs.drop off).take (len * sz)).length = len * sz := by simp; omega
              by_cases hin : len + m ≤ cap
              · -- there was room all the same: the old row gets a new name
                have hcap : (len + m) * sz ≤ cap * sz := Nat.mul_le_mul_right _ hin
                rw [Nat.add_mul] at hcap
                obtain ⟨w', ar', T', k1, k2, k3, k4, k5, k6, k7, k8, k9⟩ := write_row (off := off + len * sz) hR hd (by omega) hnr (by omega)
                rw [hrow] at k2
                cases k2
                have he := ext_mv (cs := (cs.drop off).take (len * sz) ++ src) (off := off) hid hd hR k5 k6 k7 k9
                refine ⟨_, c.mv d id off ((cs.drop off).take (len * sz) ++ src) w', run_append_in ht hi hsz hin (hfc c.w rfl) (by rw [hadd]; exact k1), ?_, rel_mv hid hd hR k5 k6 k7 k9 ⟨_, T, k4, RC1.ext he ?_⟩, he, rfl, fun i => ?_⟩
                · refine RR_sl.2 ⟨.inr rfl, by simp [Cx.mv]; omega, cap, by simp [Cx.mv], Nat.le_refl _, hin, g3, ?_⟩
                  simp only [Cx.mv, if_true]
                  rw [k6]
                  omega
                · intro j y hy
                  rw [List.getElem?_append, holdl] at hy
                  show ∃ u, (overA ar ((c.mu d).2 + (off + len * sz)) news)[(c.mu d).2 + off + j]? = some u ∧ _
                  rw [overA_at _ _ _ _ (by omega)]
                  split at hy
                  · rename_i hj
                    rw [if_neg (by omega)]
                    exact hold j y hy
                  · rename_i hj
                    have hjl := (List.getElem?_eq_some_iff.1 hy).1
                    rw [if_pos (by omega), show (c.mu d).2 + off + j - ((c.mu d).2 + (off + len * sz)) = j - len * sz by omega]
                    exact hnr _ y hy
                · simp [Cx.mv]
              · obtain ⟨olds, ho1, ho2, ho3⟩ := hold.list
                have hoc : ∀ (j : Nat) v, olds[j]? = some v → c.w.cell? ((⟨(c.mu d).1, (c.mu d).2 + off, none⟩ : Addr).add j) = some v := fun j v hv => by
                  rw [add_addr, cell_of hrow]; exact ho2 j v hv
                obtain ⟨c', h1, h2, h3, h4, h5, h6⟩ := grown olds _ (len + m) cap [] (c.drop d) c.w.drew rfl ⟨rfl, rfl, rfl⟩ (by omega) ho3 (by rw [ho1, holdl, hnl, Nat.add_mul]) hb.2 (.inr ⟨d, hdid, rfl⟩)
                refine ⟨_, c', ?_, h2, h3, h4, ?_, fun i => by rw [h6]; simp [hdid]⟩
                · have := run_append_grow (P := P) c.w t ty e i zv ht hi hzv ⟨(c.mu d).1, (c.mu d).2 + off, none⟩ len cap olds (by rw [hsz, ho1, holdl]) hoc p m cap2 news (by rw [hsz]; exact hnl) hpc (by omega) (by omega) (growslice_fits (by omega) (by rw [hby]; exact hb.1))
                  rw [this, h1]
                · rw [h5]
                  funext i
                  simp only [Cx.drop, upd]
                  by_cases e1 : i = id
                  · subst e1; simp [Ne.symm hdid]
                  · by_cases e2 : i = d
                    · subst e2; simp [e1]
                    · simp [e1, e2]
            · cases h
        · cases h
      · cases h
    · cases h
  · cases h
end
end Go.Am
