/-
  The abstract machine's operations stand for the model's: each operation. No program in sight.
-/
import Derived.Test.YtggkpagngnnjjaaAmSndB
import Derived.Laws.Cells
set_option linter.unusedSimpArgs false
set_option linter.unusedVariables false
namespace Go.Am
section
variable {P : Program} {c : Cx} {G : Gl} {fr : List AV} {a : Act}
theorem RCs.list {p : AV → Value → Prop} : ∀ {xs : List AV} {look : Nat → Option Value}, RCs p xs look → ∃ vs : List Value, vs.length = xs.length ∧ (∀ (j : Nat) v, vs[j]? = some v → look j = some v) ∧ RCs p xs fun j => vs[j]?
  | [], _, _ => ⟨[], rfl, fun j v h => by simp at h, fun j x hx => by simp at hx⟩
  | y :: ys, look, h => by
    obtain ⟨u, hu, hyu⟩ := h 0 y rfl
    obtain ⟨vs, h1, h2, h3⟩ := RCs.list (xs := ys) (look := fun j => look (j + 1)) fun j x hx => h (j + 1) x (by simpa using hx)
    refine ⟨u :: vs, by simp [h1], fun j v hv => ?_, fun j x hx => ?_⟩
    · cases j with
      | zero => simp at hv; subst hv; exact hu
      | succ j => exact h2 j v (by simpa using hv)
    · cases j with
      | zero => simp at hx; subst hx; exact ⟨u, rfl, hyu⟩
      | succ j => obtain ⟨w, hw, hr⟩ := h3 j x (by simpa using hx); exact ⟨w, by simpa using hw, hr⟩
theorem RCs.drop {p : AV → Value → Prop} {xs : List AV} {look : Nat → Option Value} (h : RCs p xs look) (o : Nat) : RCs p (xs.drop o) fun j => look (o + j) := fun j x hx => h (o + j) x (by rw [List.getElem?_drop] at hx; exact hx)
theorem RCs.take {p : AV → Value → Prop} {xs : List AV} {look : Nat → Option Value} (h : RCs p xs look) (n : Nat) : RCs p (xs.take n) look := fun j x hx => by
  rw [List.getElem?_take] at hx
  split at hx
  · exact h j x hx
  · cases hx
theorem cell_of {w : World} {b o : Nat} {a : Array Value} {T : TypeId} (h : w.heap[b]? = some (.cells a T (0, 0))) : w.cell? ⟨b, o, none⟩ = a[o]? := by simp [World.cell?, h]
theorem cellsAt_some {at_ : At} {i : Nat} {cs : List AV} (h : cellsAt at_ i = some cs) : at_ i = some (.cells cs) := by
  unfold cellsAt at h
  split at h
  · cases h; assumption
  · cases h
theorem look_ptr (hR : Rel P c) {i o : Nat} {cs : List AV} {v : Value} (hi : cellsAt c.at_ i = some cs) (h : RR c (.ptr i o) v) : ∃ b q, v = .pointer (some ⟨b, q, none⟩) ∧ RC1 (RR c) (cs.drop o) fun j => c.w.cell? ⟨b, q + j, none⟩ := by
  obtain ⟨_, rfl⟩ := RR_ptr.1 h
  obtain ⟨ar, T, h1, h2⟩ := hR.obj i _ (cellsAt_some hi)
  refine ⟨_, _, rfl, (h2.drop o).imp (fun _ _ h => h) fun j u hj => ?_⟩
  rw [cell_of h1, show (c.mu i).2 + o + j = (c.mu i).2 + (o + j) by omega]
  exact hj
theorem partV_drop {ag : Bool} {o n : Nat} {cs : List AV} : partV ag o n cs = partV ag 0 n (cs.drop o) ∨ partV ag o n cs = none := by
  unfold partV
  cases ag with
  | true =>
    simp only [if_true]
    by_cases h : o + n ≤ cs.length
    · left; rw [if_pos h, if_pos (by simp; omega)]; simp
    · right; rw [if_neg h]
  | false => left; simp
theorem add_addr (b o n : Nat) : (⟨b, o, none⟩ : Addr).add n = ⟨b, o + n, none⟩ := by
  unfold Addr.add
  by_cases e : n = 0
  · simp [e]
  · simp [e]
theorem run_load {t : TypeId} {ag : Bool} {n b q : Nat} {cs : List AV} {r : AV} (hb : aggOf P t = some ag) (hn : szOf P t = some n) (hc : RC1 (RR c) cs fun j => c.w.cell? ⟨b, q + j, none⟩)
    (h : partV ag 0 n cs = some r) : ∃ val, (loadVar t ⟨b, q, none⟩).run P c.w = .ok val c.w ∧ RR c r val := by
  unfold aggOf at hb
  simp only [Option.map_eq_some_iff] at hb
  obtain ⟨d, hd, hb⟩ := hb
  unfold szOf at hn
  simp only [Option.map_eq_some_iff] at hn
  obtain ⟨i, hi, hn⟩ := hn
  have hia : (isAgg t).run P c.w = .ok ag c.w := by
    simp only [isAgg]
    subst hb
    simp [run_underlying hd]
    cases d <;> simp
  unfold partV at h
  cases ag with
  | true =>
    simp only [if_true, Nat.zero_add, List.drop_zero] at h
    split at h
    · rename_i hle
      cases h
      obtain ⟨vs, h1, h2, h3⟩ := (hc.take n).list
      have h4 := run_loadCells_list (P := P) (w := c.w) ⟨b, q, none⟩ vs fun j v hv => by rw [add_addr]; exact h2 j v hv
      rw [h1, List.length_take, Nat.min_eq_left hle] at h4
      refine ⟨.agg vs.toArray, by simp [loadVar, hia, sizeOf, typeInfo, hi, hn, h4], RR_agg.2 ⟨_, rfl, by simpa using h1, h3.imp (fun _ _ h => h) fun j u hj => by simpa using hj⟩⟩
    · cases h
  | false =>
    simp only [Bool.false_eq_true, if_false] at h
    obtain ⟨u, hu, hxu, _⟩ := hc 0 r h
    have hu' : c.w.cell? ⟨b, q, none⟩ = some u := by simpa using hu
    exact ⟨u, by simp [loadVar, hia, load, Sem.run, hu'], hxu⟩
theorem cells_rc1 {x : AV} {v : Value} (h : RR c x v) (hx : x.flat = true) : v.cells.size = x.cells.length ∧ RC1 (RR c) x.cells fun j => v.cells[j]? := by
  cases x with
  | agg cs => obtain ⟨vs, rfl, h1, h2⟩ := RR_agg.1 h; exact ⟨h1, h2⟩
  | _ =>
    have hone := RR.one h (by simpa [AV.flat] using hx)
    have hc : v.cells = #[v] := by
      cases v <;> first | rfl | exact absurd rfl (hone.1 _)
    rw [hc]
    refine ⟨rfl, fun j y hy => ?_⟩
    cases j with
    | zero => simp [AV.cells] at hy; subst hy; exact ⟨v, rfl, h, hone⟩
    | succ j => simp [AV.cells] at hy
theorem run_store {t : TypeId} {n i o : Nat} {cs : List AV} {x : AV} {p v : Value} (hR : Rel P c) (hn : szOf P t = some n) (hi : cellsAt c.at_ i = some cs) (hp : RR c (.ptr i o) p) (hx : RR c x v) (hf : x.flat = true) (hl : x.cells.length = n) (hn0 : 0 < n) (hle : o + n ≤ cs.length) :
    ∃ w', (Instr.storeAt t p v).run P c.w = .ok () w' ∧ Rel P (c.wr i (over cs o x.cells) w') ∧ Ext c (c.wr i (over cs o x.cells) w') := by
  obtain ⟨_, rfl⟩ := RR_ptr.1 hp
  have ho := cellsAt_some hi
  obtain ⟨ar, T, h1, h2⟩ := hR.obj i _ ho
  obtain ⟨h3, h4⟩ := cells_rc1 hx hf
  unfold szOf at hn
  simp only [Option.map_eq_some_iff] at hn
  obtain ⟨ti, hti, hn⟩ := hn
  have hsz : (c.mu i).2 + (o + n) ≤ ar.size := by
    obtain ⟨u, hu, _⟩ := h2 (o + n - 1) _ (List.getElem?_eq_getElem (show o + n - 1 < cs.length by omega))
    have hu' : ar[(c.mu i).2 + (o + n - 1)]? = some u := hu
    rcases Nat.lt_or_ge ((c.mu i).2 + (o + n - 1)) ar.size with hlt | hge
    · omega
    · rw [Array.getElem?_eq_none hge] at hu'; cases hu'
  obtain ⟨w', h5, h6, h7, h8, h9⟩ := run_storeCells_row (P := P) v.cells.toList (c.mu i).1 ((c.mu i).2 + o) 0 c.w ar T h1 (by simp [h3, hl]; omega) fun u hu => by
    obtain ⟨j, hj⟩ := List.mem_iff_getElem?.1 hu
    have hj' : j < x.cells.length := by rw [← h3]; have := (List.getElem?_eq_some_iff.1 hj).1; simpa using this
    obtain ⟨u', hu', _, hone⟩ := h4 j _ (List.getElem?_eq_getElem hj')
    have : v.cells[j]? = some u' := hu'
    rw [show v.cells[j]? = v.cells.toList[j]? by simp, hj] at this
    cases this
    exact hone
  have hcs : csize w' (c.mu i).1 = csize c.w (c.mu i).1 := by simp [csize, h1, h6, overA_size]
  have he := ext_wr (cs := over cs o x.cells) hR ho h7 hcs h8 h9
  refine ⟨w', ?_, rel_wr hR ho h7 hcs h8 h9 ⟨_, T, h6, RC1.ext he ?_⟩, he⟩
  · simp [Instr.storeAt, Instr.sureAddr, storeVar, sizeOf, typeInfo, hti, hn, h3, hl, h5]
  · have := overA_rcs x.cells v.cells.toList (c.mu i).2 o cs ar (by simp [h3]) (h4.imp (fun _ _ h => h) fun j u hj => by simpa using hj) h2
    simpa using this
/-! Each operation of the abstract machine, at the model's own. -/
theorem snd_mv {o : Oper} {x : Operand} {y : AX} {id : Nat} {v : AV} {up : Up} {rd : List Nat} (hF : FR c fr a.tmps) (hG : RelG G c) (hR : Rel P c) (ho : o.op = .move x ∨ o.op = .assign x) (hx : cox x = some y)
    (hv : evalA (ax G fr) c.at_ id (.mv y) = some (v, up, rd)) : Done P c ((execOp a.eval o).run P c.w) v up [] := by
  obtain ⟨h1, rfl, rfl⟩ := pureR_some hv
  exact Done.pure hR (by rcases ho with ho | ho <;> simp [execOp, ho]) (cox_rr hF hG hx h1)
theorem snd_pick {o : Oper} {x y z : Operand} {x' y' z' : AX} {id : Nat} {v : AV} {up : Up} {rd : List Nat} (hF : FR c fr a.tmps) (hG : RelG G c) (hR : Rel P c) (ho : o.op = .pick x y z) (hx : cox x = some x') (hy : cox y = some y') (hz : cox z = some z')
    (hv : evalA (ax G fr) c.at_ id (.pick x' y' z') = some (v, up, rd)) : Done P c ((execOp a.eval o).run P c.w) v up [] := by
  simp only [evalA] at hv
  split at hv
  · rename_i p q r hp hq hr
    obtain ⟨h1, rfl, rfl⟩ := pureR_some hv
    have r1 := cox_rr hF hG hx hp
    have r2 := cox_rr hF hG hy hq
    have r3 := cox_rr hF hG hz hr
    unfold pickV at h1
    split at h1
    · rename_i t p' q'
      simp only [RR_bool] at r1 r2 r3
      cases h1
      exact Done.pure (val := .bool (if t then p' else q')) hR (by cases t <;> simp [execOp, ho, r1, r2, r3, asBool]) (RR_bool.2 rfl)
    · rename_i t k p' k' q'
      simp only [RR_bool, RR_int] at r1 r2 r3
      split at h1
      · rename_i hk
        cases h1
        subst hk
        exact Done.pure (val := .int k (if t then p' else q')) hR (by cases t <;> simp [execOp, ho, r1, r2, r3, asBool]) (RR_int.2 rfl)
      · cases h1
    · rename_i t _ _
      simp only [RR_bool] at r1
      cases h1
      cases t
      · exact Done.pure (val := a.eval z) hR (by simp [execOp, ho, r1, asBool]) (by simpa using r3)
      · exact Done.pure (val := a.eval y) hR (by simp [execOp, ho, r1, asBool]) (by simpa using r2)
    · cases h1
  · cases hv
theorem zeroOf_spec {t : TypeId} {z : List AV} (h : zeroOf P t = some z) (w : World) : ∃ v : Value, (zeroValue t).run P w = .ok v w ∧ v.cells.size = z.length ∧ RC1 (RR c) z fun j => v.cells[j]? := by
  unfold zeroOf at h
  simp only [Option.bind_eq_some_iff] at h
  obtain ⟨zv, ⟨i, hi, hz⟩, hm⟩ := h
  obtain ⟨h1, h2⟩ := mapM_some hm
  refine ⟨zv, by simp [zeroValue, typeInfo, hi, hz], by simpa using h1.symm, fun j y hy => ?_⟩
  obtain ⟨u, hu, hfu⟩ := h2 j y hy
  exact ⟨u, by simpa using hu, ofL_rr hfu, ofL_one hfu⟩
theorem snd_new {o : Oper} {t : TypeId} {z : List AV} {id : Nat} (hR : Rel P c) (hid : ¬ c.U id) (ho : o.op = .alloc t) (hz : zeroOf P t = some z) :
    Done P c ((execOp a.eval o).run P c.w) (.ptr id 0) [(id, some (.cells z))] [id] := by
  obtain ⟨v, h1, h2, h3⟩ := zeroOf_spec (c := c) hz c.w
  exact done_new (T := t) hR hid h3 (by simp [execOp, ho, Instr.alloc, h1, newVar, newRow, newObj, Sem.run]) rr_ptr_new
theorem snd_box {o : Oper} {t : TypeId} {x : Operand} {x' : AX} {id : Nat} {u : AV} (hF : FR c fr a.tmps) (hG : RelG G c) (hR : Rel P c) (hid : ¬ c.U id) (ho : o.op = .box t x) (hx : cox x = some x') (hu : ax G fr x' = some u) (hf : u.flat = true) :
    Done P c ((execOp a.eval o).run P c.w) (.ptr id 0) [(id, some (.cells u.cells))] [id] :=
  done_new (T := t) hR hid (cells_rc1 (cox_rr hF hG hx hu) hf).2 (by simp [execOp, ho, Instr.box, newVar, newRow, newObj, Sem.run]) rr_ptr_new
theorem snd_load {o : Oper} {t : TypeId} {x : Operand} {x' : AX} {ag : Bool} {n id : Nat} {v : AV} {up : Up} {rd : List Nat} (hF : FR c fr a.tmps) (hG : RelG G c) (hR : Rel P c) (ho : o.op = .load t x) (hb : aggOf P t = some ag) (hn : szOf P t = some n) (hx : cox x = some x')
    (hv : evalA (ax G fr) c.at_ id (.load ag n x') = some (v, up, rd)) : Done P c ((execOp a.eval o).run P c.w) v up [] := by
  simp only [evalA] at hv
  split at hv
  · rename_i u hu
    have r1 := cox_rr hF hG hx hu
    split at hv
    · rename_i w rd' hw
      cases hv
      have key : ∃ b q, a.eval x = .pointer (some ⟨b, q, none⟩) ∧ ∃ cs, RC1 (RR c) cs (fun j => c.w.cell? ⟨b, q + j, none⟩) ∧ partV ag 0 n cs = some v := by
        unfold loadV at hw
        split at hw
        · rename_i i off
          split at hw
          · rename_i cs hi
            simp only [Option.map_eq_some_iff] at hw
            obtain ⟨y, hy, hyy⟩ := hw
            cases hyy
            obtain ⟨b, q, h1, h2⟩ := look_ptr hR hi r1
            rcases partV_drop (ag := ag) (o := off) (n := n) (cs := cs) with e | e
            · exact ⟨b, q, h1, _, h2, by rw [← e]; exact hy⟩
            · rw [e] at hy; cases hy
          · cases hw
        · rename_i cs
          simp only [Option.map_eq_some_iff] at hw
          obtain ⟨y, hy, hyy⟩ := hw
          cases hyy
          obtain ⟨b, q, h1, _, h2⟩ := RR_iptr.1 r1
          exact ⟨b, q, h1, cs, h2, hy⟩
        · cases hw
      obtain ⟨b, q, h1, cs, h2, h3⟩ := key
      obtain ⟨val, h4, h5⟩ := run_load hb hn h2 h3
      exact Done.pure hR (by simp [execOp, ho, Instr.loadAt, Instr.sureAddr, h1, h4]) h5
    · cases hv
  · cases hv
theorem snd_store {o : Oper} {t : TypeId} {x y : Operand} {x' y' : AX} {n id : Nat} {v : AV} {up : Up} {rd : List Nat} (hF : FR c fr a.tmps) (hG : RelG G c) (hR : Rel P c) (ho : o.op = .store t x y) (hn : szOf P t = some n) (hx : cox x = some x') (hy : cox y = some y')
    (hv : evalA (ax G fr) c.at_ id (.store n x' y') = some (v, up, rd)) : Done P c ((execOp a.eval o).run P c.w) v up [] := by
  simp only [evalA] at hv
  split at hv
  · rename_i p u hp hu
    have r1 := cox_rr hF hG hx hp
    have r2 := cox_rr hF hG hy hu
    split at hv
    · rename_i up' rd' hw
      cases hv
      unfold storeV at hw
      split at hw
      · rename_i i off
        split at hw
        · rename_i cs hi
          split at hw
          · rename_i hc
            cases hw
            obtain ⟨w', h1, h2, h3⟩ := run_store hR hn hi r1 r2 hc.1 hc.2.1 hc.2.2.1 hc.2.2.2
            exact ⟨_, .inr ⟨by simp [execOp, ho, h1]; rfl, rfl⟩, h2, h3, rfl, fun i => by simp [Cx.wr]⟩
          · cases hw
        · cases hw
      · cases hw
    · cases hv
  · cases hv
end
end Go.Am
