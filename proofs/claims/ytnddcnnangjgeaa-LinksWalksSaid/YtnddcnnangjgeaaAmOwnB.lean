/-
  Slices that grow, without parting: nil or not. No program in sight.
-/
import Derived.Test.YtnddcnnangjgeaaAmFrzR
set_option linter.unusedSimpArgs false
set_option linter.unusedVariables false
namespace Go.Am
section
variable {α : Type} {f : α → List AV} {l : List α} {i j : Nat} {o : AObj} {r : List (Nat × AObj)}
theorem put_own (h : j ≠ i) : put (ownH i f l) j (some o) = ownH i f l ++ [(j, o)] := by
  by_cases hz : l.length = 0
  · rw [ownH_z hz]; rfl
  · rw [ownH_s hz]; simp [put, h]
theorem put_ownA (h : j ≠ i) : put (ownH i f l ++ r) j (some o) = ownH i f l ++ put r j (some o) := by
  by_cases hz : l.length = 0
  · rw [ownH_z hz]; rfl
  · rw [ownH_s hz]; simp [put, h]
theorem put_ownN : put (ownH i f l ++ r) i none = put r i none := by
  by_cases hz : l.length = 0
  · rw [ownH_z hz]; rfl
  · rw [ownH_s hz]; simp [put]
theorem put_ownM (h : j ≠ i) : put (ownH i f l ++ r) j none = ownH i f l ++ put r j none := by
  by_cases hz : l.length = 0
  · rw [ownH_z hz]; rfl
  · rw [ownH_s hz]; simp [put, h]
theorem cells_own (h : j ≠ i) : cellsAt (lk (ownH i f l ++ r)) j = cellsAt (lk r) j := by
  by_cases hz : l.length = 0
  · rw [ownH_z hz]; rfl
  · rw [ownH_s hz]; simp [cellsAt, lk, h]
theorem lk_own (h : j ≠ i) : lk (ownH i f l ++ r) j = lk r j := by
  by_cases hz : l.length = 0
  · rw [ownH_z hz]; rfl
  · rw [ownH_s hz]; simp [lk, h]
theorem lk_ownS (hz : l.length ≠ 0) : lk (ownH i f l ++ r) i = some (.cells (flat f l)) := by rw [ownH_s hz]; simp [lk]
theorem lk_ownE (hz : l.length ≠ 0) : lk (ownH i f l) i = some (.cells (flat f l)) := by rw [ownH_s hz]; simp [lk]
theorem len_own {sz n : Nat} : lenV (ownV i sz n) = some (.int .i64 n) := by
  by_cases hz : n = 0
  · subst hz; rfl
  · rw [own_s hz]; rfl
theorem flat_own {sz n : Nat} : AV.flat (ownV i sz n) = true := by
  by_cases hz : n = 0
  · subst hz; rfl
  · rw [own_s hz]; rfl
theorem cells_ownV {sz n : Nat} : AV.cells (ownV i sz n) = [ownV i sz n] := by
  by_cases hz : n = 0
  · subst hz; rfl
  · rw [own_s hz]; rfl
theorem put_absent : ∀ {l : List (Nat × AObj)}, (∀ q ∈ l, q.1 ≠ i) → put l i none = l
  | [], _ => rfl
  | (j, p) :: l, h => by
    have h1 : i ≠ j := Ne.symm (h (j, p) (List.mem_cons_self ..))
    simp only [put, if_neg h1]
    rw [put_absent fun q hq => h q (List.mem_cons_of_mem _ hq)]
theorem mem_put {a : Nat} : ∀ {l : List (Nat × AObj)} {q : Nat × AObj}, q ∈ put l a (some o) → q ∈ l ∨ q.1 = a
  | [], q, h => by simp [put] at h; subst h; exact .inr rfl
  | (b, p) :: l, q, h => by
    simp only [put] at h
    split at h
    · rcases List.mem_cons.1 h with e | h
      · subst e; exact .inr rfl
      · exact .inl (List.mem_cons_of_mem _ h)
    · rcases List.mem_cons.1 h with e | h
      · subst e; exact .inl (List.mem_cons_self ..)
      · rcases mem_put h with h | h
        · exact .inl (List.mem_cons_of_mem _ h)
        · exact .inr h
end
section
variable {P : Program} {G : Gl} {fr : List AV} {h : Hp} {α : Type} {f : α → List AV} {l l2 : List α}
theorem app2_own {id sz bytes i m : Nat} {src : List AV} {r : List Nat} (hf : ∀ x, (f x).length = sz) (hl : l.length ≠ 0 → lk h.l i = some (.cells (flat f l))) (hs : src = flat f l2) (hm : m = l2.length) (h0 : 0 < m) (hb : (l.length + m) * bytes ≤ 140737488355328 ∧ l.length + m ≤ 1000000000000) :
    app2 (lk h.l) id sz bytes (ownV i sz l.length) src m r = if l.length = 0 then some (.sl id 0 (l.length + m) (l.length + m) sz, [(id, some (.cells (flat f (l ++ l2))))], r) else some (.sl id 0 (l.length + m) (l.length + m) sz, [(i, none), (id, some (.cells (flat f (l ++ l2))))], i :: r) := by
  subst hs; subst hm
  by_cases hz : l.length = 0
  · rw [if_pos hz, hz, own_z]
    cases List.eq_nil_of_length_eq_zero hz
    simp only [app2]
    rw [if_neg (by omega), if_pos (by simpa using hb)]
    simp
  · rw [if_neg hz, own_s hz]
    have hc : cellsAt (lk h.l) i = some (flat f l) := by simp only [cellsAt, hl hz]
    have hle := flat_len hf l
    simp only [app2, hc]
    rw [if_pos ⟨trivial, by omega⟩, if_neg (by omega), if_pos hb, List.drop_zero, List.take_of_length_le (by omega), flat_app]
theorem app_absent {id i : Nat} {o : Option AObj} (ho : o.isSome = true) (hid : id ≠ i) (hne : ∀ q ∈ h.l, q.1 ≠ i) (hn : h.next ≠ i) : h.app [(id, o)] = h.app [(i, none), (id, o)] := by
  obtain ⟨o, rfl⟩ := Option.isSome_iff_exists.1 ho
  have e : put (put h.l id (some o)) i none = put h.l id (some o) := put_absent fun q hq => (mem_put hq).elim (hne q) fun e => by rw [e]; exact hid
  have hk : (i == h.next) = false := by simp [Ne.symm hn]
  simp [Hp.app, puts, e, hasKey, hk]
theorem appD_absent {id i : Nat} {o : Option AObj} (ho : o.isSome = true) (hid : id ≠ i) (hne : ∀ q ∈ h.l, q.1 ≠ i) : h.appD [(id, o)] = h.appD [(i, none), (id, o)] := by
  obtain ⟨o, rfl⟩ := Option.isSome_iff_exists.1 ho
  have e : put (put h.l id (some o)) i none = put h.l id (some o) := put_absent fun q hq => (mem_put hq).elim (hne q) fun e => by rw [e]; exact hid
  simp only [Hp.appD, puts, e]
/-- Appending to a slice of its own, nil or not. -/
theorem go_own {d : Option Nat} {os : List AOper} {Q : List AV → Hp → Prop} {id sz bytes i m : Nat} {src : List AV} {r : List Nat} (hf : ∀ x, (f x).length = sz) (hl : l.length ≠ 0 → lk h.l i = some (.cells (flat f l))) (hs : src = flat f l2) (hm : m = l2.length) (h0 : 0 < m) (hb : (l.length + m) * bytes ≤ 140737488355328 ∧ l.length + m ≤ 1000000000000)
    (hid : id ≠ i) (hn : h.next ≠ i) (hne : l.length = 0 → ∀ q ∈ h.l, q.1 ≠ i)
    (hk : runS P G os Q (setO fr d (.sl id 0 (l.length + m) (l.length + m) sz)) (h.app [(i, none), (id, some (.cells (flat f (l ++ l2))))])) : goS P G d os Q fr h (app2 (lk h.l) id sz bytes (ownV i sz l.length) src m r) := by
  rw [app2_own hf hl hs hm h0 hb]
  by_cases hz : l.length = 0
  · rw [if_pos hz]
    show runS P G os Q _ (h.app _)
    rw [app_absent rfl hid (hne hz) hn]; exact hk
  · rw [if_neg hz]; exact hk
theorem goD_own {anc : List (List Nat)} {n k b : Nat} {log : List Ent} {Q : List AV → Hp → Prop} {o : AOper} {os : List AOper} {id sz bytes i m : Nat} {src : List AV} {r : List Nat} (hf : ∀ x, (f x).length = sz) (hl : l.length ≠ 0 → lk h.l i = some (.cells (flat f l))) (hs : src = flat f l2) (hm : m = l2.length) (h0 : 0 < m) (hb : (l.length + m) * bytes ≤ 140737488355328 ∧ l.length + m ≤ 1000000000000)
    (hid : id ≠ i) (hne : l.length = 0 → ∀ q ∈ h.l, q.1 ≠ i)
    (hk1 : l.length = 0 → runD P G anc n os (k + 1) b (log ++ [entOf o true [(id, some (.cells (flat f (l ++ l2))))] r]) Q (setO fr o.dst (.sl id 0 (l.length + m) (l.length + m) sz)) (h.appD [(i, none), (id, some (.cells (flat f (l ++ l2))))]))
    (hk2 : l.length ≠ 0 → runD P G anc n os (k + 1) b (log ++ [entOf o true [(i, none), (id, some (.cells (flat f (l ++ l2))))] (i :: r)]) Q (setO fr o.dst (.sl id 0 (l.length + m) (l.length + m) sz)) (h.appD [(i, none), (id, some (.cells (flat f (l ++ l2))))])) : goD P G anc n o os k b log Q fr h (app2 (lk h.l) id sz bytes (ownV i sz l.length) src m r) := by
  rw [app2_own hf hl hs hm h0 hb]
  by_cases hz : l.length = 0
  · rw [if_pos hz]
    show runD P G anc n os (k + 1) b (log ++ [entOf o true [(id, some (.cells (flat f (l ++ l2))))] r]) Q _ (h.appD _)
    rw [appD_absent rfl hid (hne hz)]
    exact hk1 hz
  · rw [if_neg hz]
    exact hk2 hz
theorem wk_own {σ : Nat → Nat} {h h' : Hp} {i j sz n : Nat} (e : σ i = j) (hi : i < h'.next) : WkV P σ h h' (ownV j sz n) (ownV i sz n) := by
  by_cases hz : n = 0
  · subst hz; rw [own_z, own_z]; exact fun c v hR hm hr => RR_nils.2 (RR_nils.1 hr)
  · rw [own_s hz, own_s hz]; exact wk_sl e hi rfl (Nat.le_refl _) (Nat.le_refl _)
theorem wk_frzS {σ : Nat → Nat} {h : Hp} {k i sz n : Nat} (hf : ∀ x, (f x).length = sz) (hp : ∀ c, ∀ x ∈ f c, Plain x) (hi : lk h.l i = some (.cells (flat f l))) (hn : n = l.length) : WkV P σ h ⟨[], k⟩ (.sl i 0 n n sz) (.isl (l.map f)) := by
  subst hn
  refine wk_frz hi (fun j o hj => by cases hj) subH_nil (by simp) (fun e he => ?_) ?_ fun e he x hx => ?_
  · obtain ⟨c, _, rfl⟩ := List.mem_map.1 he; exact hf c
  · rw [List.drop_zero, List.take_of_length_le (by rw [flat_len hf]; exact Nat.le_refl _)]; rfl
  · obtain ⟨c, _, rfl⟩ := List.mem_map.1 he; exact hp c x hx
theorem wk_frzO {σ : Nat → Nat} {h : Hp} {k i sz : Nat} (hf : ∀ x, (f x).length = sz) (hp : ∀ c, ∀ x ∈ f c, Plain x) (hi : l.length ≠ 0 → lk h.l i = some (.cells (flat f l))) : WkV P σ h ⟨[], k⟩ (ownV i sz l.length) (.isl (l.map f)) := by
  by_cases hz : l.length = 0
  · rw [hz, own_z]
    cases List.eq_nil_of_length_eq_zero hz
    exact wk_nils
  · rw [own_s hz]; exact wk_frzS hf hp (hi hz) rfl
/-- A result that becomes a value; nothing is left behind. -/
theorem fin_one {h : Hp} {x r : AV} (hw : WkV P id h ⟨[], 0⟩ x r) : finS P 0 (fun r' h' => r' = r ∧ h'.l = []) h (some [x]) :=
  ⟨id, r, ⟨[], 0⟩, weak_of (fun i j o o' hi => by cases hi) ⟨hw, trivial⟩ trivial, fun _ _ => rfl, Nat.le_refl _, rfl, rfl⟩
theorem fin_many {h : Hp} {l : List AV} {r : AV} (hw : WkV P id h ⟨[], 0⟩ (packV l) r) : finS P 0 (fun r' h' => r' = r ∧ h'.l = []) h (some l) :=
  ⟨id, r, ⟨[], 0⟩, weak_of (fun i j o o' hi => by cases hi) ⟨hw, trivial⟩ trivial, fun _ _ => rfl, Nat.le_refl _, rfl, rfl⟩
end
end Go.Am
