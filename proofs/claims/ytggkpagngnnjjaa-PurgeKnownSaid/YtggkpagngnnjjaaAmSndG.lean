/-
  The abstract machine's operations stand for the model's: slices that are made, appended to, cleared. No program in sight.
-/
import Derived.Test.YtggkpagngnnjjaaAmSndF
import Derived.Laws.AppendOwn
import Derived.Laws.MakeOwn
set_option linter.unusedSimpArgs false
set_option linter.unusedVariables false
namespace Go.Am
section
variable {P : Program} {c : Cx} {G : Gl} {fr : List AV} {a : Act}
/-- Only the world's counts have turned. -/
def Cx.wd (c : Cx) (w' : World) : Cx := { c with w := w' }
theorem ext_wd {w' : World} (h : w'.heap = c.w.heap) (henv : w'.os = c.w.os ∧ w'.tape = c.w.tape ∧ w'.output = c.w.output) : Ext c (c.wd w') :=
  ⟨fun _ h => h, fun _ _ => rfl, fun b _ => by simp [csize, Cx.wd, h], fun b hb => ⟨⟨by simp [Cx.wd, h]; exact hb.1, hb.2, hb.3⟩, by simp [Cx.wd, h]⟩, by simp [Cx.wd, h], fun _ => Iff.rfl, (fun b _ => by simp [Cx.wd, h]), henv⟩
theorem rel_wd {w' : World} (h : w'.heap = c.w.heap) (henv : w'.os = c.w.os ∧ w'.tape = c.w.tape ∧ w'.output = c.w.output) (hR : Rel P c) : Rel P (c.wd w') :=
  ⟨hR.used, hR.inj, fun id o ho => (hR.obj id o ho).ext (ext_wd h henv) (by simp [Cx.wd, h]), hR.many, hR.nohid, fun b hb => by simp [Cx.wd, h]; exact hR.hidlt b hb⟩
/-- A name is given up. -/
def Cx.drop (c : Cx) (d : Nat) : Cx := { c with at_ := upd c.at_ [(d, none)] }
theorem at_drop {d i : Nat} {o : AObj} (h : (c.drop d).at_ i = some o) : i ≠ d ∧ c.at_ i = some o := by
  simp only [Cx.drop, upd] at h
  split at h
  · cases h
  · rename_i hne; exact ⟨hne, h⟩
theorem ext_drop (d : Nat) : Ext c (c.drop d) :=
  ⟨fun _ h => h, fun _ _ => rfl, fun _ _ => rfl, fun b hb => ⟨⟨hb.1, fun i o hi => hb.2 i o (at_drop hi).2, hb.3⟩, rfl⟩, Nat.le_refl _, fun _ => Iff.rfl, fun _ _ => rfl, rfl, rfl, rfl⟩
theorem rel_drop (d : Nat) (hR : Rel P c) : Rel P (c.drop d) :=
  ⟨fun i o h => hR.used i o (at_drop h).2, fun i j o o' hi hj => hR.inj i j o o' (at_drop hi).2 (at_drop hj).2, fun i o h => (hR.obj i o (at_drop h).2).ext (ext_drop d) rfl, hR.many, fun i o h => hR.nohid i o (at_drop h).2, hR.hidlt⟩
/-- A name's block gets another name, which begins at a place of it. -/
def Cx.mv (c : Cx) (d id off : Nat) (cs : List AV) (w' : World) : Cx :=
  { U := fun i => c.U i ∨ i = id, at_ := upd c.at_ [(d, none), (id, some (.cells cs))], mu := fun i => if i = id then ((c.mu d).1, (c.mu d).2 + off) else c.mu i, w := w', hid := c.hid }
theorem at_mv {d id off i : Nat} {cs : List AV} {w' : World} {o : AObj} (hid : ¬ c.U id) (hd : c.U d) (h : (c.mv d id off cs w').at_ i = some o) : (i = id ∧ o = .cells cs ∧ (c.mv d id off cs w').mu i = ((c.mu d).1, (c.mu d).2 + off)) ∨ (i ≠ id ∧ i ≠ d ∧ c.at_ i = some o ∧ (c.mv d id off cs w').mu i = c.mu i) := by
  have hne : d ≠ id := fun e => hid (e ▸ hd)
  simp only [Cx.mv, upd] at h ⊢
  split at h
  · cases h
  · rename_i h1
    split at h
    · rename_i h2; cases h; exact .inl ⟨h2, rfl, by simp [h2]⟩
    · rename_i h2; exact .inr ⟨h2, h1, h, by simp [h2]⟩
theorem ext_mv {d id off : Nat} {cs : List AV} {w' : World} {o : AObj} (hid : ¬ c.U id) (hd : c.at_ d = some o) (hR : Rel P c) (hother : ∀ b, b ≠ (c.mu d).1 → w'.heap[b]? = c.w.heap[b]?) (hcs : csize w' (c.mu d).1 = csize c.w (c.mu d).1) (hsz : w'.heap.size = c.w.heap.size) (henv : w'.os = c.w.os ∧ w'.tape = c.w.tape ∧ w'.output = c.w.output) :
    Ext c (c.mv d id off cs w') := by
  have hud := hR.used d o hd
  refine ⟨fun i hi => .inl hi, fun i hi => ?_, fun b hb => ?_, fun b hb => ?_, by simp [Cx.mv, hsz], fun _ => Iff.rfl, fun b hb => hother b fun e => hR.nohid d o hd (e ▸ hb), henv⟩
  · have : i ≠ id := fun e => hid (e ▸ hi)
    simp [Cx.mv, this]
  · by_cases e : b = (c.mu d).1
    · subst e; exact hcs
    · simp only [csize, Cx.mv, hother b e]
  · have hne : b ≠ (c.mu d).1 := fun e => hb.2 d o hd e.symm
    refine ⟨⟨by simp [Cx.mv, hsz]; exact hb.1, fun i o' hi => ?_, hb.3⟩, hother b hne⟩
    rcases at_mv hid hud hi with ⟨rfl, _, h3⟩ | ⟨_, _, h2, h3⟩
    · rw [h3]; exact Ne.symm hne
    · rw [h3]; exact hb.2 i o' h2
theorem rel_mv {d id off : Nat} {cs : List AV} {w' : World} {o : AObj} (hid : ¬ c.U id) (hd : c.at_ d = some o) (hR : Rel P c) (hother : ∀ b, b ≠ (c.mu d).1 → w'.heap[b]? = c.w.heap[b]?) (hcs : csize w' (c.mu d).1 = csize c.w (c.mu d).1) (hsz : w'.heap.size = c.w.heap.size) (henv : w'.os = c.w.os ∧ w'.tape = c.w.tape ∧ w'.output = c.w.output)
    (hob : ObjR P (c.mv d id off cs w') ((c.mu d).1, (c.mu d).2 + off) (.cells cs)) : Rel P (c.mv d id off cs w') := by
  have hud := hR.used d o hd
  have he := ext_mv (cs := cs) (off := off) hid hd hR hother hcs hsz henv
  refine ⟨fun i o' hi => ?_, fun i j o1 o2 hi hj hij => ?_, fun i o' hi => ?_, ?_, fun i o' hi hh => ?_, fun b hb => by have := hR.hidlt b hb; simp [Cx.mv, hsz]; exact this⟩
  · rcases at_mv hid hud hi with ⟨h1, _, _⟩ | ⟨_, _, h2, _⟩
    · exact .inr h1
    · exact .inl (hR.used i o' h2)
  · rcases at_mv hid hud hi with ⟨h1, _, h3⟩ | ⟨_, h1, h2, h3⟩ <;> rcases at_mv hid hud hj with ⟨h4, _, h6⟩ | ⟨_, h4, h5, h6⟩
    · rw [h1, h4]
    · rw [h3, h6] at hij; exact absurd (hR.inj d j o o2 hd h5 hij).symm h4
    · rw [h3, h6] at hij; exact absurd (hR.inj i d o1 o h2 hd hij) h1
    · rw [h3, h6] at hij; exact hR.inj i j o1 o2 h2 h5 hij
  · rcases at_mv hid hud hi with ⟨h1, h2, h3⟩ | ⟨_, h1, h2, h3⟩
    · rw [h3, h2]; exact hob
    · rw [h3]; exact (hR.obj i o' h2).ext he (hother _ fun e => h1 (hR.inj i d o' o h2 hd e))
  · obtain ⟨N, hN⟩ := hR.many
    exact ⟨max N (id + 1), fun i hi => by
      rcases hi with hi | hi
      · have := hN i hi; omega
      · omega⟩
  · rcases at_mv hid hud hi with ⟨_, _, h3⟩ | ⟨_, _, h2, h3⟩
    · rw [h3] at hh; exact hR.nohid d o hd hh
    · rw [h3] at hh; exact hR.nohid i o' h2 hh

theorem flatten_at {sz : Nat} : ∀ (els : List (List AV)), (∀ e ∈ els, e.length = sz) → ∀ (j : Nat) x, els.flatten[j]? = some x → ∃ el, els[j / sz]? = some el ∧ el[j % sz]? = some x ∧ 0 < sz
  | [], _, j, x, h => by simp at h
  | e :: els, hl, j, x, h => by
    have he := hl e (List.mem_cons_self ..)
    rw [List.flatten_cons] at h
    rcases Nat.lt_or_ge j sz with hj | hj
    · rw [List.getElem?_append_left (by omega)] at h
      refine ⟨e, ?_, ?_, by omega⟩
      · rw [Nat.div_eq_of_lt hj]; rfl
      · rw [Nat.mod_eq_of_lt hj]; exact h
    · rw [List.getElem?_append_right (by omega), he] at h
      obtain ⟨el, h1, h2, h3⟩ := flatten_at els (fun e' he' => hl e' (List.mem_cons_of_mem _ he')) (j - sz) x h
      refine ⟨el, ?_, ?_, h3⟩
      · rw [Nat.div_eq_sub_div h3 hj]; exact h1
      · rw [Nat.mod_eq_sub_mod hj]; exact h2
theorem flatten_length {sz : Nat} : ∀ (els : List (List AV)), (∀ e ∈ els, e.length = sz) → els.flatten.length = els.length * sz
  | [], _ => by simp
  | e :: els, hl => by
    rw [List.flatten_cons, List.length_append, flatten_length els fun e' he' => hl e' (List.mem_cons_of_mem _ he'), hl e (List.mem_cons_self ..), List.length_cons, Nat.succ_mul]; omega
theorem src_spec (hR : Rel P c) {sz n : Nat} {x : AV} {u : Value} {src : List AV} {rd : List Nat} (hx : RR c x u) (h : srcV c.at_ sz x = some (src, n, rd)) :
    src.length = n * sz ∧ ∃ A cap, u = .slice A n cap ∧ (0 < n → ∃ b q, A = some ⟨b, q, none⟩ ∧ RC1 (RR c) src fun j => c.w.cell? ⟨b, q + j, none⟩) := by
  unfold srcV at h
  split at h
  · cases h
    obtain ⟨A, rfl⟩ := RR_nils.1 hx
    exact ⟨by simp, A, 0, rfl, fun h => by omega⟩
  · split at h
    · rename_i els hall
      cases h
      have hall' : ∀ e ∈ els, e.length = sz := fun e he => by have := List.all_eq_true.1 hall e he; simpa using this
      obtain ⟨A, cap, rfl, _, _, h3⟩ := RR_isl.1 hx
      refine ⟨flatten_length els hall', A, cap, rfl, fun hpos => ?_⟩
      obtain ⟨b, off, sz', rfl, _, h5⟩ := h3 (by intro e; subst e; simp at hpos)
      refine ⟨b, off, rfl, fun j y hy => ?_⟩
      obtain ⟨el, h6, h7, h8⟩ := flatten_at els hall' j y hy
      obtain ⟨h9, h10⟩ := h5 _ el h6
      have : sz' = sz := by rw [← h9]; exact hall' el (List.mem_of_getElem? h6)
      subst this
      obtain ⟨v, hv, hr⟩ := h10 _ y h7
      refine ⟨v, ?_, hr⟩
      have : off + j / sz' * sz' + j % sz' = off + j := by have := Nat.div_add_mod j sz'; rw [Nat.mul_comm] at this; omega
      have hv' : c.w.cell? ⟨b, off + j / sz' * sz' + j % sz', none⟩ = some v := hv
      rw [this] at hv'; exact hv'
    · cases h
  · rename_i id off len cp sz'
    split at h
    · rename_i cs hcs
      split at h
      · rename_i hc
        cases h
        obtain ⟨h1, _, cap, rfl, _⟩ := RR_sl.1 hx
        refine ⟨by simp; omega, _, cap, rfl, fun _ => ⟨_, _, rfl, ?_⟩⟩
        obtain ⟨ar, T, h2, h3⟩ := hR.obj id _ (cellsAt_some hcs)
        refine (RCs.take (RCs.drop h3 off) _).imp (fun _ _ h => h) fun j u hj => ?_
        rw [cell_of h2, Nat.add_assoc]; exact hj
      · cases h
    · cases h
  · cases h
/-- The cells that are appended, read one by one. -/
theorem src_list (hR : Rel P c) {sz n : Nat} {x : AV} {u : Value} {src : List AV} {rd : List Nat} (hx : RR c x u) (h : srcV c.at_ sz x = some (src, n, rd)) :
    ∃ (A : Option Addr) (cap : Nat) (news : List Value), u = .slice A n cap ∧ news.length = n * sz ∧ src.length = n * sz ∧ RC1 (RR c) src (fun j => news[j]?) ∧ (0 < n → ∃ p, A = some p ∧ ∀ (j : Nat) v, news[j]? = some v → c.w.cell? (p.add j) = some v) ∧
      ∀ w : World, w.heap = c.w.heap → (Builtin.firstCells sz n u).run P w = .ok news.toArray w := by
  obtain ⟨h1, A, cap, rfl, h2⟩ := src_spec hR hx h
  rcases Nat.eq_zero_or_pos n with h0 | h0
  · subst h0
    have : src = [] := List.eq_nil_of_length_eq_zero (by simpa using h1)
    subst this
    refine ⟨A, cap, [], rfl, by simp, h1, fun j x hx => by simp at hx, fun h => by omega, fun w _ => ?_⟩
    cases A <;> simp [Builtin.firstCells, loadCells, loadCellsFrom]
  · obtain ⟨b, q, rfl, h3⟩ := h2 h0
    obtain ⟨news, h4, h5, h6⟩ := h3.list
    have hc : ∀ (j : Nat) v, news[j]? = some v → c.w.cell? ((⟨b, q, none⟩ : Addr).add j) = some v := fun j v hv => by rw [add_addr]; exact h5 j v hv
    refine ⟨_, cap, news, rfl, by rw [h4, h1], h1, h6, fun _ => ⟨_, rfl, hc⟩, fun w hw => ?_⟩
    exact run_firstCells_some (P := P) w sz n _ n cap news (by rw [h4, h1]) fun j v hv => by
      have := hc j v hv
      simp only [World.cell?, hw] at this ⊢
      exact this
theorem one_of_list {xs : List AV} {vs : List Value} (hl : vs.length = xs.length) (h : RC1 (RR c) xs fun j => vs[j]?) : ∀ v ∈ vs, One v := fun v hv => by
  obtain ⟨j, hj⟩ := List.mem_iff_getElem?.1 hv
  have hlt : j < xs.length := by rw [← hl]; exact (List.getElem?_eq_some_iff.1 hj).1
  obtain ⟨u, hu, _, h1⟩ := h j _ (List.getElem?_eq_getElem hlt)
  have hu' : vs[j]? = some u := hu
  rw [hj] at hu'; cases hu'; exact h1
/-- Cells are written into a block that has a name. -/
theorem write_row (hR : Rel P c) {d off : Nat} {cs src : List AV} {news : List Value} (hd : c.at_ d = some (.cells cs)) (hl : news.length = src.length) (hs : RC1 (RR c) src fun j => news[j]?) (hfit : (c.mu d).2 + off + news.length ≤ csize c.w (c.mu d).1) :
    ∃ w' ar T, (storeCells ⟨(c.mu d).1, (c.mu d).2 + off, none⟩ news).run P c.w = .ok () w' ∧ c.w.heap[(c.mu d).1]? = some (.cells ar T (0, 0)) ∧ RC1 (RR c) cs (fun j => ar[(c.mu d).2 + j]?) ∧
      w'.heap[(c.mu d).1]? = some (.cells (overA ar ((c.mu d).2 + off) news) T (0, 0)) ∧ (∀ b, b ≠ (c.mu d).1 → w'.heap[b]? = c.w.heap[b]?) ∧ csize w' (c.mu d).1 = csize c.w (c.mu d).1 ∧ w'.heap.size = c.w.heap.size ∧ (c.mu d).2 + off + news.length ≤ ar.size ∧ w'.os = c.w.os ∧ w'.tape = c.w.tape ∧ w'.output = c.w.output := by
  obtain ⟨ar, T, h1, h2⟩ := hR.obj d _ hd
  have hcs : csize c.w (c.mu d).1 = ar.size := by simp [csize, h1]
  obtain ⟨w', h3, h4, h5, h6, h7⟩ := run_storeCells_row (P := P) news (c.mu d).1 ((c.mu d).2 + off) 0 c.w ar T h1 (by omega) (one_of_list hl hs)
  exact ⟨w', ar, T, h3, h1, h2, h4, h5, by simp [csize, h1, h4, overA_size], h6, by omega, h7⟩
end
end Go.Am
