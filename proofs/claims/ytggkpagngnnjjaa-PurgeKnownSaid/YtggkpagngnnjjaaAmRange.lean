/-
  A range over a function, and all code. No program in sight.
-/
import Derived.Test.YtggkpagngnnjjaaAmCode
set_option linter.unusedSimpArgs false
set_option linter.unusedVariables false
namespace Go.Am
section
variable {P : Program} {G : Gl}
/-- An object gives way to another one, in its place. -/
def Cx.wro (c : Cx) (id : Nat) (o : AObj) (w' : World) : Cx := { U := c.U, at_ := upd c.at_ [(id, some o)], mu := c.mu, w := w', hid := c.hid }
theorem ext_wro {c : Cx} {id : Nat} {o o' : AObj} {w' : World} (hR : Rel P c) (ho : c.at_ id = some o) (hother : ∀ b, b ≠ (c.mu id).1 → w'.heap[b]? = c.w.heap[b]?) (hcs : csize w' (c.mu id).1 = csize c.w (c.mu id).1) (hsz : w'.heap.size = c.w.heap.size) (henv : w'.os = c.w.os ∧ w'.tape = c.w.tape ∧ w'.output = c.w.output) :
    Ext c (c.wro id o' w') := by
  have := ext_wr (cs := []) hR ho hother hcs hsz henv
  refine ⟨this.used, this.mu, this.csz, fun b hb => ⟨⟨(this.froz b hb).1.1, fun i o1 hi => ?_, hb.3⟩, (this.froz b hb).2⟩, this.size, this.hid, this.hidh, this.env⟩
  simp only [Cx.wro, upd] at hi ⊢
  split at hi
  · rename_i e; subst e; exact hb.2 i o ho
  · exact hb.2 i o1 hi
theorem rel_wro {c : Cx} {id : Nat} {o o' : AObj} {w' : World} (hR : Rel P c) (ho : c.at_ id = some o) (hother : ∀ b, b ≠ (c.mu id).1 → w'.heap[b]? = c.w.heap[b]?) (hcs : csize w' (c.mu id).1 = csize c.w (c.mu id).1) (hsz : w'.heap.size = c.w.heap.size) (henv : w'.os = c.w.os ∧ w'.tape = c.w.tape ∧ w'.output = c.w.output)
    (hob : ObjR P (c.wro id o' w') (c.mu id) o') : Rel P (c.wro id o' w') := by
  have he := ext_wro (o' := o') hR ho hother hcs hsz henv
  have hat : ∀ i o1, (c.wro id o' w').at_ i = some o1 → (i = id ∧ o1 = o') ∨ (i ≠ id ∧ c.at_ i = some o1) := fun i o1 hi => by
    simp only [Cx.wro, upd] at hi
    split at hi
    · rename_i e; cases hi; exact .inl ⟨e, rfl⟩
    · rename_i e; exact .inr ⟨e, hi⟩
  have hlive : ∀ i o1, (c.wro id o' w').at_ i = some o1 → ∃ o2, c.at_ i = some o2 := fun i o1 hi => by
    rcases hat i o1 hi with ⟨e, _⟩ | ⟨_, h⟩
    · exact ⟨o, e ▸ ho⟩
    · exact ⟨o1, h⟩
  refine ⟨fun i o1 hi => ?_, fun i j o1 o2 hi hj hij => ?_, fun i o1 hi => ?_, hR.many, fun i o1 hi => (let ⟨o2, h1⟩ := hlive i o1 hi; hR.nohid i o2 h1), fun b hb => by have := hR.hidlt b hb; simp [Cx.wro, hsz]; exact this⟩
  · obtain ⟨o2, h1⟩ := hlive i o1 hi; exact hR.used i o2 h1
  · obtain ⟨p1, h1⟩ := hlive i o1 hi
    obtain ⟨p2, h2⟩ := hlive j o2 hj
    exact hR.inj i j p1 p2 h1 h2 hij
  · rcases hat i o1 hi with ⟨e1, e2⟩ | ⟨n1, h1⟩
    · rw [e1, e2]; exact hob
    · exact (hR.obj i o1 h1).ext he (hother _ fun e => n1 (hR.inj i id o1 o h1 ho e))
theorem Mat.wro {c : Cx} {h : Hp} (m : Mat c h) (id : Nat) (o : AObj) (w' : World) : Mat (c.wro id o w') ⟨put h.l id (some o), h.next⟩ :=
  ⟨by rw [lk_put, ← m.at_]; rfl, m.U⟩
/-- Something without a name is made. -/
theorem ext_alloc {c : Cx} (ob : Obj) (hR : Rel P c) : Ext c (c.wd (c.w.alloc ob)) :=
  ⟨fun _ h => h, fun _ _ => rfl, fun b hb => by simp only [csize, Cx.wd, heap_alloc_lt c.w ob hb], fun b hb => ⟨⟨by have := hb.1; simp [Cx.wd]; omega, hb.2, hb.3⟩, heap_alloc_lt c.w ob hb.1⟩, by simp [Cx.wd], fun _ => Iff.rfl, fun b hb => heap_alloc_lt c.w ob (hR.hidlt b hb), rfl, rfl, rfl⟩
theorem rel_alloc {c : Cx} (ob : Obj) (hR : Rel P c) : Rel P (c.wd (c.w.alloc ob)) :=
  ⟨hR.used, hR.inj, fun i o ho => (hR.obj i o ho).ext (ext_alloc ob hR) (heap_alloc_lt c.w ob (hR.obj i o ho).lt), hR.many, hR.nohid, fun b hb => by have := hR.hidlt b hb; simp [Cx.wd]; omega⟩
theorem run_getLoop {w : World} {l : Nat} {r : Loop} (h : w.heap[l]? = some (.loop r)) : (Instr.getLoop l).run P w = .ok r w := by
  simp [Instr.getLoop, getObj, Sem.run, h]
theorem run_setObj {w : World} {l : Nat} {r : Loop} (o : Obj) (h : w.heap[l]? = some (.loop r)) : (setObj l o).run P w = .ok () { w with heap := w.heap.setIfInBounds l o } := by
  simp [setObj, Sem.run, h]
/-- A loop's record gives way to another one. -/
theorem loop_change {c : Cx} {l : Nat} {st : LoopState} {pend : Option Code} {fr : List AV} {ps : List Nat} {as bd : ACode} (hR : Rel P c) (hl : c.at_ l = some (.loop st pend fr ps as bd)) : ∃ r : Loop, c.w.heap[(c.mu l).1]? = some (.loop r) ∧ r.state = st ∧ r.pending = pend ∧ FR c fr r.tmps ∧ r.params.toList = ps ∧ ccode P r.assign = some as ∧ ccode P r.body = some bd ∧
    ∀ st' pend', let w' : World := { c.w with heap := c.w.heap.setIfInBounds (c.mu l).1 (.loop { r with state := st', pending := pend' }) }
      Rel P (c.wro l (.loop st' pend' fr ps as bd) w') ∧ Ext c (c.wro l (.loop st' pend' fr ps as bd) w') := by
  obtain ⟨fn, tmps, qs, dn, ca, cb, h1, h2, h3, h4, h5⟩ := hR.obj l _ hl
  refine ⟨_, h1, rfl, rfl, h2, h3, h4, h5, fun st' pend' => ?_⟩
  have hlt := (hR.obj l _ hl).lt
  have hother : ∀ (o : Obj) b, b ≠ (c.mu l).1 → (c.w.heap.setIfInBounds (c.mu l).1 o)[b]? = c.w.heap[b]? := fun o b hb => Array.getElem?_setIfInBounds_ne (Ne.symm hb)
  have hself : ∀ o : Obj, (c.w.heap.setIfInBounds (c.mu l).1 o)[(c.mu l).1]? = some o := fun o => by simp [hlt]
  have he : Ext c _ := ext_wro hR (o' := .loop st' pend' fr ps as bd) (w' := { c.w with heap := c.w.heap.setIfInBounds (c.mu l).1 (.loop { state := st', pending := pend', fn, tmps, params := qs, assign := ca, body := cb, defers := dn }) }) hl (fun b hb => hother _ b hb) (by simp only [csize, hself, h1]) (by simp) ⟨rfl, rfl, rfl⟩
  exact ⟨rel_wro hR hl (fun b hb => hother _ b hb) (by simp only [csize, hself, h1]) (by simp) ⟨rfl, rfl, rfl⟩ ⟨fn, tmps, qs, dn, ca, cb, hself _, h2.ext he, h3, h4, h5⟩, he⟩
theorem callsIn_fence {c : Cx} {rd : Option Nat} {n g : Nat} {args : Array Value} {w : World} {R : Ending → World → Prop} (h : CallsIn Fence.wide n P g args w R) : CallsIn (fence c rd) n P g args w R := by cases rd <;> exact h
theorem rangeF_sound {f : Operand} {ps : Array Tmp} {ca cb : Code} {fa : AX} {as bd : ACode} {rd : Option Nat} {N : Nat} {Q : Exit → List AV → Hp → Prop} {fr : List AV} {h : Hp} (hf : cox f = some fa) (ha : ccode P ca = some as) (hb : ccode P cb = some bd) (hr : RangeA P G rd fa ps.toList as bd Q fr h) : WP P G rd N (.rangeFunc f ps ca cb) Q fr h := by
  obtain ⟨g, fs, cs, hg, hok, hin, hcall⟩ := hr
  intro B c0 cx a n hs he hfen hU _ _
  refine wpIn_rangeFunc fun fn _ => ?_
  obtain ⟨vf, vc, hu, hvf, hvc⟩ := RR_fn.1 (cox_rr hs.fr hs.glo hf hg)
  -- the record is laid
  have laid : ∃ (mark : List Deferred) (c1 : Cx) (dn : Nat), (Instr.enterLoop fn a.tmps ps ca cb (fence c0 rd).round).run P cx.w = .ok (c1.w.heap.size, mark) (c1.w.alloc (.loop { state := .ready, pending := none, fn, tmps := a.tmps, params := ps, assign := ca, body := cb, defers := dn })) ∧ Rel P c1 ∧ Ext cx c1 ∧ c1.at_ = cx.at_ ∧ c1.U = cx.U ∧ c1.mu = cx.mu ∧ DF B c1 (mark ++ a.defers) := by
    cases rd with
    | none =>
      refine ⟨[{ target := .collected cx.w.heap.size, args := #[] }], cx.wd (cx.w.alloc (.deferred (some []))), cx.w.heap.size, ?_, rel_alloc _ hs.rel, ext_alloc _ hs.rel, rfl, rfl, rfl, ?_⟩
      · show (Instr.enterLoop fn a.tmps ps ca cb none).run P cx.w = _
        simp [Instr.enterLoop, newObj, Sem.run, Cx.wd]
      · have h0 := hs.df.ext (ext_alloc (.deferred (some [])) hs.rel)
        refine ⟨List.pairwise_cons.2 ⟨fun d hd => ?_, h0.1⟩, fun d hd => ?_⟩
        · obtain ⟨r, rfl, _, hr, _⟩ := hs.df.2 d hd
          intro e
          simp at e
          have := hr.1
          omega
        · rcases List.mem_cons.1 hd with rfl | hd
          · refine ⟨_, rfl, hs.old, ⟨by simp [Cx.wd], fun i o hi => ?_, fun hh => by have := hs.rel.hidlt _ hh; omega⟩, heap_alloc_eq _ _⟩
            have := (hs.rel.obj i o hi).lt
            show (cx.mu i).1 ≠ _
            omega
          · exact h0.2 d hd
    | some l =>
      obtain ⟨st, pend, fr', ps', as', bd', hl⟩ := hin
      rw [← hs.mat.at_] at hl
      obtain ⟨r, hr, _⟩ := loop_change hs.rel hl
      refine ⟨[], cx, r.defers, ?_, hs.rel, Ext.refl _, rfl, rfl, rfl, hs.df⟩
      have hro : (fence c0 (some l)).round = some (cx.mu l).1 := by rw [← hfen]; rfl
      rw [hro]
      simp only [Instr.enterLoop, Sem.run_bind, run_getLoop hr, Result.andThen_ok, Sem.run_pure]
      simp [newObj, Sem.run]
  obtain ⟨mark, c1, dn, hent, hR1, he1, hat1, hU1, hmu1, hdf1⟩ := laid
  have hid : ¬ c1.U h.next := by rw [hU1]; exact hs.mat.fresh
  generalize hob : Obj.loop { state := .ready, pending := none, fn, tmps := a.tmps, params := ps, assign := ca, body := cb, defers := dn } = ob at hent
  have he2 : Ext c1 (c1.mk' h.next (.loop .ready none fr ps.toList as bd) ob) := ext_new hR1 hid _ _
  have hR2 : Rel P (c1.mk' h.next (.loop .ready none fr ps.toList as bd) ob) := rel_new hR1 hid _ _ ⟨fn, a.tmps, ps, dn, ca, cb, by rw [hob]; exact heap_alloc_eq _ _, hs.fr.ext (he1.trans he2), rfl, ha, hb⟩
  generalize hc2 : c1.mk' h.next (.loop .ready none fr ps.toList as bd) ob = c2 at he2 hR2
  have hw2 : c2.w = c1.w.alloc ob := by rw [← hc2]; rfl
  have hmu2 : (c2.mu h.next).1 = c1.w.heap.size := by rw [← hc2]; simp [Cx.mk']
  have hU2 : c2.U h.next := by rw [← hc2]; exact .inr rfl
  have hm2 : Mat c2 ⟨put h.l h.next (some (.loop .ready none fr ps.toList as bd)), h.next + 1⟩ := by
    rw [← hc2]
    refine ⟨by rw [lk_put]; show upd c1.at_ _ = _; rw [hat1, hs.mat.at_], fun i => ?_⟩
    show (c1.U i ∨ i = h.next) ↔ _
    rw [hU1, hs.mat.U]
    show (i < h.next ∨ i = h.next) ↔ i < h.next + 1
    omega
  have he02 : Ext cx c2 := he1.trans he2
  obtain ⟨next, w3, hrun, hup⟩ := hcall c2 (a.eval f) #[.func (.yield (c2.mu h.next).1) #[] #[]] hR2 (hs.glo.ext he02) hm2 ((cox_rr hs.fr hs.glo hf hg).ext he02) ⟨rfl, fun j x hx => by
    cases j with
    | zero => simp at hx; subst hx; exact ⟨_, rfl, RR_yld.2 ⟨hU2, rfl⟩⟩
    | succ j => simp at hx⟩
  rw [hu, run_callFn hok] at hrun
  cases hrun
  refine ⟨c1.w.heap.size, mark, c1.w.alloc ob, { target := .fn (.func g) vc, args := vf ++ #[.func (.yield c1.w.heap.size) #[] #[]] }, c1.w.alloc ob, g, vf ++ #[.func (.yield c1.w.heap.size) #[] #[]] ++ vc, c1.w.alloc ob, hent, ?_, ?_, ?_, depth_ok c0 rd, ?_⟩
  · simp only [resolve, rangeCall, hu, Deferred.ofValue]
    simp [Act.eval]
  · intro f' _; cases rd <;> trivial
  · have := run_callFn (P := P) (vf := vf) (vc := vc) (vs := #[.func (.yield c1.w.heap.size) #[] #[]]) hok (c1.w.alloc ob)
    simpa [Deferred.ofValue] using this
  · rw [hmu2, hw2] at hup
    refine (callsIn_fence (callsIn_wide.2 hup)).mono ?_
    rintro e w' ⟨v, rfl, r, h2, c3, rfl, ⟨st, pend, fr', ps', as', bd', hl, hst, hq⟩, _, hR3, hm3, he3⟩
    rw [← hm3.at_] at hl
    obtain ⟨rec, hrec, hrs, hrp, _, _, _, _, hch⟩ := loop_change hR3 hl
    have hmu3 : (c3.mu h.next).1 = c1.w.heap.size := by rw [he3.mu _ hU2, hmu2]
    obtain ⟨hR4, he4⟩ := hch .exhausted pend
    have hend : (Instr.endLoop c1.w.heap.size).run P c3.w = .ok pend { c3.w with heap := c3.w.heap.setIfInBounds (c3.mu h.next).1 (.loop { rec with state := .exhausted, pending := pend }) } := by
      rw [← hmu3]
      have hnb : (rec.state == LoopState.busy) = false := by rw [hrs]; cases st <;> first | rfl | exact absurd rfl hst
      simp only [Instr.endLoop, Sem.run_bind, run_getLoop hrec, Result.andThen_ok, hnb, Bool.false_eq_true, if_false, Sem.run_pure, run_setObj _ hrec, hrp]
    refine ⟨pend, _, hend, ?_⟩
    have hst4 : St P G B (c3.wro h.next (.loop .exhausted pend fr' ps' as' bd') _) fr ⟨put h2.l h.next (some (.loop .exhausted pend fr' ps' as' bd')), h2.next⟩ { a with defers := mark ++ a.defers } :=
      ⟨hR4, hs.glo.ext (he02.trans (he3.trans he4)), hm3.wro _ _ _, hs.fr.ext (he02.trans (he3.trans he4)), hdf1.ext (he2.trans (he3.trans he4)), Nat.le_trans hs.old (he02.trans (he3.trans he4)).size⟩
    have he5 := he.trans (he02.trans (he3.trans he4))
    cases pend with
    | none => exact ⟨_, _, _, rfl, hq, hst4, he5⟩
    | some code =>
      cases code <;> simp only at hq <;> try exact hq.elim
      · exact wpIn_exit ⟨_, _, _, rfl, hq, hst4, he5⟩
      · exact wpIn_ret ⟨_, _, _, rfl, hq, hst4, he5⟩
end
end Go.Am
