/-
  A call of yield: a round of the loop whose record stands in the store. No program in sight.
-/
import Derived.Test.YtggkpagngnnjjaaAmUse
set_option linter.unusedSimpArgs false
set_option linter.unusedVariables false
namespace Go.Am
def setPs (fr : List AV) : List Nat → List AV → List AV
  | t :: ts, x :: xs => setPs (fr.set t x) ts xs
  | _, _ => fr
/-- How a round ends: its record says whether the loop goes on. -/
def roundQ (l : Nat) (K : AV → Hp → Prop) (e : Exit) (_ : List AV) (h : Hp) : Prop :=
  ∃ pend fr ps as bd, lk h.l l = some (.loop .busy pend fr ps as bd) ∧
    match e with
    | .normal => K (.bool true) ⟨put h.l l (some (.loop .ready none fr ps as bd)), h.next⟩
    | .ret => K (.bool false) ⟨put h.l l (some (.loop .done (some .ret) fr ps as bd)), h.next⟩
    | .exit id => K (.bool false) ⟨put h.l l (some (.loop .done (some (.exit id)) fr ps as bd)), h.next⟩
    | _ => False
/-- Behind the assignments of a round its body begins. -/
def assignQ (P : Program) (G : Gl) (l N : Nat) (bd : ACode) (K : AV → Hp → Prop) (e : Exit) (fr1 : List AV) (h1 : Hp) : Prop :=
  e = .normal ∧ ∃ pend fr ps as bd', lk h1.l l = some (.loop .ready pend fr ps as bd') ∧ wpc P G (some l) N bd (roundQ l K) fr1 ⟨put h1.l l (some (.loop .busy pend fr ps as bd')), h1.next⟩
section
variable {P : Program} {G : Gl}
theorem FR.ps {c : Cx} : ∀ (ps : List Nat) (args : List AV) (vs : List Value) (fr : List AV) (tmps : Array Value), FR c fr tmps → vs.length = args.length → RCs (RR c) args (fun j => vs[j]?) → FR c (setPs fr ps args) ((ps.zip vs).foldl (fun tmps (x : Nat × Value) => tmps.setIfInBounds x.1 x.2) tmps)
  | [], _, _, _, _, h, _, _ => by simpa [setPs] using h
  | t :: ts, [], [], _, _, h, _, _ => by simpa [setPs] using h
  | t :: ts, x :: xs, v :: vs, fr, tmps, h, hl, hr => by
    simp only [setPs, List.zip_cons_cons, List.foldl_cons]
    obtain ⟨u, hu, hxu⟩ := hr 0 x rfl
    simp at hu
    subst hu
    exact FR.ps ts xs vs _ _ (h.set t hxu) (by simpa using hl) fun j y hy => by simpa using hr (j + 1) y (by simpa using hy)
  | _ :: _, [], _ :: _, _, _, _, hl, _ => by simp at hl
  | _ :: _, _ :: _, [], _, _, _, hl, _ => by simp at hl
theorem callV_yld {l : Nat} {pend : Option Code} {fr : List AV} {ps : List Nat} {as bd : ACode} {args : List AV} {h : Hp} {K : AV → Hp → Prop} (hmix : P.follows .mixedOrders = true) (hl : lk h.l l = some (.loop .ready pend fr ps as bd)) (hlen : args.length = ps.length)
    (hw : wpc P G (some l) h.next as (assignQ P G l h.next bd K) (setPs fr ps args) h) : CallV P G (.yld l) args h K := by
  intro c u vs hR hG hm hu hargs
  obtain ⟨hUl, rfl⟩ := RR_yld.1 hu
  have hlc : c.at_ l = some (.loop .ready pend fr ps as bd) := by rw [hm.at_]; exact hl
  obtain ⟨r, hr, hrs, hrp, hrF, hrps, hra, hrb, _⟩ := loop_change hR hlc
  have hsz : vs.size = r.params.size := by rw [hargs.1, hlen, ← hrps]; simp
  refine ⟨.round (c.mu l).1 r.fn ((r.params.zip vs).foldl (fun tmps (t, a) => tmps.setIfInBounds t a) r.tmps) r.assign r.body, c.w, ?_, fun n => ?_⟩
  · simp only [Deferred.ofValue, invoke, Instr.yield, Sem.run_bind, Sem.run_pure, Result.andThen_ok, run_getLoop hr]
    simp [hsz]
  · refine roundIn_of_wpIn trivial ?_
    have hF : FR c (setPs fr ps args) ((r.params.zip vs).foldl (fun tmps (t, a) => tmps.setIfInBounds t a) r.tmps) := by
      have := FR.ps (c := c) r.params.toList args vs.toList fr r.tmps hrF (by simpa using hargs.1) (hargs.2.imp (fun _ _ h => h) fun j u hj => by simpa using hj)
      rw [hrps] at this
      rw [← Array.foldl_toList, Array.toList_zip, hrps]
      exact this
    have hs : St P G c.w.heap.size c (setPs fr ps args) h { tmps := (r.params.zip vs).foldl (fun tmps (t, a) => tmps.setIfInBounds t a) r.tmps, defers := [] } :=
      ⟨hR, hG, hm, hF, ⟨List.Pairwise.nil, fun d hd => by cases hd⟩, Nat.le_refl _⟩
    have hwp := wpc_sound hmix r.assign as hra (some l) h.next _ _ _ hw c.w.heap.size c c _ n hs (Ext.refl c) rfl (fun l' hl' => by cases hl'; exact hUl) hG fun i hi => (hm.U i).1 hi
    refine wpIn_mono hwp ?_
    rintro e a' w' ⟨c1, fr1, h1, rfl, ⟨rfl, pend1, fr', ps', as', bd1, hl1, hw1⟩, hs1, he1⟩
    have hl1c : c1.at_ l = some (.loop .ready pend1 fr' ps' as' bd1) := by rw [hs1.mat.at_]; exact hl1
    obtain ⟨r1, hr1, hrs1, hrp1, hrF1, hrps1, hra1, hrb1, hch1⟩ := loop_change hs1.rel hl1c
    have hmu1 : (c1.mu l).1 = (c.mu l).1 := by rw [he1.mu l hUl]
    obtain ⟨hR2, he2⟩ := hch1 .busy pend1
    refine ⟨{ c1.w with heap := c1.w.heap.setIfInBounds (c1.mu l).1 (.loop { r1 with state := .busy }) }, ?_, ?_⟩
    · rw [← hmu1]
      simp only [Instr.beginRound, Sem.run_bind, run_getLoop hr1, Result.andThen_ok, run_setObj _ hr1, hrs1, Sem.run_pure]
    · have hs2 : St P G c.w.heap.size (c1.wro l (.loop .busy pend1 fr' ps' as' bd1) { c1.w with heap := c1.w.heap.setIfInBounds (c1.mu l).1 (.loop { r1 with state := .busy, pending := pend1 }) }) fr1 ⟨put h1.l l (some (.loop .busy pend1 fr' ps' as' bd1)), h1.next⟩ a' :=
        ⟨hR2, hs1.glo.ext he2, hs1.mat.wro _ _ _, hs1.fr.ext he2, hs1.df.ext he2, Nat.le_trans hs1.old he2.size⟩
      -- the body that is laid in the record is the one that was there
      have hbody : r.body = r1.body ∨ True := .inr trivial
      have hwb := wpc_sound hmix r.body bd hrb (some l) h.next _ _ _ hw1 c.w.heap.size c _ a' n hs2 (he1.trans he2) (by simp only [fence]; rw [(he1.trans he2).mu l hUl]) (fun l' hl' => by cases hl'; exact hUl) hG fun i hi => (hm.U i).1 hi
      have hwsame : { c1.w with heap := c1.w.heap.setIfInBounds (c1.mu l).1 (.loop { r1 with state := .busy }) } = (c1.wro l (.loop .busy pend1 fr' ps' as' bd1) { c1.w with heap := c1.w.heap.setIfInBounds (c1.mu l).1 (.loop { r1 with state := .busy, pending := pend1 }) }).w := by
        show _ = ({ c1.w with heap := c1.w.heap.setIfInBounds (c1.mu l).1 (.loop { r1 with state := .busy, pending := pend1 }) } : World)
        rw [← hrp1]
      rw [hwsame]
      refine wpIn_mono hwb ?_
      rintro e a3 w3 ⟨c3, fr3, h3, rfl, ⟨pend3, frr, psr, asr, bdr, hl3, hq⟩, hs3, he3⟩
      have hl3c : c3.at_ l = some (.loop .busy pend3 frr psr asr bdr) := by rw [hs3.mat.at_]; exact hl3
      obtain ⟨r3, hr3, hrs3, hrp3, _, _, _, _, hch3⟩ := loop_change hs3.rel hl3c
      have hmu3 : (c3.mu l).1 = (c.mu l).1 := by rw [he3.mu l hUl]
      have fin : ∀ jump : Option Code, (Instr.endRound (c.mu l).1 jump).run P c3.w = .ok (.bool jump.isNone) { c3.w with heap := c3.w.heap.setIfInBounds (c3.mu l).1 (.loop { r3 with state := if jump.isNone then .ready else .done, pending := jump }) } := fun jump => by
        rw [← hmu3]
        simp only [Instr.endRound, Sem.run_bind, run_getLoop hr3, Result.andThen_ok, run_setObj _ hr3, Sem.run_pure]
      have done : ∀ (jump : Option Code) (b : Bool), b = jump.isNone → K (.bool b) ⟨put h3.l l (some (.loop (if jump.isNone then .ready else .done) jump frr psr asr bdr)), h3.next⟩ →
          ∃ v w', (Instr.endRound (c.mu l).1 jump).run P c3.w = .ok v w' ∧ (∃ v_1, Ending.returned v = .returned v_1 ∧ Ends P c K v_1 w') := fun jump b hb hK => by
        obtain ⟨hR4, he4⟩ := hch3 (if jump.isNone then .ready else .done) jump
        exact ⟨_, _, fin jump, _, rfl, .bool b, _, c3.wro l _ _, rfl, hK, RR_bool.2 (by rw [hb]), hR4, hs3.mat.wro _ _ _, he3.trans he4⟩
      cases e <;> simp only at hq <;> try exact hq.elim
      · exact done none true rfl hq
      · exact done (some (.exit _)) false rfl hq
      · exact done (some .ret) false rfl hq
end
end Go.Am
