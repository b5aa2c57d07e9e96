/-
  All code, and functions: what is asked ahead of a body is what its call comes to. No program in sight.
-/
import Derived.Test.YtggkpagngnnjjaaAmRange
set_option linter.unusedSimpArgs false
set_option linter.unusedVariables false
namespace Go.Am
section
variable {P : Program} {G : Gl}
theorem post_ext {B : Nat} {c0 c1 : Cx} {Q : Exit → List AV → Hp → Prop} {e : Exit} {a : Act} {w : World} (he : Ext c0 c1) (h : Post P G B c1 Q e a w) : Post P G B c0 Q e a w := by
  obtain ⟨c', fr', h', h1, h2, h3, h4⟩ := h
  exact ⟨c', fr', h', h1, h2, h3, he.trans h4⟩
theorem wpc_sound (hmix : P.follows .mixedOrders = true) : ∀ (code : Code) (ac : ACode), ccode P code = some ac → ∀ (rd : Option Nat) (N : Nat) (Q : Exit → List AV → Hp → Prop) (fr : List AV) (h : Hp), wpc P G rd N ac Q fr h → WP P G rd N code Q fr h := by
  intro code
  induction code with
  | skip => intro ac hc rd N Q fr h hw B c0 cx a n hs he hf hU hg0 hN; cases hc; exact wpIn_skip ⟨cx, fr, h, rfl, hw, hs, he⟩
  | region id ops draw =>
    intro ac hc rd N Q fr h hw
    cases draw with
    | false =>
      simp only [ccode, Option.map_eq_some_iff] at hc
      obtain ⟨l, hl, rfl⟩ := hc
      exact reg_sound hl hw
    | true =>
      simp only [ccode, Option.map_eq_some_iff] at hc
      obtain ⟨l, hl, rfl⟩ := hc
      exact regD_sound hmix hl hw.1 hw.2
  | seq x y ihx ihy =>
    intro ac hc rd N Q fr h hw B c0 cx a n hs he hf hU hg0 hN
    simp only [ccode] at hc
    split at hc
    · rename_i ax ay hx hy
      cases hc
      refine wpIn_seq (wpIn_mono (ihx ax hx rd N _ fr h hw B c0 cx a n hs he hf hU hg0 hN) ?_)
      rintro e a' w' ⟨c', fr', h', rfl, hq, hs', he'⟩
      cases e <;> try exact ⟨c', fr', h', rfl, hq, hs', he'⟩
      exact ihy ay hy rd N Q fr' h' hq B c0 c' a' n hs' he' (fence_ext he' hU) hU hg0 hN
    · cases hc
  | cond cnd x y ihx ihy =>
    intro ac hc rd N Q fr h hw B c0 cx a n hs he hf hU hg0 hN
    simp only [ccode] at hc
    split at hc
    · rename_i cc ax' ay hcc hx hy
      cases hc
      obtain ⟨t, ht, h1, h2⟩ := hw
      have hr := cox_rr hs.fr hs.glo hcc ht
      simp only [RR_bool] at hr
      refine wpIn_cond hr ?_
      cases t with
      | true => exact ihx _ hx rd N Q fr h (h1 rfl) B c0 cx a n hs he hf hU hg0 hN
      | false => exact ihy _ hy rd N Q fr h (h2 rfl) B c0 cx a n hs he hf hU hg0 hN
    · cases hc
  | block id x ih =>
    intro ac hc rd N Q fr h hw B c0 cx a n hs he hf hU hg0 hN
    simp only [ccode, Option.map_eq_some_iff] at hc
    obtain ⟨ac', hac, rfl⟩ := hc
    refine wpIn_block (wpIn_mono (ih ac' hac rd N _ fr h hw B c0 cx a n hs he hf hU hg0 hN) ?_)
    rintro e a' w' ⟨c', fr', h', rfl, hq, hs', he'⟩
    cases e <;> try exact ⟨c', fr', h', rfl, hq, hs', he'⟩
    rename_i j
    simp only [blockQ] at hq
    simp only [Exit.inBlock]
    split <;> rename_i hj
    · rw [if_pos hj] at hq; exact ⟨c', fr', h', rfl, hq, hs', he'⟩
    · rw [if_neg hj] at hq; exact ⟨c', fr', h', rfl, hq, hs', he'⟩
  | loop x ih =>
    intro ac hc rd N Q fr h hw B c0 cx a n hs he hf hU hg0 hN
    simp only [ccode, Option.map_eq_some_iff] at hc
    obtain ⟨ac', hac, rfl⟩ := hc
    obtain ⟨I, m, ⟨σ0, fr0, h0, hweak, hk0, hn0, hI0⟩, hround⟩ := hw
    have toRes : ∀ (c : Cx) (σ : Nat → Nat) (fr1 fr' : List AV) (h1 h' : Hp) (a : Act), Ext c0 c → St P G B c fr1 h1 a → Weak P σ fr1 h1 fr' h' → Keeps N σ → N ≤ h'.next → St P G B (c.ren σ h') fr' h' a ∧ Ext c0 (c.ren σ h') := fun c σ fr1 fr' h1 h' a he hs hw hk hn => by
      obtain ⟨w1, w2, w3⟩ := hw c a.tmps hs.rel hs.mat hs.fr
      have e1 := ext_ren he hs.mat w3 (fun i hi => Nat.lt_of_lt_of_le (hN i hi) hn) fun i hi => hk i (hN i hi)
      have e2 : ∀ b, c.Froz b → (c.ren σ h').Froz b := fun b hb => ⟨hb.1, fun i o hi => by obtain ⟨o', ho'⟩ := w3 i o hi; exact hb.2 (σ i) o' (by rw [hs.mat.at_]; exact ho'), hb.3⟩
      refine ⟨⟨w1, hg0.ext e1, ⟨rfl, fun i => Iff.rfl⟩, w2, ⟨hs.df.1, fun d hd => ?_⟩, hs.old⟩, e1⟩
      obtain ⟨r, k1, k0, k2, k3⟩ := hs.df.2 d hd
      exact ⟨r, k1, k0, e2 r k2, k3⟩
    obtain ⟨s0, e0⟩ := toRes cx σ0 fr fr0 h h0 a he hs hweak hk0 hn0
    refine wpIn_loop_rel (ι := Cx × List AV × Hp) (fun i a w => i.1.w = w ∧ St P G B i.1 i.2.1 i.2.2 a ∧ Ext c0 i.1 ∧ I i.2.1 i.2.2) (fun i => m i.2.1 i.2.2) (cx.ren σ0 h0, fr0, h0) ⟨rfl, s0, e0, hI0⟩ ?_
    rintro ⟨c1, fr1, h1⟩ a1 w1 ⟨rfl, s1, e1, hI1⟩
    have hf1 : fence c1 rd = fence c0 rd := fence_ext e1 hU
    have hb := ih ac' hac rd N _ fr1 h1 (hround fr1 h1 hI1) B c0 c1 a1 n s1 e1 hf1 hU hg0 hN
    refine wpIn_mono hb ?_
    rintro e a' w' ⟨c', fr', h', rfl, hq, hs', he'⟩
    cases e <;> try exact ⟨c', fr', h', rfl, hq, hs', he'⟩
    obtain ⟨σ2, fr2, h2, hw2, hk2, hn2, hI2, hm2⟩ := hq
    obtain ⟨s2, e2⟩ := toRes c' σ2 fr' fr2 h' h2 a' he' hs' hw2 hk2 hn2
    exact ⟨(c'.ren σ2 h2, fr2, h2), ⟨rfl, s2, e2, hI2⟩, hm2⟩
  | rangeFunc f ps x y ihx ihy =>
    intro ac hc rd N Q fr h hw
    simp only [ccode] at hc
    split at hc
    · rename_i fa ax' ay hfa hx hy
      cases hc
      exact rangeF_sound hfa hx hy hw
    · cases hc
  | exit id => intro ac hc rd N Q fr h hw B c0 cx a n hs he hf hU hg0 hN; cases hc; exact wpIn_exit ⟨cx, fr, h, rfl, hw, hs, he⟩
  | ret => intro ac hc rd N Q fr h hw B c0 cx a n hs he hf hU hg0 hN; cases hc; exact wpIn_ret ⟨cx, fr, h, rfl, hw, hs, he⟩
  | _ => intro ac hc; cases hc

/-- Where a function's results stand. -/
inductive ARes where
  | tmp (t : Nat)
  | cell (a : Nat) (ag : Bool) (n : Nat)
def cres (P : Program) : ResultVar → Option ARes
  | .tmp t => some (.tmp t)
  | .cell a t => match aggOf P t, szOf P t with | some b, some n => some (.cell a b n) | _, _ => none
def resV (fr : List AV) (at_ : At) : ARes → Option AV
  | .tmp t => fr[t]?
  | .cell a ag n => match fr[a]? with
    | some v => (loadV at_ ag n v).map (·.1)
    | none => none
def resVs (fr : List AV) (at_ : At) : List ARes → Option (List AV)
  | [] => some []
  | r :: rs => match resV fr at_ r, resVs fr at_ rs with
    | some v, some l => some (v :: l)
    | _, _ => none
def packV : List AV → AV
  | [v] => v
  | l => .tup l
/-- Behind a body: its results, of which slices may have become values, and the store that is left. -/
def finQ (P : Program) (rs : List ARes) (N : Nat) (K : AV → Hp → Prop) : Exit → List AV → Hp → Prop
  | .normal => fun fr h => ∃ l σ r' h', resVs fr (lk h.l) rs = some l ∧ Weak P σ [packV l] h [r'] h' ∧ Keeps N σ ∧ N ≤ h'.next ∧ K r' h'
  | .ret => fun fr h => ∃ l σ r' h', resVs fr (lk h.l) rs = some l ∧ Weak P σ [packV l] h [r'] h' ∧ Keeps N σ ∧ N ≤ h'.next ∧ K r' h'
  | _ => fun _ _ => False
/-- The deferred blocks are taken: cells stay as they are. -/
structure Taken (B : Nat) (w w' : World) : Prop where
  size : w'.heap.size = w.heap.size
  cells : ∀ b : Nat, (∀ ds, w.heap[b]? ≠ some (Obj.deferred ds)) → w'.heap[b]? = w.heap[b]?
  dfr : ∀ (b : Nat) ds, w.heap[b]? = some (Obj.deferred ds) → ∃ ds', w'.heap[b]? = some (Obj.deferred ds')
  low : ∀ b : Nat, b < B → w'.heap[b]? = w.heap[b]?
  env : w'.os = w.os ∧ w'.tape = w.tape ∧ w'.output = w.output
theorem Taken.refl (B : Nat) (w : World) : Taken B w w := ⟨rfl, fun _ _ => rfl, fun _ ds h => ⟨ds, h⟩, fun _ _ => rfl, rfl, rfl, rfl⟩
theorem Taken.trans {B : Nat} {w w1 w2 : World} (h : Taken B w w1) (h' : Taken B w1 w2) : Taken B w w2 := by
  refine ⟨h'.size.trans h.size, fun b hb => ?_, fun b ds hb => ?_, fun b hb => (h'.low b hb).trans (h.low b hb), h'.env.1.trans h.env.1, h'.env.2.1.trans h.env.2.1, h'.env.2.2.trans h.env.2.2⟩
  · have e := h.cells b hb
    exact (h'.cells b fun ds hd => hb ds (by rw [← e]; exact hd)).trans e
  · obtain ⟨ds1, h1⟩ := h.dfr b ds hb; exact h'.dfr b ds1 h1
theorem Taken.cell {B : Nat} {w w' : World} (h : Taken B w w') (p : Addr) : w'.cell? p = w.cell? p := by
  unfold World.cell?
  by_cases hb : ∃ ds, w.heap[p.block]? = some (Obj.deferred ds)
  · obtain ⟨ds, hd⟩ := hb
    obtain ⟨ds', hd'⟩ := h.dfr _ _ hd
    rw [hd, hd']
  · rw [h.cells _ fun ds hd => hb ⟨ds, hd⟩]
theorem Taken.csz {B : Nat} {w w' : World} (h : Taken B w w') (b : Nat) : csize w' b = csize w b := by
  unfold csize
  by_cases hb : ∃ ds, w.heap[b]? = some (Obj.deferred ds)
  · obtain ⟨ds, hd⟩ := hb
    obtain ⟨ds', hd'⟩ := h.dfr _ _ hd
    rw [hd, hd']
  · rw [h.cells _ fun ds hd => hb ⟨ds, hd⟩]
theorem Taken.extW {B : Nat} {c : Cx} {w' : World} (h : Taken B c.w w') : ExtW c (c.wd w') :=
  ⟨fun _ h => h, fun _ _ => rfl, fun b _ => h.csz b, fun b hb => ⟨⟨by show b < w'.heap.size; rw [h.size]; exact hb.1, hb.2, hb.3⟩, fun o v hv => by show w'.cell? _ = _; rw [h.cell]; exact hv⟩, by show _ ≤ w'.heap.size; rw [h.size]; exact Nat.le_refl _⟩
theorem Taken.rel {B : Nat} {c : Cx} {w' : World} (h : Taken B c.w w') (hR : Rel P c) : Rel P (c.wd w') := by
  have e := h.extW
  refine ⟨hR.used, hR.inj, fun i o hi => ?_, hR.many, hR.nohid, fun b hb => by show b < w'.heap.size; rw [h.size]; exact hR.hidlt b hb⟩
  have ho := hR.obj i o hi
  show ObjR P (c.wd w') (c.mu i) o
  have hb : ∀ x, c.w.heap[(c.mu i).1]? = some x → (∀ ds, x ≠ .deferred ds) → w'.heap[(c.mu i).1]? = some x := fun x hx hne => by
    rw [h.cells _ fun ds hd => by rw [hx] at hd; exact hne ds (Option.some.inj hd)]; exact hx
  cases o with
  | cells cs => obtain ⟨a, T, h1, h2⟩ := ho; exact ⟨a, T, hb _ h1 (fun ds h => by cases h), h2.imp (fun _ _ h => ⟨h.1.extW e, h.2⟩) fun _ _ h => h⟩
  | loop => obtain ⟨fn, tmps, qs, dn, ca, cb, h1, h2, h3⟩ := ho; exact ⟨fn, tmps, qs, dn, ca, cb, hb _ h1 (fun ds h => by cases h), ⟨h2.1, h2.2.imp (fun _ _ => RR.extW e) fun _ _ h => h⟩, h3⟩
  | maps es => obtain ⟨a, k, h1, h2, h3⟩ := ho; exact ⟨a, k, hb _ h1 (fun ds h => by cases h), h2, fun j kv hj => let ⟨m, h4, h5, h6⟩ := h3 j kv hj; ⟨m, h4, h5.extW e, h6.extW e⟩⟩
theorem take_all {B n : Nat} {fn : Func} {tmps : Array Value} {R : Ending → World → Prop} {c : Cx} : ∀ (ds : List Deferred) (w : World), Taken B c.w w → ds.Pairwise (fun d e => d.target ≠ e.target) → (∀ d ∈ ds, ∃ r, d = { target := .collected r, args := #[] } ∧ B ≤ r ∧ w.heap[r]? = some (.deferred (some []))) →
    (∀ w', Taken B c.w w' → ∃ v, (results fn tmps).run P w' = .ok v w' ∧ R (.returned v) w') → LeavesInM Fence.wide n P fn tmps R ds .returning w
  | [], w, ht, _, _, hk => hk w ht
  | d :: ds, w, ht, hp, hd, hk => by
    obtain ⟨r, rfl, hB, hr⟩ := hd d (List.mem_cons_self ..)
    have hlt : r < w.heap.size := by
      rcases Nat.lt_or_ge r w.heap.size with h | h
      · exact h
      · rw [Array.getElem?_eq_none h] at hr; cases hr
    refine ⟨by simp, .inl ⟨r, { w with heap := w.heap.setIfInBounds r (.deferred none) }, rfl, by simp [Instr.takeDeferred, getObj, setObj, Sem.run, hr], ?_⟩⟩
    have hp' := List.pairwise_cons.1 hp
    have hne : ∀ b, b ≠ r → (w.heap.setIfInBounds r (.deferred none))[b]? = w.heap[b]? := fun b hb => Array.getElem?_setIfInBounds_ne (Ne.symm hb)
    refine take_all ds _ (ht.trans ⟨by simp, fun b hb => ?_, fun b ds' hb => ?_, fun b hb => hne b (by omega), rfl, rfl, rfl⟩) hp'.2 (fun d' hd' => ?_) hk
    · exact hne b fun e => hb (some []) (e ▸ hr)
    · by_cases e : b = r
      · subst e; exact ⟨none, by simp [hlt]⟩
      · exact ⟨ds', by show (w.heap.setIfInBounds r (.deferred none))[b]? = _; rw [hne b e]; exact hb⟩
    · obtain ⟨r', rfl, hB', hr'⟩ := hd d' (List.mem_cons_of_mem _ hd')
      have : r' ≠ r := fun e => hp'.1 _ hd' (by rw [e])
      exact ⟨r', rfl, hB', by show (w.heap.setIfInBounds r (.deferred none))[r']? = _; rw [hne r' this]; exact hr'⟩
/-- A function's body as the abstract machine has it. -/
structure Body (P : Program) (f : Nat) (ac : ACode) (rs : List ARes) (n : Nat) : Prop where
  ok : fnOk P f = true
  ex : ∃ fn code, P.funcs[f]? = some fn ∧ fn.body = some code ∧ ccode P code = some ac ∧ fn.results.toList.mapM (cres P) = some rs ∧ fn.ntmps = n
def resRun (tmps : Array Value) : ResultVar → Sem Value := fun
  | .tmp t => pure (tmps.getD t undef)
  | .cell a t => do loadVar t (← asAddr (tmps.getD a undef))
theorem resV_run {B : Nat} {c : Cx} {fr : List AV} {tmps : Array Value} {w' : World} {r : ResultVar} {ar : ARes} {v : AV} (hR : Rel P c) (hF : FR c fr tmps) (ht : Taken B c.w w') (hc : cres P r = some ar) (hv : resV fr c.at_ ar = some v) :
    ∃ val, (resRun tmps r).run P w' = .ok val w' ∧ RR c v val := by
  unfold resRun
  cases r with
  | tmp t =>
    cases hc
    obtain ⟨u, hu, hr⟩ := hF.2 t v hv
    have hu' : tmps[t]? = some u := hu
    exact ⟨u, by simp [hu'], hr⟩
  | cell a t =>
    simp only [cres] at hc
    split at hc
    · rename_i b n hb hn
      cases hc
      simp only [resV] at hv
      split at hv
      · rename_i x hx
        obtain ⟨u, hu, hr⟩ := hF.2 a x hx
        have hu' : tmps[a]? = some u := hu
        simp only [Option.map_eq_some_iff] at hv
        obtain ⟨⟨y, rd⟩, hy, rfl⟩ := hv
        have key : ∃ b' q cs, u = .pointer (some ⟨b', q, none⟩) ∧ RC1 (RR c) cs (fun j => c.w.cell? ⟨b', q + j, none⟩) ∧ partV b 0 n cs = some y := by
          unfold loadV at hy
          split at hy
          · rename_i i off
            split at hy
            · rename_i cs hi
              simp only [Option.map_eq_some_iff] at hy
              obtain ⟨z, hz, hzz⟩ := hy
              cases hzz
              obtain ⟨b', q, h1, h2⟩ := look_ptr hR hi hr
              rcases partV_drop (ag := b) (o := off) (n := n) (cs := cs) with e | e
              · exact ⟨b', q, _, h1, h2, by rw [← e]; exact hz⟩
              · rw [e] at hz; cases hz
            · cases hy
          · rename_i cs
            simp only [Option.map_eq_some_iff] at hy
            obtain ⟨z, hz, hzz⟩ := hy
            cases hzz
            obtain ⟨b', q, h1, _, h2⟩ := RR_iptr.1 hr
            exact ⟨b', q, cs, h1, h2, hz⟩
          · cases hy
        obtain ⟨b', q, cs, rfl, h2, h3⟩ := key
        have e := ht.extW
        obtain ⟨val, h4, h5⟩ := run_load (c := { c.wd w' with U := c.U, at_ := c.at_ }) hb hn (h2.imp (fun _ _ h => ⟨h.1.extW e, h.2⟩) fun j v hj => by show w'.cell? _ = _; rw [ht.cell]; exact hj) h3
        have h6 : RR c y val := by
          have ht' : Taken B w' c.w ∨ True := .inr trivial
          have eW : ExtW (c.wd w') c := ⟨fun _ h => h, fun _ _ => rfl, fun b _ => (ht.csz b).symm, fun b hb => ⟨⟨by have : b < w'.heap.size := hb.1; rw [ht.size] at this; exact this, hb.2, hb.3⟩, fun o v hv => by rw [← ht.cell]; exact hv⟩, by show w'.heap.size ≤ _; rw [ht.size]; exact Nat.le_refl _⟩
          exact h5.extW eW
        exact ⟨val, by simp [hu', asAddr]; exact h4, h6⟩
      · cases hv
    · cases hc
theorem resVs_run {B : Nat} {c : Cx} {fr : List AV} {tmps : Array Value} {w' : World} (hR : Rel P c) (hF : FR c fr tmps) (ht : Taken B c.w w') : ∀ (rs : List ResultVar) (ars : List ARes) (l : List AV), rs.mapM (cres P) = some ars → resVs fr c.at_ ars = some l →
    ∃ vs : List Value, (rs.mapM (resRun tmps)).run P w' = .ok vs w' ∧ vs.length = l.length ∧ RCs (RR c) l fun j => vs[j]?
  | [], ars, l, hm, hl => by
    simp at hm; subst hm; cases hl
    exact ⟨[], by simp, rfl, fun j x hx => by simp at hx⟩
  | r :: rs, ars, l, hm, hl => by
    simp only [List.mapM_cons, Option.bind_eq_bind, Option.bind_eq_some_iff] at hm
    obtain ⟨ar, har, ars', hars, h2⟩ := hm
    cases h2
    simp only [resVs] at hl
    split at hl
    · rename_i v l' hv hl'
      cases hl
      obtain ⟨val, h1, h3⟩ := resV_run hR hF ht har hv
      obtain ⟨vs, h4, h5, h6⟩ := resVs_run hR hF ht rs ars' l' hars hl'
      refine ⟨val :: vs, ?_, by simp [h5], fun j x hx => ?_⟩
      · simp only [List.mapM_cons, Sem.run_bind]
        rw [h1]
        simp only [Result.andThen_ok, Sem.run_bind]
        rw [h4]
        simp
      · cases j with
        | zero => simp at hx; subst hx; exact ⟨val, rfl, h3⟩
        | succ j => obtain ⟨u, hu, hxu⟩ := h6 j x (by simpa using hx); exact ⟨u, by simpa using hu, hxu⟩
    · cases hl
theorem results_run {B : Nat} {c : Cx} {fr : List AV} {tmps : Array Value} {w' : World} {fn : Func} {ars : List ARes} {l : List AV} (hR : Rel P c) (hF : FR c fr tmps) (ht : Taken B c.w w') (hm : fn.results.toList.mapM (cres P) = some ars) (hl : resVs fr c.at_ ars = some l) :
    ∃ v, (results fn tmps).run P w' = .ok v w' ∧ RR c (packV l) v := by
  obtain ⟨vs, h1, h2, h3⟩ := resVs_run hR hF ht _ ars l hm hl
  have hrun : (results fn tmps).run P w' = .ok (if h : vs.toArray.size = 1 then vs.toArray[0] else .tuple vs.toArray) w' := by
    have e : results fn tmps = (do let vs ← fn.results.mapM (resRun tmps); pure (if h : vs.size = 1 then vs[0] else .tuple vs)) := rfl
    rw [e]
    simp only [Array.mapM_eq_mapM_toList, Sem.run_bind, Sem.run_map]
    rw [h1]
    simp
  refine ⟨_, hrun, ?_⟩
  match l, vs, h2, h3 with
  | [x], [v], _, h3 =>
    obtain ⟨u, hu, hr⟩ := h3 0 x rfl
    simp at hu
    subst hu
    simpa [packV] using hr
  | [], [], _, _ => exact RR_tup.2 ⟨#[], rfl, rfl, fun j x hx => by simp at hx⟩
  | x :: y :: l, v :: u :: vs, h2, h3 =>
    rw [dif_neg (by simp)]
    exact RR_tup.2 ⟨_, rfl, by simpa using h2, h3.imp (fun _ _ h => h) fun j u hj => by simpa using hj⟩
  | [], _ :: _, h2, _ => simp at h2
  | _ :: _, [], h2, _ => simp at h2
  | [_], _ :: _ :: _, h2, _ => simp at h2
  | _ :: _ :: _, [_], h2, _ => simp at h2
/-- **A call, out of the body.** -/
theorem calls_body {f n : Nat} {ac : ACode} {rs : List ARes} {args : List AV} {h : Hp} {K : AV → Hp → Prop} (hmix : P.follows .mixedOrders = true) (hb : Body P f ac rs n) (hw : wpc P G none h.next ac (finQ P rs h.next K) (args ++ List.replicate (n - args.length) .undef) h)
    {c : Cx} {vs : Array Value} (hR : Rel P c) (hG : RelG G c) (hm : Mat c h) (hargs : argsR c args vs) : Calls P f vs c.w fun e w' => ∃ v, e = .returned v ∧ Ends P c K v w' := by
  obtain ⟨fn, code, h1, h2, h3, h4, rfl⟩ := hb.ex
  refine (callsIn_wide (n := 0)).1 (callsIn_of_wp_marks h1 h2 trivial ?_)
  have hF : FR c (args ++ List.replicate (fn.ntmps - args.length) .undef) (vs ++ Array.replicate (fn.ntmps - vs.size) undef) := by
    refine ⟨by simp [hargs.1], fun j x hx => ?_⟩
    show ∃ u, (vs ++ Array.replicate (fn.ntmps - vs.size) undef)[j]? = some u ∧ RR c x u
    rw [List.getElem?_append] at hx
    rw [Array.getElem?_append, hargs.1]
    split at hx
    · rename_i hj; rw [if_pos hj]; exact hargs.2 j x hx
    · rename_i hj
      rw [if_neg hj]
      rw [List.getElem?_replicate] at hx
      split at hx
      · rename_i hlt
        cases hx
        exact ⟨undef, by rw [Array.getElem?_replicate, if_pos hlt], RR_undef⟩
      · cases hx
  have hs : St P G c.w.heap.size c (args ++ List.replicate (fn.ntmps - args.length) .undef) h { tmps := vs ++ Array.replicate (fn.ntmps - vs.size) undef, defers := [] } :=
    ⟨hR, hG, hm, hF, ⟨List.Pairwise.nil, fun d hd => by cases hd⟩, Nat.le_refl _⟩
  have hwp := wpc_sound hmix code ac h3 none h.next _ _ _ hw c.w.heap.size c c _ 0 hs (Ext.refl c) rfl (fun l hl => by cases hl) hG fun i hi => (hm.U i).1 hi
  refine wpIn_mono hwp ?_
  have fin : ∀ (a' : Act) (c' : Cx) (fr' : List AV) (h' : Hp), (∃ l σ r' h'', resVs fr' (lk h'.l) rs = some l ∧ Weak P σ [packV l] h' [r'] h'' ∧ Keeps h.next σ ∧ h.next ≤ h''.next ∧ K r' h'') → St P G c.w.heap.size c' fr' h' a' → Ext c c' →
      LeavesInM Fence.wide 0 P fn a'.tmps (fun e w' => ∃ v, e = .returned v ∧ Ends P c K v w') a'.defers .returning c'.w := by
    rintro a' c' fr' h' ⟨l, σ, r', h'', k1, k2, kk, k3, k4⟩ hs' he'
    refine take_all (B := c.w.heap.size) (c := c') a'.defers c'.w (Taken.refl _ _) hs'.df.1 (fun d hd => ?_) fun w' ht => ?_
    · obtain ⟨r, q1, q2, _, q3⟩ := hs'.df.2 d hd; exact ⟨r, q1, q2, q3⟩
    · obtain ⟨v, q1, q2⟩ := results_run hs'.rel hs'.fr ht h4 (by rw [hs'.mat.at_]; exact k1)
      refine ⟨v, q1, v, rfl, r', h'', (c'.wd w').ren σ h'', rfl, k4, ?_⟩
      have hRt := ht.rel hs'.rel
      have hmt : Mat (c'.wd w') h' := ⟨hs'.mat.at_, hs'.mat.U⟩
      have hFt : FR (c'.wd w') [packV l] #[v] := ⟨rfl, fun j x hx => by
        cases j with
        | zero => simp at hx; subst hx; exact ⟨v, rfl, q2.extW ht.extW⟩
        | succ j => simp at hx⟩
      obtain ⟨w1, w2, w3⟩ := k2 (c'.wd w') #[v] hRt hmt hFt
      obtain ⟨u, hu, hr⟩ := w2.2 0 r' rfl
      have hu' : u = v := by simpa using hu.symm
      subst hu'
      have e1 : Ext c (c'.wd w') := by
        have e2 := ht.extW
        refine ⟨he'.used, he'.mu, fun b hb => (ht.csz b).trans (he'.csz b hb), fun b hb => ⟨(e2.froz b (he'.froz b hb).1).1, (ht.low b hb.1).trans (he'.froz b hb).2⟩, Nat.le_trans he'.size e2.size, he'.hid, fun b hb => (ht.low b (hR.hidlt b hb)).trans (he'.hidh b hb), ht.env.1.trans he'.env.1, ht.env.2.1.trans he'.env.2.1, ht.env.2.2.trans he'.env.2.2⟩
      exact ⟨hr, w1, ⟨rfl, fun i => Iff.rfl⟩, ext_ren e1 hmt w3 (fun i hi => Nat.lt_of_lt_of_le ((hm.U i).1 hi) k3) fun i hi => kk i ((hm.U i).1 hi)⟩
  rintro e a' w' ⟨c', fr', h', rfl, hq, hs', he'⟩
  cases e <;> simp only [finQ] at hq
  · exact fin a' c' fr' h' hq hs' he'
  · exact fin a' c' fr' h' hq hs' he'
theorem callV_body {f n : Nat} {ac : ACode} {rs : List ARes} {fs args cs : List AV} {h : Hp} {K : AV → Hp → Prop} (hmix : P.follows .mixedOrders = true) (hb : Body P f ac rs n) (hw : wpc P G none h.next ac (finQ P rs h.next K) ((fs ++ args ++ cs) ++ List.replicate (n - (fs ++ args ++ cs).length) .undef) h) :
    CallV P G (.fn f fs cs) args h K := by
  intro c u vs hR hG hm hu hargs
  obtain ⟨vf, vc, rfl, h1, h2⟩ := RR_fn.1 hu
  exact ⟨_, _, run_callFn hb.ok c.w, calls_body hmix hb hw hR hG hm (argsR_app (argsR_app h1 hargs) h2)⟩
end
end Go.Am
