/-
  A region that draws its order: one walk in the order of the text, and a look at who stands in whose way. No program in sight.
-/
import Derived.Test.YtggkpagngnnjjaaAmLoc
import Derived.OrdersIn
set_option linter.unusedSimpArgs false
set_option linter.unusedVariables false
namespace Go.Am
/-- What an operation touches: slots that it reads and writes, blocks that it reads and writes. -/
structure Ent where
  sr : List Nat
  sw : List Nat
  rd : List Nat
  wr : List Nat
def meets (a b : List Nat) : Bool := a.any fun x => b.contains x
def clash (a b : Ent) : Bool := meets a.sw b.sr || meets a.sw b.sw || meets b.sw a.sr || meets a.wr b.rd || meets a.wr b.wr || meets b.wr a.rd
/-- Who comes before whom, each with all that come before it. -/
def ancStep (acc : List (List Nat)) (ps : List Nat) : List (List Nat) := acc ++ [(List.range acc.length).filter fun i => ps.contains i || ps.any fun p => (acc.getD p []).contains i]
def ancs (pre : List (List Nat)) : List (List Nat) := pre.foldl ancStep []
def chkOne (anc : List (List Nat)) (k : Nat) (e : Ent) : Nat → List Ent → Bool
  | _, [] => true
  | j, f :: r => ((anc.getD j []).contains k || !clash e f) && chkOne anc k e (j + 1) r
def chk (anc : List (List Nat)) : Nat → List Ent → Bool
  | _, [] => true
  | k, e :: r => chkOne anc k e (k + 1) r && chk anc (k + 1) r
/-- Does everything come before it, or behind it? -/
def pivot (anc : List (List Nat)) (n k : Nat) : Bool := (List.range n).all fun i => i == k || (anc.getD k []).contains i || (anc.getD i []).contains k

theorem meets_false {a b : List Nat} (h : meets a b = false) {x : Nat} (ha : x ∈ a) : x ∉ b := fun hb => by
  simp only [meets, List.any_eq_false, List.contains_eq_mem, decide_eq_true_eq] at h
  exact h x ha hb
theorem chkOne_spec {anc : List (List Nat)} {k : Nat} {e : Ent} : ∀ {l : List Ent} {j : Nat}, chkOne anc k e j l = true → ∀ (q : Nat) f, l[q]? = some f → k ∈ anc.getD (j + q) [] ∨ clash e f = false
  | [], _, _, q, f, hq => by simp at hq
  | g :: l, j, h, q, f, hq => by
    simp only [chkOne, Bool.and_eq_true, Bool.or_eq_true, List.contains_eq_mem, decide_eq_true_eq, Bool.not_eq_true'] at h
    cases q with
    | zero => simp at hq; subst hq; exact h.1
    | succ q => rw [show j + (q + 1) = j + 1 + q by omega]; exact chkOne_spec h.2 q f (by simpa using hq)
theorem chk_spec {anc : List (List Nat)} : ∀ {l : List Ent} {k : Nat}, chk anc k l = true → ∀ (i j : Nat) e f, i < j → l[i]? = some e → l[j]? = some f → k + i ∈ anc.getD (k + j) [] ∨ clash e f = false
  | [], _, _, i, _, e, _, _, hi, _ => by simp at hi
  | g :: l, k, h, i, j, e, f, hij, hi, hj => by
    simp only [chk, Bool.and_eq_true] at h
    cases j with
    | zero => omega
    | succ j =>
      cases i with
      | zero =>
        simp at hi
        subst hi
        have := chkOne_spec h.1 j f (by simpa using hj)
        rw [show k + (j + 1) = k + 1 + j by omega]; exact this
      | succ i =>
        have := chk_spec h.2 i j e f (by omega) (by simpa using hi) (by simpa using hj)
        rw [show k + (i + 1) = k + 1 + i by omega, show k + (j + 1) = k + 1 + j by omega]; exact this
theorem ancs_spec : ∀ (pre acc : List (List Nat)) (j i : Nat), acc.length ≤ j → i ∈ (pre.foldl ancStep acc).getD j [] → ∃ ps, pre[j - acc.length]? = some ps ∧ i < j ∧ (i ∈ ps ∨ ∃ p ∈ ps, p < j ∧ i ∈ (pre.foldl ancStep acc).getD p [])
  | [], acc, j, i, hj, h => by
    rw [List.foldl_nil] at h
    simp [List.getElem?_eq_none hj] at h
  | ps :: pre, acc, j, i, hj, h => by
    rw [List.foldl_cons] at h
    have hlen : (ancStep acc ps).length = acc.length + 1 := by simp [ancStep]
    have keep : ∀ (pre acc : List (List Nat)) (q : Nat), q < acc.length → (pre.foldl ancStep acc).getD q [] = acc.getD q [] := by
      intro pre
      induction pre with
      | nil => intro acc q _; rfl
      | cons p pre ih =>
        intro acc q hq
        rw [List.foldl_cons, ih _ _ (by simp [ancStep]; omega)]
        simp [ancStep, List.getElem?_append_left hq]
    rcases Nat.lt_or_ge acc.length j with hlt | hge
    · obtain ⟨ps', h1, h2, h3⟩ := ancs_spec pre (ancStep acc ps) j i (by omega) h
      refine ⟨ps', ?_, h2, by rw [List.foldl_cons]; exact h3⟩
      rw [hlen] at h1
      rw [show j - acc.length = (j - (acc.length + 1)) + 1 by omega, List.getElem?_cons_succ]
      exact h1
    · obtain rfl : j = acc.length := by omega
      rw [keep pre (ancStep acc ps) acc.length (by omega)] at h
      simp only [ancStep, List.getD_eq_getElem?_getD, List.getElem?_append_right (Nat.le_refl _), Nat.sub_self, List.getElem?_cons_zero, Option.getD_some, List.mem_filter, List.mem_range, Bool.or_eq_true, List.contains_eq_mem, decide_eq_true_eq, List.any_eq_true] at h
      obtain ⟨h1, h2⟩ := h
      refine ⟨ps, by simp, h1, h2.imp id ?_⟩
      rintro ⟨p, hp, hip⟩
      have hpl : p < acc.length := by
        rcases Nat.lt_or_ge p acc.length with h | h
        · exact h
        · rw [List.getElem?_eq_none h] at hip; simp at hip
      refine ⟨p, hp, hpl, ?_⟩
      rw [List.foldl_cons, keep pre (ancStep acc ps) p (by omega)]
      simp only [ancStep, List.getD_eq_getElem?_getD, List.getElem?_append_left hpl]
      exact hip
/-- Everything that comes before a listed operation is listed. -/
def Closed (ops : Array Oper) (listed : Array Bool) : Prop := ∀ (j : Nat) (o : Oper), ops[j]? = some o → listed.getD j false = true → ∀ p ∈ preds o, listed.getD p false = true
theorem anc_listed {ops : Array Oper} {listed : Array Bool} (hc : Closed ops listed) : ∀ (j i : Nat), i ∈ (ancs (ops.toList.map preds)).getD j [] → (∀ o, ops[j]? = some o → ∀ p ∈ preds o, listed.getD p false = true) → listed.getD i false = true := by
  intro j
  induction j using Nat.strongRecOn with
  | _ j ih =>
    intro i h hp
    obtain ⟨ps, h1, h2, h3⟩ := ancs_spec (ops.toList.map preds) [] j i (Nat.zero_le _) h
    simp only [List.length_nil, Nat.sub_zero, List.getElem?_map, Option.map_eq_some_iff] at h1
    obtain ⟨o, ho, rfl⟩ := h1
    have ho' : ops[j]? = some o := by simpa using ho
    rcases h3 with h3 | ⟨p, hp1, hpj, hp2⟩
    · exact hp o ho' i h3
    · exact ih p hpj i hp2 fun o' ho'' q hq => hc p o' ho'' (hp o ho' p hp1) q hq
theorem mem_preds {o : Oper} {e : Edge} (he : e ∈ o.after) (hb : Region.binds .any e = true) : e.on ∈ preds o := by
  simp only [preds, List.mem_map, List.mem_filter]
  exact ⟨e, ⟨by simpa using he, hb⟩, rfl⟩
theorem preds_mem {o : Oper} {p : Nat} (h : p ∈ preds o) : ∃ e ∈ o.after, Region.binds .any e = true ∧ e.on = p := by
  simp only [preds, List.mem_map, List.mem_filter] at h
  obtain ⟨e, ⟨h1, h2⟩, h3⟩ := h
  exact ⟨e, by simpa using h1, h2, h3⟩

/-- May a function be called? -/
def fnOk (P : Program) (f : Nat) : Bool := match P.funcs[f]? with
  | some fn => fn.name != "runtime.NumGoroutine" && fn.body.isSome
  | none => false
/-- What a function returns, and what it does to the store: of the blocks that it reads it knows what they hold. -/
def FnU (P : Program) (G : Gl) (f : Nat) (args : List AV) (rd : List Nat) (at_ : At) (r : AV) (up : Up) (id : Nat) : Prop :=
  fnOk P f = true ∧ ∀ (c : Cx) (vs : Array Value), Rel P c → RelG G c → ¬ c.U id → (∀ i ∈ rd, c.at_ i = at_ i) → argsR c args vs →
    Calls P f vs c.w fun e w' => ∃ v c', e = .returned v ∧ c'.w = w' ∧ RR c' r v ∧ Rel P c' ∧ Ext c c' ∧ c'.at_ = upd c.at_ up ∧ ∀ i, c'.U i ↔ c.U i ∨ i ∈ newOf up id
def StepD (P : Program) (G : Gl) (o : AOp) (fr : List AV) (at_ : At) (id : Nat) (v : AV) (up : Up) (rd : List Nat) : Prop :=
  match o with
  | .call f xs => ∃ g fs cs avs, ax G fr f = some (.fn g fs cs) ∧ valsV (ax G fr) xs = some avs ∧ FnU P G g (fs ++ avs ++ cs) rd at_ v up id
  | o => evalA (ax G fr) at_ id o = some (v, up, rd)
theorem run_callFn {P : Program} {f : Nat} {vf vc vs : Array Value} (h : fnOk P f = true) (w : World) : (do let d ← Deferred.ofValue (.func (.func f) vf vc) vs; invoke d.target d.args : Sem Next).run P w = .ok (.enter f (vf ++ vs ++ vc)) w := by
  unfold fnOk at h
  cases hf : P.funcs[f]? with
  | none => rw [hf] at h; cases h
  | some fn =>
    rw [hf] at h
    simp only [Bool.and_eq_true, bne_iff_ne, ne_eq] at h
    obtain ⟨b, hb⟩ := Option.isSome_iff_exists.1 h.2
    simp [Deferred.ofValue, invoke, callFunc, hf, h.1, hb]
theorem argsR_app {c : Cx} {xs ys : List AV} {us vs : Array Value} (h1 : argsR c xs us) (h2 : argsR c ys vs) : argsR c (xs ++ ys) (us ++ vs) := by
  refine ⟨by simp [h1.1, h2.1], fun j x hx => ?_⟩
  show ∃ u, (us ++ vs)[j]? = some u ∧ RR c x u
  rw [List.getElem?_append] at hx
  rw [Array.getElem?_append, h1.1]
  split at hx
  · rename_i hj; rw [if_pos hj]; exact h1.2 j x hx
  · rename_i hj; rw [if_neg hj]; exact h2.2 _ x hx
theorem callV_fnU {P : Program} {G : Gl} {g : Nat} {fs cs avs : List AV} {h : Hp} {rd : List Nat} {r : AV} {up : Up} {K : AV → Hp → Prop} (hf : FnU P G g (fs ++ avs ++ cs) rd (lk h.l) r up h.next) (hK : K r (h.app up)) : CallV P G (.fn g fs cs) avs h K := by
  intro c u vs hR hG hm hu hargs
  obtain ⟨vf, vc, rfl, h1, h2⟩ := RR_fn.1 hu
  refine ⟨_, _, run_callFn hf.1 c.w, ?_⟩
  refine (hf.2 c (vf ++ vs ++ vc) hR hG hm.fresh (fun i _ => by rw [hm.at_]) (argsR_app (argsR_app h1 hargs) h2)).mono ?_
  rintro e w' ⟨v, c', rfl, rfl, k1, k2, k3, k4, k5⟩
  exact ⟨v, rfl, r, _, c', rfl, hK, k1, k2, hm.app k4 k5, k3⟩
section
variable {P : Program} {G : Gl} {c : Cx} {fr : List AV} {a : Act}
theorem stepD_sound {o : Oper} {ao : AOp} {n : Nat} {rd0 : Option Nat} {fr' : List AV} {at0 : At} {id : Nat} {v : AV} {up : Up} {rd : List Nat} {next : Act → World → Prop} {Q : Exit → Act → World → Prop} (hc : cop P o.op = some ao) (hF : FR c fr' a.tmps) (hG : RelG G c) (hR : Rel P c) (hid : ¬ c.U id)
    (hs : ∀ n ∈ ao.slots, fr'[n]? = fr[n]?) (ha : ∀ i ∈ rd, c.at_ i = at0 i) (h1 : StepD P G ao fr at0 id v up rd)
    (hk : ∀ val c', RR c' v val → Rel P c' → Ext c c' → c'.at_ = upd c.at_ up → (∀ i, c'.U i ↔ c.U i ∨ i ∈ newOf up id) → next (a.put o.dst val) c'.w) : o.wpIn (fence c rd0) n P a c.w next Q := by
  refine ⟨about_ok c rd0 o _ _, ?_⟩
  rw [Oper.semAt_eq _ _ _ (cop_defer hc)]
  have plain : evalA (ax G fr) at0 id ao = some (v, up, rd) → o.uponIn (fence c rd0) n P a next Q ((execOp a.eval o).run P c.w) := fun hv => by
    rw [← evalA_congr hs] at hv
    exact upon_done (snd hF hG hR hid hc (evalA_local hv ha)) fun c' val => hk val c'
  cases ao with
  | call f xs =>
    obtain ⟨g, fs, cs, avs, hf, hxs, hfn, hcall⟩ := h1
    obtain ⟨cl, fo, hop, hcal, hfo, hargs⟩ := cop_call hc
    rw [← ax_congr fun n hn => hs n (by simp [AOp.slots, hn])] at hf
    rw [← valsV_congr fun n hn => hs n (by simp [AOp.slots, hn])] at hxs
    obtain ⟨vf, vc, hu, k1, k2⟩ := RR_fn.1 (cox_rr hF hG hfo hf)
    have hrun : (execOp a.eval o).run P c.w = .ok (.enter g (vf ++ cl.args.map a.eval ++ vc)) c.w := by
      rw [← run_callFn (vf := vf) (vc := vc) (vs := cl.args.map a.eval) hfn c.w]
      simp [execOp, hop, resolve, hcal, hu]
    rw [hrun]
    refine upon_call (R := fun val w' => ∃ c', c'.w = w' ∧ RR c' v val ∧ Rel P c' ∧ Ext c c' ∧ c'.at_ = upd c.at_ up ∧ ∀ i, c'.U i ↔ c.U i ∨ i ∈ newOf up id) ?_ ?_
    · refine (hcall c _ hR hG hid ha (argsR_app (argsR_app k1 (args_argsR hF hG rfl hargs hxs)) k2)).mono ?_
      rintro e w' ⟨val, c', rfl, h2, h3⟩
      exact ⟨val, rfl, c', h2, h3⟩
    · rintro val w' ⟨c', rfl, h2, h3, h4, h5, h6⟩
      exact hk val c' h2 h3 h4 h5 h6
  | _ => exact plain h1
end
/-- A change of the store in a region that draws: each operation uses up a name. -/
def Hp.appD (h : Hp) (up : Up) : Hp := { l := puts h.l up, next := h.next + 1 }
def AOp.isCall : AOp → Bool
  | .call _ _ => true
  | _ => false
def gslot (o : AOper) : List Nat := match o.guard with
  | some (t, _) => [t]
  | none => []
def entOf (o : AOper) (ran : Bool) (up : Up) (rd : List Nat) : Ent := { sr := gslot o ++ (if ran then o.op.slots else []), sw := o.dst.toList, rd, wr := up.map (·.1) }
/-- A guarded step: it is done, or it is passed by. -/
def guardD (o : AOper) (fr : List AV) (A B : Prop) : Prop := match o.guard with
  | none => A
  | some (t, b) => ∃ p, (fr[t]?).bind gval = some p ∧ (p = some b → A) ∧ (p ≠ some b → B)
/-- The operations in the order of the text; what they touch is written down, and looked at where the order can't be told any more. -/
def runD (P : Program) (G : Gl) (anc : List (List Nat)) (n : Nat) : List AOper → Nat → Nat → List Ent → (List AV → Hp → Prop) → List AV → Hp → Prop
  | [], _, b, log, Q, fr, h => chk anc b log = true ∧ Q fr h
  | o :: os, k, b, log, Q, fr, h =>
    if o.op.isCall && pivot anc n k then
      chk anc b log = true ∧ guardD o fr (stepA P G o.op fr h fun v h' => runD P G anc n os (k + 1) (k + 1) [] Q (setO fr o.dst v) h') (runD P G anc n os (k + 1) (k + 1) [] Q (setO fr o.dst (.tup [])) h)
    else guardD o fr (∃ v up rd, StepD P G o.op fr (lk h.l) h.next v up rd ∧ runD P G anc n os (k + 1) b (log ++ [entOf o true up rd]) Q (setO fr o.dst v) (h.appD up))
      (runD P G anc n os (k + 1) b (log ++ [entOf o false [] []]) Q (setO fr o.dst (.tup [])) (h.appD []))
/-- One operation of a walk, as it was. -/
structure Rec where
  o : AOper
  ran : Bool
  v : AV
  up : Up
  rd : List Nat
def Rec.ent (r : Rec) : Ent := entOf r.o r.ran r.up r.rd
def ranOk (o : AOper) (fr : List AV) (ran : Bool) : Prop := match o.guard with
  | none => ran = true
  | some (t, b) => ∃ p, (fr[t]?).bind gval = some p ∧ ran = (p == some b)
def RecOk (P : Program) (G : Gl) (r : Rec) (fr : List AV) (h : Hp) : Prop :=
  ranOk r.o fr r.ran ∧ (r.ran = true → StepD P G r.o.op fr (lk h.l) h.next r.v r.up r.rd) ∧ (r.ran = false → r.v = .tup [] ∧ r.up = [] ∧ r.rd = [])
def TrOk (P : Program) (G : Gl) : List Rec → List AV → Hp → Prop
  | [], _, _ => True
  | r :: rs, fr, h => RecOk P G r fr h ∧ TrOk P G rs (setO fr r.o.dst r.v) (h.appD r.up)
def finF : List Rec → List AV → List AV
  | [], fr => fr
  | r :: rs, fr => finF rs (setO fr r.o.dst r.v)
def finH : List Rec → Hp → Hp
  | [], h => h
  | r :: rs, h => finH rs (h.appD r.up)
/-- What is left behind the operations of a walk: nothing, or a call that everything comes before or behind. -/
def Tail (P : Program) (G : Gl) (anc : List (List Nat)) (n k : Nat) (Q : List AV → Hp → Prop) (fr : List AV) (h : Hp) : List AOper → Prop
  | [] => Q fr h
  | o :: os => pivot anc n k = true ∧ guardD o fr (stepA P G o.op fr h fun v h' => runD P G anc n os (k + 1) (k + 1) [] Q (setO fr o.dst v) h') (runD P G anc n os (k + 1) (k + 1) [] Q (setO fr o.dst (.tup [])) h)
theorem runD_trace {P : Program} {G : Gl} {anc : List (List Nat)} {n : Nat} {Q : List AV → Hp → Prop} : ∀ (os : List AOper) (k b : Nat) (log : List Ent) (fr : List AV) (h : Hp), runD P G anc n os k b log Q fr h →
    ∃ (L : List Rec) (os2 : List AOper), os = L.map (·.o) ++ os2 ∧ TrOk P G L fr h ∧ chk anc b (log ++ L.map Rec.ent) = true ∧ Tail P G anc n (k + L.length) Q (finF L fr) (finH L h) os2
  | [], k, b, log, fr, h, hr => ⟨[], [], rfl, trivial, by simpa using hr.1, hr.2⟩
  | o :: os, k, b, log, fr, h, hr => by
    simp only [runD] at hr
    split at hr
    · rename_i hp
      simp only [Bool.and_eq_true] at hp
      exact ⟨[], o :: os, rfl, trivial, by simpa using hr.1, hp.2, hr.2⟩
    · have go : ∀ (ran : Bool) (v : AV) (up : Up) (rd : List Nat), RecOk P G ⟨o, ran, v, up, rd⟩ fr h → runD P G anc n os (k + 1) b (log ++ [entOf o ran up rd]) Q (setO fr o.dst v) (h.appD up) → ∃ (L : List Rec) (os2 : List AOper), o :: os = L.map (·.o) ++ os2 ∧ TrOk P G L fr h ∧ chk anc b (log ++ L.map Rec.ent) = true ∧ Tail P G anc n (k + L.length) Q (finF L fr) (finH L h) os2 := fun ran v up rd hok hrest => by
        obtain ⟨L, os2, h1, h2, h3, h4⟩ := runD_trace os (k + 1) b _ _ _ hrest
        refine ⟨⟨o, ran, v, up, rd⟩ :: L, os2, by simp [h1], ⟨hok, h2⟩, ?_, ?_⟩
        · rw [List.map_cons, show Rec.ent ⟨o, ran, v, up, rd⟩ = entOf o ran up rd from rfl]; simpa using h3
        · rw [List.length_cons, show k + (L.length + 1) = k + 1 + L.length by omega]; exact h4
      unfold guardD at hr
      split at hr
      · rename_i hg
        obtain ⟨v, up, rd, h1, h2⟩ := hr
        exact go true v up rd ⟨by unfold ranOk; rw [hg], fun _ => h1, fun h => (by cases h)⟩ h2
      · rename_i t bb hg
        obtain ⟨p, hp, h1, h2⟩ := hr
        by_cases e : p = some bb
        · obtain ⟨v, up, rd, h3, h4⟩ := h1 e
          exact go true v up rd ⟨by unfold ranOk; rw [hg]; exact ⟨p, hp, by simp [e]⟩, fun _ => h3, fun h => (by cases h)⟩ h4
        · exact go false (.tup []) [] [] ⟨by unfold ranOk; rw [hg]; exact ⟨p, hp, by simp [e]⟩, fun h => (by cases h), fun _ => ⟨rfl, rfl, rfl⟩⟩ (h2 e)
/-! The state in which just some of the operations have been done. -/
def apF : List Rec → (Nat → Bool) → Nat → List AV → List AV
  | [], _, _, fr => fr
  | r :: rs, S, k, fr => apF rs S (k + 1) (if S k then setO fr r.o.dst r.v else fr)
def apH : List Rec → (Nat → Bool) → Nat → At → At
  | [], _, _, at_ => at_
  | r :: rs, S, k, at_ => apH rs S (k + 1) (if S k then upd at_ r.up else at_)
theorem setO_length (fr : List AV) (d : Option Nat) (v : AV) : (setO fr d v).length = fr.length := by cases d <;> simp [setO]
theorem setO_ne {fr : List AV} {d : Option Nat} {v : AV} {n : Nat} (h : n ∉ d.toList) : (setO fr d v)[n]? = fr[n]? := by
  cases d with
  | none => rfl
  | some d => simp only [setO]; rw [List.getElem?_set_ne (fun e => h (by simp [e]))]
theorem setO_same {fr fr' : List AV} {d : Option Nat} {v : AV} {n : Nat} (hl : fr'.length = fr.length) (h : fr'[n]? = fr[n]?) : (setO fr' d v)[n]? = (setO fr d v)[n]? := by
  cases d with
  | none => exact h
  | some d => simp only [setO, List.getElem?_set, hl, h]
theorem upd_ne {at_ : At} {i : Nat} : ∀ {up : Up}, i ∉ up.map (·.1) → upd at_ up i = at_ i
  | [], _ => rfl
  | (j, o) :: r, h => by
    simp only [List.map_cons, List.mem_cons, not_or] at h
    simp only [upd, if_neg h.1]; exact upd_ne h.2
theorem upd_same {at_ at' : At} {i : Nat} (h : at' i = at_ i) : ∀ (up : Up), upd at' up i = upd at_ up i
  | [] => h
  | (j, o) :: r => by simp only [upd]; rw [upd_same h r]
/-- Two states agree at a slot if the same of its writers have been done. -/
theorem apF_same {n : Nat} : ∀ (L : List Rec) (S T : Nat → Bool) (k : Nat) (fr fr' : List AV), fr'.length = fr.length → fr'[n]? = fr[n]? → (∀ (q : Nat) r, L[q]? = some r → n ∈ r.o.dst.toList → S (k + q) = T (k + q)) → (apF L S k fr')[n]? = (apF L T k fr)[n]?
  | [], _, _, _, _, _, _, h, _ => h
  | r :: L, S, T, k, fr, fr', hl, h, hS => by
    simp only [apF]
    refine apF_same L S T (k + 1) _ _ ?_ ?_ fun q r' hq hn => by have := hS (q + 1) r' (by simpa using hq) hn; rw [show k + 1 + q = k + (q + 1) by omega]; exact this
    · split <;> split <;> simp [setO_length, hl]
    · by_cases hn : n ∈ r.o.dst.toList
      · have := hS 0 r rfl hn
        rw [Nat.add_zero] at this
        rw [this]
        split
        · exact setO_same hl h
        · exact h
      · have e1 : (if S k then setO fr' r.o.dst r.v else fr')[n]? = fr'[n]? := by split <;> first | rfl | exact setO_ne hn
        have e2 : (if T k then setO fr r.o.dst r.v else fr)[n]? = fr[n]? := by split <;> first | rfl | exact setO_ne hn
        rw [e1, e2]; exact h
theorem apH_same {i : Nat} : ∀ (L : List Rec) (S T : Nat → Bool) (k : Nat) (at_ at' : At), at' i = at_ i → (∀ (q : Nat) r, L[q]? = some r → i ∈ r.up.map (·.1) → S (k + q) = T (k + q)) → apH L S k at' i = apH L T k at_ i
  | [], _, _, _, _, _, h, _ => h
  | r :: L, S, T, k, at_, at', h, hS => by
    simp only [apH]
    refine apH_same L S T (k + 1) _ _ ?_ fun q r' hq hn => by have := hS (q + 1) r' (by simpa using hq) hn; rw [show k + 1 + q = k + (q + 1) by omega]; exact this
    by_cases hn : i ∈ r.up.map (·.1)
    · have := hS 0 r rfl hn
      rw [Nat.add_zero] at this
      rw [this]
      split
      · exact upd_same h _
      · exact h
    · have e1 : (if S k then upd at' r.up else at') i = at' i := by split <;> first | rfl | exact upd_ne hn
      have e2 : (if T k then upd at_ r.up else at_) i = at_ i := by split <;> first | rfl | exact upd_ne hn
      rw [e1, e2]; exact h
end Go.Am
