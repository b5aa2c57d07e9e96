/-
  One operation after the other: a region that does not draw its order. No program in sight.
-/
import Derived.Test.YtggkpagngnnjjaaAmHp
set_option linter.unusedSimpArgs false
set_option linter.unusedVariables false
namespace Go.Am
section
variable {P : Program} {G : Gl} {B : Nat} {c : Cx} {fr : List AV} {h : Hp} {a : Act}
theorem cop_defer {o : Oper} {ao : AOp} (hc : cop P o.op = some ao) : ∀ k, o.op ≠ .defer k := fun k e => by rw [e] at hc; simp [cop] at hc
/-- What an operation came to, as the walk's rules ask it. -/
theorem upon_done {o : Oper} {n : Nat} {rd : Option Nat} {r : Result Next} {x : AV} {up : Up} {new : List Nat} {next : Act → World → Prop} {Q : Exit → Act → World → Prop} (hd : Done P c r x up new)
    (hk : ∀ c' val, RR c' x val → Rel P c' → Ext c c' → c'.at_ = upd c.at_ up → (∀ i, c'.U i ↔ c.U i ∨ i ∈ new) → next (a.put o.dst val) c'.w) : o.uponIn (fence c rd) n P a next Q r := by
  obtain ⟨c', h1, h2, h3, h4, h5⟩ := hd
  rcases h1 with ⟨val, rfl, hx⟩ | ⟨rfl, rfl⟩
  · exact hk c' val hx h2 h3 h4 h5
  · exact hk c' undef RR_undef h2 h3 h4 h5
theorem upon_call {o : Oper} {n : Nat} {rd : Option Nat} {nx : Next} {w1 : World} {R : Value → World → Prop} {next : Act → World → Prop} {Q : Exit → Act → World → Prop} (hu : UponA P R nx w1) (hk : ∀ val w', R val w' → next (a.put o.dst val) w') : o.uponIn (fence c rd) n P a next Q (.ok nx w1) := by
  cases nx <;> simp only [UponA] at hu
  · exact hk _ _ hu
  · rename_i f args
    rw [Oper.uponIn_enter]
    refine ⟨depth_ok c rd, ?_⟩
    have h1 : CallsIn Fence.wide (n - 1) P f args w1 (fun e w' => ∃ v, e = .returned v ∧ R v w') := callsIn_wide.2 hu
    have h2 : CallsIn (fence c rd) (n - 1) P f args w1 (fun e w' => ∃ v, e = .returned v ∧ R v w') := by cases rd <;> exact h1
    refine h2.mono ?_
    rintro e w' ⟨v, rfl, hR⟩
    exact hk _ _ hR
  · rename_i l f tmps assign body
    rw [Oper.uponIn_round]
    refine ⟨depth_ok c rd, ?_⟩
    have h2 : RoundIn (fence c rd) (n - 1) P l f tmps assign body w1 (fun e w' => ∃ v, e = .returned v ∧ R v w') := by cases rd <;> exact hu (n - 1)
    refine h2.mono ?_
    rintro e w' ⟨v, rfl, hR⟩
    exact hk _ _ hR
theorem args_argsR {os : List Operand} {xs : List AX} {vs : List AV} {args : Array Operand} (hF : FR c fr a.tmps) (hG : RelG G c) (ho : args.toList = os) (hc : os.mapM cox = some xs) (hv : valsV (ax G fr) xs = some vs) : argsR c vs (args.map a.eval) := by
  subst ho
  obtain ⟨h1, h2⟩ := vals_of hF hG hc hv
  exact ⟨by simp [h1], h2.imp (fun _ _ h => h) fun j u hj => by simpa using hj⟩
theorem step_sound {o : Oper} {ao : AOp} {n : Nat} {rd : Option Nat} {K : AV → Hp → Prop} {next : Act → World → Prop} {Q : Exit → Act → World → Prop} (hc : cop P o.op = some ao) (hs : St P G B c fr h a) (h1 : stepA P G ao fr h K)
    (hk : ∀ v val c' h', K v h' → RR c' v val → Rel P c' → Mat c' h' → Ext c c' → next (a.put o.dst val) c'.w) : o.wpIn (fence c rd) n P a c.w next Q := by
  refine ⟨about_ok c rd o _ _, ?_⟩
  rw [Oper.semAt_eq _ _ _ (cop_defer hc)]
  have plain : ∀ v up rd', evalA (ax G fr) (lk h.l) h.next ao = some (v, up, rd') → K v (h.app up) → o.uponIn (fence c rd) n P a next Q ((execOp a.eval o).run P c.w) := fun v up rd' hv hK => by
    rw [← hs.mat.at_] at hv
    exact upon_done (snd hs.fr hs.glo hs.rel hs.mat.fresh hc hv) fun c' val hx hr he ha hu => hk v val c' _ hK hx hr (hs.mat.app ha hu) he
  cases ao with
  | call f xs =>
    obtain ⟨fv, avs, hf, hxs, hcall⟩ := h1
    obtain ⟨cl, fo, hop, hcal, hfo, hargs⟩ := cop_call hc
    obtain ⟨nx, w1, hrun, hu⟩ := hcall c (a.eval fo) (cl.args.map a.eval) hs.rel hs.glo hs.mat (cox_rr hs.fr hs.glo hfo hf) (args_argsR hs.fr hs.glo rfl hargs hxs)
    have : (execOp a.eval o).run P c.w = .ok nx w1 := by
      rw [← hrun]
      simp [execOp, hop, resolve, hcal]
    rw [this]
    refine upon_call hu ?_
    rintro val w' ⟨r, h', c', rfl, hK, hx, hr, hm, he⟩
    exact hk r val c' h' hK hx hr hm he
  | _ => obtain ⟨v, up, rd', hv, hK⟩ := h1; exact plain v up rd' hv hK
theorem St.step {c' : Cx} {h' : Hp} {v : AV} {val : Value} (hs : St P G B c fr h a) (d : Option Nat) (hx : RR c' v val) (hr : Rel P c') (hm : Mat c' h') (he : Ext c c') : St P G B c' (setO fr d v) h' (a.put d val) :=
  ⟨hr, hs.glo.ext he, hm, (hs.fr.ext he).put d hx, by rw [put_defers]; exact hs.df.ext he, Nat.le_trans hs.old he.size⟩
/-- What is asked of the model's code: it leaves as the abstract code does. -/
def Post (P : Program) (G : Gl) (B : Nat) (c : Cx) (Q : Exit → List AV → Hp → Prop) (e : Exit) (a' : Act) (w' : World) : Prop := ∃ c' fr' h', c'.w = w' ∧ Q e fr' h' ∧ St P G B c' fr' h' a' ∧ Ext c c'
theorem yielded_slot {ops : Array Oper} {j t : Nat} {p : Option Bool} (hj : (ops[j]?).bind (·.dst) = some t) (hF : FR c fr a.tmps) (hp : (fr[t]?).bind gval = some p) : yielded ops a.tmps j = p := by
  rw [Option.bind_eq_some_iff] at hp
  obtain ⟨x, hx, hp⟩ := hp
  obtain ⟨u, hu, hr⟩ := hF.2 t _ hx
  have hu' : a.tmps[t]? = some u := hu
  unfold yielded
  rw [hj]
  cases x <;> simp only [gval, Option.some.injEq, reduceCtorEq] at hp
  · simp only [RR_bool] at hr
    subst hr; subst hp
    simp [hu']
  · obtain ⟨vs, rfl, _⟩ := RR_tup.1 hr
    subst hp
    simp [hu']
theorem coper_spec {ops : Array Oper} {o : Oper} {ao : AOper} (h : coper P ops o = some ao) : cop P o.op = some ao.op ∧ ao.dst = o.dst ∧ ((o.guard = none ∧ ao.guard = none) ∨ ∃ j b t, o.guard = some (j, b) ∧ ao.guard = some (t, b) ∧ (ops[j]?).bind (·.dst) = some t) := by
  unfold coper at h
  split at h
  · cases h
  · rename_i x hx
    split at h
    · rename_i hg
      cases h; exact ⟨hx, rfl, .inl ⟨hg, rfl⟩⟩
    · rename_i j b hg
      simp only [Option.map_eq_some_iff] at h
      obtain ⟨t, ht, rfl⟩ := h
      exact ⟨hx, rfl, .inr ⟨j, b, t, hg, rfl, ht⟩⟩
theorem wanted_none {ops : Array Oper} {o : Oper} (h : o.guard = none) : Region.wanted o (yielded ops a.tmps) = true := by simp [Region.wanted, h]
theorem wanted_some {ops : Array Oper} {o : Oper} {j t : Nat} {b : Bool} {p : Option Bool} (h : o.guard = some (j, b)) (hj : (ops[j]?).bind (·.dst) = some t) (hF : FR c fr a.tmps) (hp : (fr[t]?).bind gval = some p) : Region.wanted o (yielded ops a.tmps) = (p == some b) := by
  simp [Region.wanted, h, yielded_slot hj hF hp]
/-- A region that does not draw its order. -/
theorem runS_sound {ops : Array Oper} {n : Nat} {rd : Option Nat} {Q : Exit → List AV → Hp → Prop} {c0 : Cx} : ∀ (os : List Oper) (aos : List AOper) (k : Nat), (∀ j, os[j]? = ops[k + j]?) → os.mapM (coper P ops) = some aos → ∀ {c : Cx} {fr : List AV} {h : Hp} {a : Act}, St P G B c fr h a → Ext c0 c → fence c rd = fence c0 rd → (∀ l, rd = some l → c.U l) →
    runS P G aos (Q .normal) fr h → wpOpsIn (fence c0 rd) n P ops (Post P G B c0 Q) (List.range' k os.length) a c.w
  | [], aos, k, _, hm, c, fr, h, a, hs, he, _, _, hr => by
    simp at hm; subst hm
    exact ⟨c, fr, h, rfl, hr, hs, he⟩
  | o :: os, aos, k, hk, hm, c, fr, h, a, hs, he, hf, hU, hr => by
    simp only [List.mapM_cons, Option.bind_eq_bind, Option.bind_eq_some_iff] at hm
    obtain ⟨ao, hao, aos', haos, h2⟩ := hm
    cases h2
    obtain ⟨hc, hd, hg⟩ := coper_spec hao
    have h0 : ops[k]? = some o := by simpa using (hk 0).symm
    have hrest : ∀ j, os[j]? = ops[k + 1 + j]? := fun j => by have := hk (j + 1); simpa [Nat.add_assoc, Nat.add_comm 1 j] using this
    simp only [List.length_cons, List.range'_succ, wpOpsIn, h0]
    have step : stepA P G ao.op fr h (fun v h' => runS P G aos' (Q .normal) (setO fr ao.dst v) h') → Oper.wpIn (fence c0 rd) n P o a c.w (wpOpsIn (fence c0 rd) n P ops (Post P G B c0 Q) (List.range' (k + 1) os.length)) (Post P G B c0 Q) := fun h1 => by
      rw [← hf]
      refine step_sound hc hs h1 fun v val c' h' hK hx hr' hm' he' => ?_
      rw [hf, ← hd]
      have hf' : fence c' rd = fence c0 rd := by
        rw [← hf]
        cases rd with
        | none => rfl
        | some l => simp only [fence]; rw [he'.mu l (hU l rfl)]
      exact runS_sound os aos' (k + 1) hrest haos (hs.step ao.dst hx hr' hm' he') (he.trans he') hf' (fun l hl => he'.used l (hU l hl)) hK
    rcases hg with ⟨hg1, hg2⟩ | ⟨j, b, t, hg1, hg2, hj⟩
    · rw [if_pos (wanted_none hg1)]
      simp only [runS, hg2] at hr
      exact step hr
    · simp only [runS, hg2] at hr
      obtain ⟨p, hp, hr1, hr2⟩ := hr
      rw [wanted_some hg1 hj hs.fr hp]
      by_cases e : p = some b
      · rw [if_pos (by simp [e])]
        exact step (hr1 e)
      · rw [if_neg (by simp [e])]
        refine ⟨by rw [← hf]; exact about_ok c rd o _ _, ?_⟩
        rw [← hd]
        exact runS_sound os aos' (k + 1) hrest haos (hs.step ao.dst (v := .tup []) (val := undef) RR_skip hs.rel hs.mat (Ext.refl c)) he hf hU (hr2 e)
end
end Go.Am
