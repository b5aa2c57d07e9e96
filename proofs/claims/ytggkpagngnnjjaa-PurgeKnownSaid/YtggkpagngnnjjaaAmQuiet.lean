/-
  A region that draws its order and changes nothing is walked in the order of the text. No program in sight.
-/
import Derived.Test.YtggkpagngnnjjaaAmRound
set_option linter.unusedSimpArgs false
set_option linter.unusedVariables false
namespace Go.Am
/-- A pure call's result: wherever it is made. -/
def PureC (P : Program) (G : Gl) (g : Nat) (args : List AV) (r : AV) : Prop := ∀ at_ id, FnU P G g args [] at_ r [] id
def quietOp : AOp → Bool
  | .mv _ | .pick _ _ _ | .load _ _ _ | .nchk _ | .bin _ _ _ | .eqb _ _ _ | .eqp _ _ _ _ | .eqs _ _ _ _ | .un _ _ | .conv _ _ | .faddr _ _ | .fld _ _ _ _ | .iaddrA _ _ _ _ | .iaddrS _ _ _ | .idx _ _ _ _ _ | .slS _ _ _ _ _ | .slA _ _ _ _ _ | .mkfn _ _ _ | .ext _ _ | .len _ | .minmax _ _ _ | .build _ _ | .call _ _ => true
  | _ => false
def statQ (anc : List (List Nat)) (n : Nat) : List AOper → Nat → Nat → List Ent → Option Nat
  | [], _, b, log => if chk anc b log then some 0 else none
  | o :: os, k, b, log =>
    if quietOp o.op then
      if o.op.isCall && pivot anc n k then (if chk anc b log then statQ anc n os (k + 1) (k + 1) [] else none)
      else (statQ anc n os (k + 1) b (log ++ [entOf o true [] []])).map (· + 1)
    else none
def quietReg (ops : List AOper) (pre : List (List Nat)) : Option Nat := if ordOk pre 0 then statQ (ancs pre) pre.length ops 0 0 [] else none
def stepQ (P : Program) (G : Gl) (o : AOp) (fr : List AV) (h : Hp) (K : AV → Prop) : Prop :=
  match o with
  | .call f xs => ∃ g fs cs avs r, ax G fr f = some (.fn g fs cs) ∧ valsV (ax G fr) xs = some avs ∧ PureC P G g (fs ++ avs ++ cs) r ∧ K r
  | o => ∃ v rd, evalA (ax G fr) (lk h.l) h.next o = some (v, [], rd) ∧ K v
def runQ (P : Program) (G : Gl) : List AOper → (List AV → Hp → Prop) → List AV → Hp → Prop
  | [], Q, fr, h => Q fr h
  | o :: os, Q, fr, h => guardD o fr (stepQ P G o.op fr h fun v => runQ P G os Q (setO fr o.dst v) h) (runQ P G os Q (setO fr o.dst (.tup [])) h)
structure Ent.Le (e' e : Ent) : Prop where
  sr : ∀ x ∈ e'.sr, x ∈ e.sr
  sw : ∀ x ∈ e'.sw, x ∈ e.sw
  wr : e'.wr = []
theorem meets_mono {a a' b b' : List Nat} (h : meets a b = false) (ha : ∀ x ∈ a', x ∈ a) (hb : ∀ x ∈ b', x ∈ b) : meets a' b' = false := by
  simp only [meets, List.any_eq_false, List.contains_eq_mem, decide_eq_true_eq] at h ⊢
  exact fun x hx hxb => h x (ha x hx) (hb x hxb)
theorem clash_mono {e e' f f' : Ent} (he : e'.Le e) (hf : f'.Le f) (h : clash e f = false) : clash e' f' = false := by
  simp only [clash, Bool.or_eq_false_iff] at h ⊢
  obtain ⟨⟨⟨⟨⟨h1, h2⟩, h3⟩, _⟩, _⟩, _⟩ := h
  refine ⟨⟨⟨⟨⟨meets_mono h1 he.sw hf.sr, meets_mono h2 he.sw hf.sw⟩, meets_mono h3 hf.sw he.sr⟩, ?_⟩, ?_⟩, ?_⟩ <;> simp [meets, he.wr, hf.wr]
inductive Les : List Ent → List Ent → Prop where
  | nil : Les [] []
  | cons {e' e : Ent} {l' l : List Ent} (h : e'.Le e) (t : Les l' l) : Les (e' :: l') (e :: l)
theorem Les.snoc {e' e : Ent} (h : e'.Le e) : ∀ {l' l : List Ent}, Les l' l → Les (l' ++ [e']) (l ++ [e])
  | _, _, .nil => .cons h .nil
  | _, _, .cons h1 t => .cons h1 (t.snoc h)
theorem chkOne_mono {anc : List (List Nat)} {k : Nat} {e' e : Ent} (he : e'.Le e) : ∀ {l' l : List Ent} {j : Nat}, Les l' l → chkOne anc k e j l = true → chkOne anc k e' j l' = true
  | _, _, _, .nil, _ => rfl
  | _, _, j, .cons hf t, h => by
    simp only [chkOne, Bool.and_eq_true, Bool.or_eq_true, Bool.not_eq_true'] at h ⊢
    exact ⟨h.1.imp id (clash_mono he hf), chkOne_mono he t h.2⟩
theorem chk_mono {anc : List (List Nat)} : ∀ {l' l : List Ent} {k : Nat}, Les l' l → chk anc k l = true → chk anc k l' = true
  | _, _, _, .nil, _ => rfl
  | _, _, k, .cons he t, h => by
    simp only [chk, Bool.and_eq_true] at h ⊢
    exact ⟨chkOne_mono he t h.1, chk_mono t h.2⟩
theorem ent_le {o : AOper} {ran : Bool} {rd : List Nat} : (entOf o ran [] rd).Le (entOf o true [] []) := by
  refine ⟨fun x hx => ?_, fun x hx => hx, rfl⟩
  simp only [entOf, List.mem_append] at hx ⊢
  rcases hx with h | h
  · exact .inl h
  · cases ran with
    | true => exact .inr h
    | false => simp at h
section
variable {P : Program} {G : Gl}
theorem quiet_id {ev : AX → Option AV} {at_ : At} {id id' : Nat} {o : AOp} (hq : quietOp o = true) : evalA ev at_ id o = evalA ev at_ id' o := by
  cases o <;> first | rfl | cases hq
theorem runD_quiet {anc : List (List Nat)} {n : Nat} {Q : List AV → Hp → Prop} {l : List (Nat × AObj)} {h : Hp} (hl0 : h.l = l) {e : Nat} : ∀ (os : List AOper) (k b : Nat) (log log' : List Ent) (fr : List AV) (nx m : Nat), statQ anc n os k b log = some m → nx + m = e → Les log' log →
    runQ P G os (fun fr' _ => Q fr' ⟨l, e⟩) fr h → runD P G anc n os k b log' Q fr ⟨l, nx⟩
  | [], k, b, log, log', fr, nx, m, hs, hm, hl, hr => by
    simp only [statQ] at hs
    split at hs
    · rename_i hc; cases hs; cases hm; exact ⟨chk_mono hl hc, hr⟩
    · cases hs
  | o :: os, k, b, log, log', fr, nx, m, hs, hm, hl, hr => by
    simp only [statQ] at hs
    split at hs
    · rename_i hq
      simp only [runD]
      split at hs
      · rename_i hp
        rw [if_pos hp]
        split at hs
        · rename_i hc
          refine ⟨chk_mono hl hc, ?_⟩
          have hcall : o.op.isCall = true := by simp only [Bool.and_eq_true] at hp; exact hp.1
          have step : stepQ P G o.op fr h (fun v => runQ P G os (fun fr' _ => Q fr' ⟨l, e⟩) (setO fr o.dst v) h) → stepA P G o.op fr ⟨l, nx⟩ fun v h' => runD P G anc n os (k + 1) (k + 1) [] Q (setO fr o.dst v) h' := by
            revert hcall
            cases o.op <;> intro hcall <;> try (cases hcall)
            rintro ⟨g, fs, cs, avs, r, h1, h2, h3, h4⟩
            exact ⟨_, avs, h1, h2, callV_fnU (h3 _ _) (runD_quiet hl0 os (k + 1) (k + 1) [] [] _ nx m hs hm .nil h4)⟩
          have skip : runQ P G os (fun fr' _ => Q fr' ⟨l, e⟩) (setO fr o.dst (.tup [])) h → runD P G anc n os (k + 1) (k + 1) [] Q (setO fr o.dst (.tup [])) ⟨l, nx⟩ := runD_quiet hl0 os (k + 1) (k + 1) [] [] _ nx m hs hm .nil
          simp only [runQ, guardD] at hr ⊢
          split at hr
          · exact step hr
          · obtain ⟨p, h1, h2, h3⟩ := hr
            exact ⟨p, h1, fun e => step (h2 e), fun e => skip (h3 e)⟩
        · cases hs
      · rename_i hp
        rw [if_neg hp]
        simp only [Option.map_eq_some_iff] at hs
        obtain ⟨m', hs, rfl⟩ := hs
        have skip : runQ P G os (fun fr' _ => Q fr' ⟨l, e⟩) (setO fr o.dst (.tup [])) h → runD P G anc n os (k + 1) b (log' ++ [entOf o false [] []]) Q (setO fr o.dst (.tup [])) (Hp.appD ⟨l, nx⟩ []) := fun hr =>
          runD_quiet hl0 os (k + 1) b _ _ _ (nx + 1) m' hs (by omega) (hl.snoc ent_le) hr
        have go : ∀ (v : AV) (rd : List Nat), runQ P G os (fun fr' _ => Q fr' ⟨l, e⟩) (setO fr o.dst v) h → runD P G anc n os (k + 1) b (log' ++ [entOf o true [] rd]) Q (setO fr o.dst v) (Hp.appD ⟨l, nx⟩ []) := fun v rd hr =>
          runD_quiet hl0 os (k + 1) b _ _ _ (nx + 1) m' hs (by omega) (hl.snoc ent_le) hr
        have step : stepQ P G o.op fr h (fun v => runQ P G os (fun fr' _ => Q fr' ⟨l, e⟩) (setO fr o.dst v) h) → ∃ v up rd, StepD P G o.op fr (lk l) nx v up rd ∧ runD P G anc n os (k + 1) b (log' ++ [entOf o true up rd]) Q (setO fr o.dst v) (Hp.appD ⟨l, nx⟩ up) := by
          have key : quietOp o.op = true := hq
          revert key
          generalize o.op = op
          intro key hst
          cases op
          case call f xs =>
            obtain ⟨g, fs, cs, avs, r, h1, h2, h3, h4⟩ := hst
            exact ⟨r, [], [], ⟨g, fs, cs, avs, h1, h2, h3 _ _⟩, go r [] h4⟩
          all_goals
            first
            | (obtain ⟨v, rd, h1, h2⟩ := hst
               rw [hl0, quiet_id (id' := nx) key] at h1
               exact ⟨v, [], rd, h1, go v rd h2⟩)
            | cases key
        simp only [runQ, guardD] at hr ⊢
        split at hr
        · exact step hr
        · obtain ⟨p, h1, h2, h3⟩ := hr
          exact ⟨p, h1, fun e => step (h2 e), fun e => skip (h3 e)⟩
    · cases hs
theorem regD_quiet {rd : Option Nat} {N m : Nat} {ops : List AOper} {pre : List (List Nat)} {Q : Exit → List AV → Hp → Prop} {fr : List AV} {h : Hp} (hs : quietReg ops pre = some m) (hr : runQ P G ops (fun fr' _ => Q .normal fr' ⟨h.l, h.next + m⟩) fr h) : wpc P G rd N (.regD ops pre) Q fr h := by
  unfold quietReg at hs
  split at hs
  · rename_i ho
    exact ⟨ho, runD_quiet (h := h) rfl ops 0 0 [] [] fr h.next m hs rfl .nil hr⟩
  · cases hs
end
end Go.Am
