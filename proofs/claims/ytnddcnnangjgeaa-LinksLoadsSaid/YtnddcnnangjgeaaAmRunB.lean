/-
  The abstract machine's runs are sound. No program in sight.
-/
import Derived.Test.YtnddcnnangjgeaaAmRun
set_option linter.unusedSimpArgs false
set_option linter.unusedVariables false
namespace Go.Am
section
variable {P : Program} {G : Gl}
theorem cx_ren_id {c : Cx} {h : Hp} (hm : Mat c h) : c.ren id h = c := by
  obtain ⟨U, at_, mu, w, hid⟩ := c
  have h1 : U = fun i => i < h.next := funext fun i => propext (hm.U i)
  have h2 : at_ = lk h.l := hm.at_
  subst h1; subst h2
  rfl
theorem weak_refl {fr : List AV} {h : Hp} : Weak P id fr h fr h := fun c tmps hR hm hF => by
  rw [cx_ren_id hm]
  exact ⟨hR, hF, fun i o hi => ⟨o, hi⟩⟩
def CallSnd (P : Program) (G : Gl) (cl : CallF) : Prop := ∀ fv args h r h', cl fv args h = some (r, h') → ∀ K : AV → Hp → Prop, K r h' → CallV P G fv args h K
def PureSnd (P : Program) (G : Gl) (cp : CallP) : Prop := ∀ g avs h r rd, cp g avs h = some (r, rd) → ∀ id, FnU P G g avs rd (lk h.l) r [] id
theorem stepE_sound {cl : CallF} (hcl : CallSnd P G cl) {o : AOp} {fr : List AV} {h h' : Hp} {v : AV} {K : AV → Hp → Prop} (he : stepE cl G o fr h = some (v, h')) (hK : K v h') : stepA P G o fr h K := by
  cases o
  case call f args =>
    simp only [stepE] at he
    split at he
    · rename_i fv avs h1 h2; exact ⟨fv, avs, h1, h2, hcl _ _ _ _ _ he K hK⟩
    · cases he
  all_goals
    simp only [stepE] at he
    split at he
    · rename_i v' up rd hv
      cases he
      exact ⟨_, _, _, hv, hK⟩
    · cases he
theorem runSE_sound {cl : CallF} (hcl : CallSnd P G cl) {Q : List AV → Hp → Prop} {fr' : List AV} {h' : Hp} (hQ : Q fr' h') : ∀ (os : List AOper) (fr : List AV) (h : Hp), runSE cl G os fr h = some (fr', h') → runS P G os Q fr h
  | [], fr, h, he => by cases he; exact hQ
  | o :: os, fr, h, he => by
    simp only [runSE] at he
    simp only [runS]
    have step : ∀ {x : Option (AV × Hp)}, x = stepE cl G o.op fr h → (match x with | some (v, h') => runSE cl G os (setO fr o.dst v) h' | none => none) = some (fr', h') → stepA P G o.op fr h fun v h' => runS P G os Q (setO fr o.dst v) h' := fun {x} hx he => by
      match x, hx, he with
      | some (v, h1), hx, he => exact stepE_sound hcl hx.symm (runSE_sound hcl hQ os _ _ he)
    split at he
    · rename_i hg
      rw [hg]
      exact step rfl he
    · rename_i t b hg
      rw [hg]
      dsimp only
      split at he
      · rename_i p hp
        refine ⟨some p, hp, fun e => ?_, fun e => ?_⟩
        · rw [if_pos (by simpa using e)] at he; exact step rfl he
        · rw [if_neg (by simpa using e)] at he; exact runSE_sound hcl hQ os _ _ he
      · rename_i hp
        exact ⟨none, hp, fun e => (by cases e), fun _ => runSE_sound hcl hQ os _ _ he⟩
      · cases he
theorem stepDE_sound {cp : CallP} (hcp : PureSnd P G cp) {o : AOp} {fr : List AV} {h : Hp} {v : AV} {up : Up} {rd : List Nat} (he : stepDE cp G o fr h = some (v, up, rd)) : StepD P G o fr (lk h.l) h.next v up rd := by
  cases o
  case call f args =>
    simp only [stepDE] at he
    split at he
    · rename_i g fs cs avs h1 h2
      simp only [Option.map_eq_some_iff] at he
      obtain ⟨⟨r, rd'⟩, hr, e⟩ := he
      cases e
      exact ⟨g, fs, cs, avs, h1, h2, hcp _ _ _ _ _ hr _⟩
    · cases he
  all_goals exact he
theorem wantE_sound {fr : List AV} {o : AOper} {w : Bool} {A B : Prop} (hw : wantE fr o = some w) (ha : w = true → A) (hb : w = false → B) : guardD o fr A B := by
  unfold wantE at hw
  unfold guardD
  split at hw
  · rename_i hg; rw [hg]; cases hw; exact ha rfl
  · rename_i t b hg
    rw [hg]
    dsimp only
    split at hw
    · rename_i p hp
      cases hw
      refine ⟨p, hp, fun e => ha (by simp [e]), fun e => hb (by simpa using e)⟩
    · cases hw
theorem runDE_sound {cl : CallF} {cp : CallP} (hcl : CallSnd P G cl) (hcp : PureSnd P G cp) {anc : List (List Nat)} {n : Nat} {Q : List AV → Hp → Prop} {fr' : List AV} {h' : Hp} (hQ : Q fr' h') : ∀ (os : List AOper) (k b : Nat) (log : List Ent) (fr : List AV) (h : Hp), runDE cl cp G anc n os k b log fr h = some (fr', h') → runD P G anc n os k b log Q fr h
  | [], k, b, log, fr, h, he => by
    simp only [runDE] at he
    split at he
    · rename_i hc; cases he; exact ⟨hc, hQ⟩
    · cases he
  | o :: os, k, b, log, fr, h, he => by
    simp only [runDE] at he
    simp only [runD]
    split at he
    · rename_i hp
      rw [if_pos hp]
      split at he
      · rename_i hc
        refine ⟨hc, ?_⟩
        split at he
        · rename_i hw
          refine wantE_sound hw (fun _ => ?_) (fun e => by cases e)
          split at he
          · rename_i v h1 hs; exact stepE_sound hcl hs (runDE_sound hcl hcp hQ os _ _ _ _ _ he)
          · cases he
        · rename_i hw
          exact wantE_sound hw (fun e => by cases e) fun _ => runDE_sound hcl hcp hQ os _ _ _ _ _ he
        · cases he
      · cases he
    · rename_i hp
      rw [if_neg hp]
      split at he
      · rename_i hw
        refine wantE_sound hw (fun _ => ?_) (fun e => by cases e)
        split at he
        · rename_i v up rd hs; exact ⟨v, up, rd, stepDE_sound hcp hs, runDE_sound hcl hcp hQ os _ _ _ _ _ he⟩
        · cases he
      · rename_i hw
        exact wantE_sound hw (fun e => by cases e) fun _ => runDE_sound hcl hcp hQ os _ _ _ _ _ he
      · cases he
open Classical in
theorem exec_sound {fok : Nat → Bool} {cl : CallF} {cp : CallP} {rd : Option Nat} {N : Nat} (hfok : ∀ g, fok g = true → fnOk P g = true) (hcl : CallSnd P G cl) (hcp : PureSnd P G cp) :
    ∀ (n : Nat) (c : ACode) (fr : List AV) (h : Hp) (e : Exit) (fr' : List AV) (h' : Hp) (Q : Exit → List AV → Hp → Prop), exec fok cl cp G rd N n c fr h = some (e, fr', h') → Q e fr' h' → wpc P G rd N c Q fr h := by
  intro n
  induction n using Nat.strongRecOn with
  | _ n ih =>
  intro c fr h e fr' h' Q he hQ
  cases n with
  | zero => simp only [exec] at he; cases he
  | succ n =>
  cases c with
  | skip => simp only [exec] at he; cases he; exact hQ
  | exit id => simp only [exec] at he; cases he; exact hQ
  | ret => simp only [exec] at he; cases he; exact hQ
  | reg ops =>
    simp only [exec] at he
    split at he
    · rename_i fr1 h1 hr; cases he; exact runSE_sound hcl hQ ops fr h hr
    · cases he
  | regD ops pre =>
    simp only [exec] at he
    split at he
    · rename_i ho
      split at he
      · rename_i fr1 h1 hr; cases he; exact ⟨ho, runDE_sound hcl hcp hQ ops 0 0 [] fr h hr⟩
      · cases he
    · cases he
  | seq a b =>
    simp only [exec] at he
    split at he
    · rename_i fr1 h1 hr
      exact ih n (Nat.lt_succ_self n) a fr h _ _ _ _ hr (ih n (Nat.lt_succ_self n) b fr1 h1 _ _ _ _ he hQ)
    · rename_i hne
      refine ih n (Nat.lt_succ_self n) a fr h e fr' h' _ he ?_
      cases e <;> first | exact hQ | exact absurd he (hne _ _)
  | cond c a b =>
    simp only [exec] at he
    split at he
    · rename_i hc; exact ⟨true, hc, fun _ => ih n (Nat.lt_succ_self n) a fr h _ _ _ _ he hQ, fun e => by cases e⟩
    · rename_i hc; exact ⟨false, hc, (fun e => by cases e), fun _ => ih n (Nat.lt_succ_self n) b fr h _ _ _ _ he hQ⟩
    · cases he
  | block id c =>
    simp only [exec] at he
    show wpc P G rd N c (blockQ id Q) fr h
    split at he
    · rename_i j fr1 h1 hr
      refine ih n (Nat.lt_succ_self n) c fr h _ _ _ _ hr ?_
      split at he
      · rename_i hj; cases he; simp only [blockQ, if_pos hj]; exact hQ
      · rename_i hj; cases he; simp only [blockQ, if_neg hj]; exact hQ
    · rename_i hne
      refine ih n (Nat.lt_succ_self n) c fr h e fr' h' _ he ?_
      cases e <;> first | exact hQ | exact absurd he (hne _ _ _)
  | loop c =>
    let ok : Nat → List AV → Hp → Prop := fun k fr1 h1 => k ≤ n + 1 ∧ exec fok cl cp G rd N k (.loop c) fr1 h1 = some (e, fr', h')
    let mu : List AV → Hp → Nat := fun fr1 h1 => if hh : ∃ k, ok k fr1 h1 then Classical.choose (least hh) else 0
    have hmu : ∀ fr1 h1 (hh : ∃ k, ok k fr1 h1), ok (mu fr1 h1) fr1 h1 ∧ ∀ k, ok k fr1 h1 → mu fr1 h1 ≤ k := fun fr1 h1 hh => by
      have := Classical.choose_spec (least hh)
      simp only [mu, dif_pos hh]
      exact this
    have hN : ∀ k fr1 h1, ok k fr1 h1 → N ≤ h1.next := fun k fr1 h1 hk => by
      obtain ⟨_, hk⟩ := hk
      cases k with
      | zero => simp only [exec] at hk; cases hk
      | succ k =>
        simp only [exec] at hk
        split at hk
        · assumption
        · cases hk
    have h0 : ok (n + 1) fr h := ⟨Nat.le_refl _, he⟩
    refine ⟨fun fr1 h1 => ∃ k, ok k fr1 h1, mu, ⟨id, fr, h, weak_refl, fun _ _ => rfl, hN _ _ _ h0, n + 1, h0⟩, fun fr1 h1 hI => ?_⟩
    obtain ⟨hok, hmin⟩ := hmu fr1 h1 hI
    generalize hk : mu fr1 h1 = k at hok hmin ⊢
    obtain ⟨hle, hex⟩ := hok
    cases k with
    | zero => simp only [exec] at hex; cases hex
    | succ k =>
      simp only [exec] at hex
      split at hex
      · rename_i hN1
        split at hex
        · rename_i fr2 h2 hr
          have hok2 : ok k fr2 h2 := ⟨by omega, hex⟩
          refine ih k (by omega) c fr1 h1 _ _ _ _ hr ⟨id, fr2, h2, weak_refl, fun _ _ => rfl, hN _ _ _ hok2, ⟨k, hok2⟩, ?_⟩
          have := (hmu fr2 h2 ⟨k, hok2⟩).2 k hok2
          omega
        · rename_i hne
          refine ih k (by omega) c fr1 h1 e fr' h' _ hex ?_
          cases e <;> first | exact hQ | exact absurd hex (hne _ _)
      · cases hex
  | rangeF f ps as bd =>
    simp only [exec] at he
    split at he
    · rename_i g fs cs hf
      split at he
      · rename_i hg
        simp only [Bool.and_eq_true] at hg
        obtain ⟨hg, hin⟩ := hg
        split at he
        · rename_i x h2 hcall
          refine ⟨g, fs, cs, hf, hfok g hg, ?_, hcl _ _ _ _ _ hcall _ ?_⟩
          · cases rd with
            | none => trivial
            | some l =>
              simp only [inLoopB] at hin
              split at hin
              · rename_i hl; exact ⟨_, _, _, _, _, _, hl⟩
              · cases hin
          · split at he
            · cases he
            · rename_i st fr1 ps1 as1 bd1 hne hl
              cases he
              refine ⟨st, none, fr1, ps1, as1, bd1, hl, ?_, hQ⟩
              intro e0; subst e0; first | exact hne | exact hne rfl | exact hne _ _ _ _ _ hl | simp_all
            · rename_i st id fr1 ps1 as1 bd1 hne hl
              cases he
              refine ⟨st, _, fr1, ps1, as1, bd1, hl, ?_, hQ⟩
              intro e0; subst e0; first | exact hne | exact hne rfl | exact hne _ _ _ _ _ hl | simp_all
            · rename_i st fr1 ps1 as1 bd1 hne hl
              cases he
              refine ⟨st, _, fr1, ps1, as1, bd1, hl, ?_, hQ⟩
              intro e0; subst e0; first | exact hne | exact hne rfl | exact hne _ _ _ _ _ hl | simp_all
            · cases he
        · cases he
      · cases he
    · cases he
theorem resE_sound {rs : List ARes} {N : Nat} {x : Option (Exit × List AV × Hp)} {r : AV} {h' : Hp} (he : resE rs N x = some (r, h')) : ∃ e fr l, x = some (e, fr, h') ∧ (e = .normal ∨ e = .ret) ∧ N ≤ h'.next ∧ resVs fr (lk h'.l) rs = some l ∧ r = packV l := by
  unfold resE at he
  split at he
  all_goals first
    | (split at he
       · rename_i hN
         split at he
         · rename_i l hl; cases he; exact ⟨_, _, l, rfl, by simp, hN, hl, rfl⟩
         · cases he
       · cases he)
    | cases he
def tabOk (P : Program) (T : Tab) : Prop := ∀ f ac rs k, T f = some (.code ac rs k) → Body P f ac rs k
def orcOk (P : Program) (G : Gl) (T : Tab) : Prop := ∀ f F, T f = some (.orc F) → ∀ fs args cs h r h', F (fs ++ args ++ cs) h = some (r, h') → ∀ K : AV → Hp → Prop, K r h' → CallV P G (.fn f fs cs) args h K
theorem callE_body {T : Tab} {n g : Nat} {avs : List AV} {h h1 : Hp} {r : AV} (hc : FnE.isCode (T g) = true) (he : callE T G (n + 1) (.fn g [] []) avs h = some (r, h1)) : ∃ ac rs k e fr l, T g = some (.code ac rs k) ∧ exec (fun g => FnE.isCode (T g)) (callE T G n) (pureE (fun g => FnE.isCode (T g)) (callE T G n)) G none h.next n ac (avs ++ List.replicate (k - avs.length) .undef) h = some (e, fr, h1) ∧ (e = .normal ∨ e = .ret) ∧ h.next ≤ h1.next ∧ resVs fr (lk h1.l) rs = some l ∧ r = packV l := by
  simp only [callE] at he
  split at he
  · rename_i ac rs k hf
    obtain ⟨e, fr, l, hx, hen, hN, hl, rfl⟩ := resE_sound he
    simp only [List.nil_append, List.append_nil] at hx
    exact ⟨ac, rs, k, e, fr, l, hf, hx, hen, hN, hl, rfl⟩
  · rename_i F hf; rw [hf] at hc; cases hc
  · cases he
theorem tab_fok {T : Tab} (hT : tabOk P T) : ∀ g, FnE.isCode (T g) = true → fnOk P g = true := fun g hg => by
  generalize e : T g = x at hg
  match x, e, hg with
  | some (.code ac rs k), e, _ => exact (hT _ _ _ _ e).ok
/-- What a run over an empty store gives, made a value. -/
theorem callE_pureW (hmix : P.follows .mixedOrders = true) {T : Tab} (hT : tabOk P T) (hG : PlainG G) {n : Nat} (h1 : CallSnd P G (callE T G n)) (h2 : PureSnd P G (pureE (fun g => FnE.isCode (T g)) (callE T G n))) {g : Nat} {avs : List AV} {r r' : AV} {h0 : Hp} (hc : FnE.isCode (T g) = true) (he : callE T G (n + 1) (.fn g [] []) avs ⟨[], 0⟩ = some (r, h0)) (ha : ∀ x ∈ avs, Plain x) (hr : Plain r')
    (hw : WkV P id h0 ⟨[], 0⟩ r r') : PureC P G g avs r' := by
  obtain ⟨ac, rs, k, e, fr, l, hf, hx, hen, hN, hl, rfl⟩ := callE_body hc he
  intro at_ id
  refine fnU_pure hmix (hT _ _ _ _ hf) hG ha hr (exec_sound (tab_fok hT) h1 h2 n _ _ _ _ _ _ _ hx ?_)
  have key : ∃ l' σ q h', resVs fr (lk h0.l) rs = some l' ∧ Weak P σ [packV l'] h0 [q] h' ∧ Keeps 0 σ ∧ 0 ≤ h'.next ∧ q = r' ∧ h'.l = [] :=
    ⟨l, _root_.id, r', ⟨[], 0⟩, hl, weak_of (fun i j o o' hi => by cases hi) ⟨hw, trivial⟩ trivial, fun _ _ => rfl, Nat.le_refl _, rfl, rfl⟩
  rcases hen with rfl | rfl <;> exact key
theorem wk_frzV {d : Nat} {h0 : Hp} {r r' : AV} {rd : List Nat} (hf : frzV d (lk h0.l) r = some (r', rd)) : WkV P id h0 ⟨[], 0⟩ r r' := fun c v hR hm hr => by
  have hfz : Frz c (c.ren id ⟨[], 0⟩) rd (lk h0.l) := ⟨rfl, fun b hb => ⟨hb.1, fun i o hi => (by cases hi), hb.3⟩, fun i hi o ho => ⟨(hR.obj i o ho).lt, fun j o' hj => (by cases hj), hR.nohid i o ho⟩, fun i _ => by rw [hm.at_]⟩
  exact (frz_sound hfz hR d r r' rd hf fun i hi => hi).1 v hr
theorem wk_plain0 {h0 : Hp} {r : AV} (hr : Plain r) : WkV P id h0 ⟨[], 0⟩ r r := wk_plain (fun i o hi => by cases hi) hr
theorem frzL_plain {d : Nat} {at_ : At} {avs avs' : List AV} {rd : List Nat} (hf : frzL (frzV d at_) avs = some (avs', rd)) : ∀ x ∈ avs', Plain x := fun z hz => by
  obtain ⟨j, hj⟩ := List.mem_iff_getElem?.1 hz
  obtain ⟨x', a, q1, q2, q3⟩ := (frzL_spec hf).2 j z hj
  exact frzV_plain _ _ _ _ q2
theorem pure_snd (hmix : P.follows .mixedOrders = true) {T : Tab} (hT : tabOk P T) (hG : PlainG G) {n : Nat} (h1 : CallSnd P G (callE T G n)) (h2 : PureSnd P G (pureE (fun g => FnE.isCode (T g)) (callE T G n))) : PureSnd P G (pureE (fun g => FnE.isCode (T g)) (callE T G (n + 1))) := fun g avs h r rd hr id => by
  simp only [pureE] at hr
  split at hr
  case isFalse => cases hr
  rename_i hc
  split at hr
  · rename_i avs' rd1 hfz
    have hpl := frzL_plain hfz
    split at hr
    · rename_i r0 h0 he
      split at hr
      · rename_i hb
        cases hr
        simp only [Bool.or_eq_true, Bool.and_eq_true, List.isEmpty_iff] at hb
        by_cases hs : scalB 9 r = true
        · have hsc := scalB_scal 9 r hs
          have hp : Plain r := fun c c' v _ => hsc c c' v
          exact fnU_frz (callE_pureW hmix hT hG h1 h2 hc he hpl hp (wk_plain0 hp)) hG hfz hsc
        · obtain ⟨hrd, hp⟩ := hb.resolve_left hs
          subst hrd
          have hp := plainB_plain 9 r hp
          exact fnU_frz0 (callE_pureW hmix hT hG h1 h2 hc he hpl hp (wk_plain0 hp)) hG hfz hp
      · split at hr
        · rename_i r' rd' hf
          split at hf
          · rename_i hrd
            cases hr
            rw [List.isEmpty_iff] at hrd
            subst hrd
            have hp := frzV_plain 9 _ _ _ hf
            exact fnU_frz0 (callE_pureW hmix hT hG h1 h2 hc he hpl hp (wk_frzV hf)) hG hfz hp
          · cases hf
        · split at hr
          · rename_i r1 h3 he3
            simp only [Option.map_eq_some_iff] at hr
            obtain ⟨r', hro, e⟩ := hr
            cases e
            obtain ⟨ac, rs, k, e, fr, l, hf, hx, hen, hN, hl, hpk⟩ := callE_body hc he3
            obtain ⟨key, ht, hn, hp⟩ := ro_fin (P := P) hro hl hpk
            refine fnU_ro (loc_of hmix (hT _ _ _ _ hf) (exec_sound (tab_fok hT) h1 h2 n _ _ _ _ _ _ _ hx ?_)) hG (roIn_id (fun _ _ => restr_lk) ht) (rnl_all fun x hx => names_rn (fun i hi => ⟨rfl, hi⟩) 9 x (List.all_eq_true.1 hn x hx)) hp
            rcases hen with rfl | rfl <;> exact key
          · cases hr
    · cases hr
  · cases hr
theorem callE_sound (hmix : P.follows .mixedOrders = true) {T : Tab} (hT : tabOk P T) (hO : orcOk P G T) (hG : PlainG G) : ∀ n : Nat, CallSnd P G (callE T G n) ∧ PureSnd P G (pureE (fun g => FnE.isCode (T g)) (callE T G n)) := by
  intro n
  induction n with
  | zero =>
    refine ⟨fun _ _ _ _ _ h => by simp [callE] at h, fun g avs h r rd hr => ?_⟩
    simp only [pureE] at hr
    split at hr
    · split at hr
      · simp only [callE] at hr; cases hr
      · cases hr
    · cases hr
  | succ n ih =>
  obtain ⟨ih1, hcp⟩ := ih
  have hfok := tab_fok hT
  refine ⟨fun fv args h r h' he K hK => ?_, pure_snd hmix hT hG ih1 hcp⟩
  · simp only [callE] at he
    split at he
    · rename_i f fs cs
      split at he
      · rename_i ac rs k hf
        obtain ⟨e, fr, l, hx, hen, hN, hl, rfl⟩ := resE_sound he
        refine callV_body hmix (hT _ _ _ _ hf) (exec_sound hfok ih1 hcp n _ _ _ _ _ _ _ hx ?_)
        rcases hen with rfl | rfl <;> exact ⟨l, id, _, _, hl, weak_refl, fun _ _ => rfl, hN, hK⟩
      · rename_i F hf; exact hO _ _ hf _ _ _ _ _ _ he K hK
      · cases he
    · rename_i l
      split at he
      · rename_i pend fr ps as bd hl
        split at he
        · rename_i hlen
          split at he
          · rename_i fr1 h1 hx
            split at he
            · rename_i pend1 fr2 ps2 as2 bd2 hl1
              refine callV_yld hmix hl hlen (exec_sound hfok ih1 hcp n _ _ _ _ _ _ _ hx ⟨rfl, pend1, fr2, ps2, as2, bd2, hl1, ?_⟩)
              generalize hy : exec _ _ _ _ _ _ _ _ _ _ = y at he
              match y, he, hy with
              | some (e3, fr3, h3), he, hy =>
                refine exec_sound hfok ih1 hcp n _ _ _ _ _ _ _ hy ?_
                simp only [roundE] at he
                split at he
                · rename_i pend3 fr4 ps4 as4 bd4 hl3
                  refine ⟨pend3, fr4, ps4, as4, bd4, hl3, ?_⟩
                  split at he <;> first | (cases he; exact hK) | cases he
                · cases he
            · cases he
          · cases he
        · cases he
      · cases he
    · cases he
end
end Go.Am
