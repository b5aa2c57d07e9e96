/-
  A region that draws its order: the law. No program in sight.
-/
import Derived.Test.YtggkpagngnnjjaaAmDrawB
set_option linter.unusedSimpArgs false
set_option linter.unusedVariables false
namespace Go.Am
/-- One name more counts as used. -/
def Cx.grow (c : Cx) (k : Nat) : Cx := { c with U := fun i => c.U i ∨ i = k }
theorem ext_grow {c : Cx} (k : Nat) : Ext c (c.grow k) := ⟨fun _ h => .inl h, fun _ _ => rfl, fun _ _ => rfl, fun _ h => ⟨⟨h.1, h.2, h.3⟩, rfl⟩, Nat.le_refl _, fun _ => Iff.rfl, fun _ _ => rfl, rfl, rfl, rfl⟩
theorem rel_grow {P : Program} {c : Cx} (k : Nat) (h : Rel P c) : Rel P (c.grow k) :=
  ⟨fun i o hi => .inl (h.used i o hi), h.inj, fun i o hi => (h.obj i o hi).ext (ext_grow k) rfl, let ⟨N, hN⟩ := h.many; ⟨max N (k + 1), fun i hi => by
    rcases hi with hi | hi
    · have := hN i hi; omega
    · omega⟩, h.nohid, h.hidlt⟩
/-- Each stands behind those that come before it. -/
def ordOk : List (List Nat) → Nat → Bool
  | [], _ => true
  | ps :: r, k => ps.all (fun p => decide (p < k)) && ordOk r (k + 1)
theorem ordOk_spec : ∀ {l : List (List Nat)} {k : Nat}, ordOk l k = true → ∀ (j : Nat) ps, l[j]? = some ps → ∀ p ∈ ps, p < k + j
  | [], _, _, j, ps, h => by simp at h
  | q :: l, k, h, j, ps, hj => by
    simp only [ordOk, Bool.and_eq_true, List.all_eq_true, decide_eq_true_eq] at h
    cases j with
    | zero => simp at hj; subst hj; exact h.1
    | succ j => rw [show k + (j + 1) = k + 1 + j by omega]; exact ordOk_spec h.2 j ps (by simpa using hj)
theorem apF_none : ∀ (L : List Rec) (S : Nat → Bool) (k : Nat) (fr : List AV), (∀ i, k ≤ i → S i = false) → apF L S k fr = fr
  | [], _, _, _, _ => rfl
  | r :: L, S, k, fr, h => by simp only [apF, h k (Nat.le_refl _), Bool.false_eq_true, if_false]; exact apF_none L S (k + 1) fr fun i hi => h i (by omega)
theorem apH_none : ∀ (L : List Rec) (S : Nat → Bool) (k : Nat) (at_ : At), (∀ i, k ≤ i → S i = false) → apH L S k at_ = at_
  | [], _, _, _, _ => rfl
  | r :: L, S, k, at_, h => by simp only [apH, h k (Nat.le_refl _), Bool.false_eq_true, if_false]; exact apH_none L S (k + 1) at_ fun i hi => h i (by omega)
theorem apF_congr : ∀ (L : List Rec) (S T : Nat → Bool) (k : Nat) (fr : List AV), (∀ i, S i = T i) → apF L S k fr = apF L T k fr := fun L S T k fr h => by rw [show S = T from funext h]
theorem ancs_lt {pre : List (List Nat)} {j i : Nat} (h : i ∈ (ancs pre).getD j []) : i < j := by
  obtain ⟨_, _, h2, _⟩ := ancs_spec pre [] j i (Nat.zero_le _) h; exact h2
theorem pivot_spec {anc : List (List Nat)} {n k i : Nat} (h : pivot anc n k = true) (hi : i < n) (hne : i ≠ k) : i ∈ anc.getD k [] ∨ k ∈ anc.getD i [] := by
  simp only [pivot, List.all_eq_true, List.mem_range, Bool.or_eq_true, beq_iff_eq, List.contains_eq_mem, decide_eq_true_eq] at h
  rcases h i hi with (h | h) | h
  · exact absurd h hne
  · exact .inl h
  · exact .inr h
theorem getD_listed {listed : Array Bool} {i : Nat} (hi : i < listed.size) (j : Nat) : (listed.setIfInBounds i true).getD j false = (listed.getD j false || j == i) := by
  by_cases e : j = i
  · subst e; simp [hi]
  · rw [getD_set_ne false (Ne.symm e)]; simp [e]
/-- How many are listed. -/
def listedN (listed : Array Bool) : Nat := listed.toList.count true
theorem listedN_set {listed : Array Bool} {i : Nat} (hi : i < listed.size) (h : listed.getD i false = false) : listedN (listed.setIfInBounds i true) = listedN listed + 1 := by
  unfold listedN
  rw [Array.toList_setIfInBounds, List.count_set (by simpa using hi)]
  have : listed.toList[i]'(by simpa using hi) = false := by simpa [hi] using h
  simp [this]
theorem listedN_all {listed : Array Bool} (h : listedN listed = listed.size) (i : Nat) (hi : i < listed.size) : listed.getD i false = true := by
  unfold listedN at h
  have h2 : ∀ b ∈ listed.toList, true = b := List.count_eq_length.1 (by simpa using h)
  have := h2 listed[i] (by simp)
  simp [hi, ← this]
section
variable {P : Program} {G : Gl} {B : Nat} {ops : Array Oper} {aops : List AOper} {n' : Nat} {rd : Option Nat} {Q : Exit → List AV → Hp → Prop} {c0 : Cx}
/-- What holds while a region is worked off. -/
structure Inv (P : Program) (G : Gl) (B : Nat) (ops : Array Oper) (aops : List AOper) (rd : Option Nat) (Q : List AV → Hp → Prop) (c0 : Cx) (listed : Array Bool) (b : Nat) (L : List Rec) (os2 : List AOper) (fr0 : List AV) (h0 : Hp) (c : Cx) (a : Act) : Prop where
  size : listed.size = ops.size
  closed : Closed ops listed
  below : ∀ i, i < b → i < ops.size → listed.getD i false = true
  above : ∀ i, b + L.length ≤ i → listed.getD i false = false
  split : ∃ A1 : List AOper, A1.length = b ∧ aops = A1 ++ (L.map (·.o) ++ os2)
  tr : TrOk P G L fr0 h0
  chk : chk (ancs (ops.toList.map preds)) b (L.map Rec.ent) = true
  tail : Tail P G (ancs (ops.toList.map preds)) ops.size (b + L.length) Q (finF L fr0) (finH L h0) os2
  rel : Rel P c
  glo : RelG G c
  at_ : c.at_ = apH L (fun i => listed.getD i false) b (lk h0.l)
  U : ∀ i, c.U i ↔ i < h0.next ∨ ∃ q, q < L.length ∧ listed.getD (b + q) false = true ∧ i = h0.next + q
  fr : FR c (apF L (fun i => listed.getD i false) b fr0) a.tmps
  df : DF B c a.defers
  old : B ≤ c.w.heap.size
  ext : Ext c0 c
  fen : fence c rd = fence c0 rd
  rdU : ∀ l, rd = some l → c.U l
theorem Inv.full {listed : Array Bool} {b : Nat} {L : List Rec} {os2 : List AOper} {fr0 : List AV} {h0 : Hp} {c : Cx} {a : Act} {Q : List AV → Hp → Prop} (I : Inv P G B ops aops rd Q c0 listed b L os2 fr0 h0 c a) (hall : ∀ q, q < L.length → listed.getD (b + q) false = true) : St P G B c (finF L fr0) (finH L h0) a := by
  obtain ⟨h1, h2, h3⟩ := fin_all L fr0 h0 b (fun i => listed.getD i false) hall
  refine ⟨I.rel, I.glo, ⟨by rw [I.at_, h2], fun i => ?_⟩, by rw [h1]; exact I.fr, I.df, I.old⟩
  rw [I.U, h3]
  constructor
  · rintro (h | ⟨q, hq, _, rfl⟩) <;> omega
  · intro h
    rcases Nat.lt_or_ge i h0.next with h4 | h4
    · exact .inl h4
    · exact .inr ⟨i - h0.next, by omega, hall _ (by omega), by omega⟩
theorem closed_set {listed : Array Bool} {i : Nat} {o : Oper} (hi : i < listed.size) (hc : Closed ops listed) (ho : ops[i]? = some o) (hp : ∀ p ∈ preds o, listed.getD p false = true) : Closed ops (listed.setIfInBounds i true) := fun j oj hj hl p hpj => by
  rw [getD_listed hi] at hl ⊢
  simp only [Bool.or_eq_true, beq_iff_eq] at hl
  rcases hl with hl | rfl
  · rw [hc j oj hj hl p hpj]; rfl
  · rw [ho] at hj; cases hj; rw [hp p hpj]; rfl
theorem fence_ext {c c' : Cx} (e : Ext c c') (hU : ∀ l, rd = some l → c.U l) : fence c' rd = fence c rd := by
  cases rd with
  | none => rfl
  | some l => simp only [fence]; rw [e.mu l (hU l rfl)]
theorem guardD_cases {o : AOper} {fr : List AV} {A B : Prop} (h : guardD o fr A B) : (∃ ran, ranOk o fr ran ∧ (ran = true → A) ∧ (ran = false → B)) := by
  unfold guardD at h
  unfold ranOk
  split at h
  · rename_i hg; exact ⟨true, rfl, fun _ => h, fun h => (by cases h)⟩
  · rename_i t b hg
    obtain ⟨p, hp, h1, h2⟩ := h
    exact ⟨p == some b, ⟨p, hp, rfl⟩, fun h => h1 (by simpa using h), fun h => h2 (by simpa using h)⟩
theorem wanted_ran {o : Oper} {ao : AOper} {c : Cx} {fr fr' : List AV} {a : Act} {ran : Bool} (hao : coper P ops o = some ao) (hF : FR c fr' a.tmps) (hs : ∀ n ∈ gslot ao, fr'[n]? = fr[n]?) (hr : ranOk ao fr ran) : Region.wanted o (yielded ops a.tmps) = ran := by
  obtain ⟨_, _, hg⟩ := coper_spec hao
  unfold ranOk at hr
  rcases hg with ⟨hg1, hg2⟩ | ⟨j, b, t, hg1, hg2, hj⟩
  · rw [hg2] at hr; rw [hr]; exact wanted_none hg1
  · rw [hg2] at hr
    obtain ⟨p, hp, rfl⟩ := hr
    exact wanted_some hg1 hj hF (by rw [hs t (by simp [gslot, hg2])]; exact hp)
/-- **A region that draws its order.** -/
theorem draw_inv (haops : coops P ops = some aops) (hord : ordOk (ops.toList.map preds) 0 = true) : ∀ (fuel : Nat) (listed : Array Bool) (b : Nat) (L : List Rec) (os2 : List AOper) (fr0 : List AV) (h0 : Hp) (c : Cx) (a : Act), Inv P G B ops aops rd (Q .normal) c0 listed b L os2 fr0 h0 c a → listedN listed + fuel = ops.size →
    wpAnyIn (fence c0 rd) n' P .any ops (Post P G B c0 Q) fuel listed a c.w := by
  have hm := mapM_some haops
  have hlenA : aops.length = ops.size := by simpa using hm.1
  have hat : ∀ (j : Nat) y, aops[j]? = some y → ∃ o, ops[j]? = some o ∧ coper P ops o = some y := fun j y hy => by
    obtain ⟨x, hx, hxy⟩ := hm.2 j y hy
    exact ⟨x, by simpa using hx, hxy⟩
  -- all has been done
  have done : ∀ (listed : Array Bool) (b : Nat) (L : List Rec) (os2 : List AOper) (fr0 : List AV) (h0 : Hp) (c : Cx) (a : Act), Inv P G B ops aops rd (Q .normal) c0 listed b L os2 fr0 h0 c a → (∀ i, i < ops.size → listed.getD i false = true) → Post P G B c0 Q .normal a c.w := fun listed b L os2 fr0 h0 c a I hall => by
    obtain ⟨A1, hA1, hsp⟩ := I.split
    have hlen : b + L.length + os2.length = ops.size := by rw [← hlenA, hsp]; simp; omega
    cases os2 with
    | nil =>
      refine ⟨c, _, _, rfl, I.tail, I.full fun q hq => hall _ (by simp at hlen; omega), I.ext⟩
    | cons o os2 =>
      simp at hlen
      have h1 := hall (b + L.length) (by omega)
      rw [I.above _ (Nat.le_refl _)] at h1
      cases h1
  -- nothing is ready: all has been done
  have none_ready : ∀ (listed : Array Bool), listed.size = ops.size → Region.ready .any ops listed = [] → ∀ i, i < ops.size → listed.getD i false = true := fun listed hsz hr => by
    intro i
    induction i using Nat.strongRecOn with
    | _ i ih =>
      intro hi
      cases hl : listed.getD i false with
      | true => rfl
      | false =>
        exfalso
        have : i ∈ Region.ready .any ops listed := mem_ready.2 ⟨by simp [hsz, hi] at hl ⊢; exact hl, ops[i], by simp [hi], fun e he hb => by
          have hp := mem_preds he hb
          have hlt := ordOk_spec hord i (preds ops[i]) (by simp [hi]) _ hp
          exact ih e.on (by omega) (by omega)⟩
        rw [hr] at this; cases this
  intro fuel
  induction fuel with
  | zero =>
    intro listed b L os2 fr0 h0 c a I hcount
    have hall : ∀ i, i < ops.size → listed.getD i false = true := fun i hi => listedN_all (by rw [I.size]; omega) i (by rw [I.size]; exact hi)
    refine ⟨?_, done listed b L os2 fr0 h0 c a I hall⟩
    cases hr : Region.ready .any ops listed with
    | nil => rfl
    | cons i r =>
      exfalso
      have hmem : i ∈ Region.ready .any ops listed := by rw [hr]; simp
      obtain ⟨h1, o, ho, _⟩ := mem_ready.1 hmem
      have hi : i < ops.size := (Array.getElem?_eq_some_iff.1 ho).1
      have := hall i hi
      simp [I.size, hi] at h1 this
      rw [this] at h1; cases h1
  | succ fuel ih =>
    intro listed b L os2 fr0 h0 c a I hcount
    refine ⟨fun hr => done listed b L os2 fr0 h0 c a I (none_ready listed I.size hr), fun i hi => ?_⟩
    obtain ⟨hun, o, ho, hpre⟩ := mem_ready.1 hi
    have hilt : i < ops.size := (Array.getElem?_eq_some_iff.1 ho).1
    have hil : i < listed.size := by rw [I.size]; exact hilt
    have hun' : listed.getD i false = false := by simp [hil] at hun ⊢; exact hun
    have hpre' : ∀ p ∈ preds o, listed.getD p false = true := fun p hp => by
      obtain ⟨e, he, hb, rfl⟩ := preds_mem hp; exact hpre e he hb
    have hcount' : listedN (listed.setIfInBounds i true) + fuel = ops.size := by rw [listedN_set hil hun']; omega
    have hclosed := closed_set hil I.closed ho hpre'
    have hanc : ∀ p, p ∈ (ancs (ops.toList.map preds)).getD i [] → listed.getD p false = true := fun p hp => anc_listed I.closed i p hp fun o' ho' => by rw [ho] at ho'; cases ho'; exact hpre'
    have hanc' : ∀ j, listed.getD j false = true → i ∉ (ancs (ops.toList.map preds)).getD j [] := fun j hj hij => by
      have := anc_listed I.closed j i hij fun o' ho' => I.closed j o' ho' hj
      rw [hun'] at this; cases this
    obtain ⟨A1, hA1, hsp⟩ := I.split
    have hlen : b + L.length + os2.length = ops.size := by rw [← hlenA, hsp]; simp; omega
    have hbi : b ≤ i := by
      rcases Nat.lt_or_ge i b with h | h
      · rw [I.below i h hilt] at hun'; cases hun'
      · exact h
    unfold wpOpIn
    simp only [ho]
    rcases Nat.lt_or_ge i (b + L.length) with hin | hout
    · -- an operation of this stretch
      obtain ⟨q, rfl⟩ : ∃ q, i = b + q := ⟨i - b, by omega⟩
      have hq : q < L.length := by omega
      obtain ⟨r, hr⟩ : ∃ r, L[q]? = some r := ⟨L[q], List.getElem?_eq_getElem hq⟩
      obtain ⟨fr', h', ⟨hran, hstep, hskip⟩, hfr', hh', hnext⟩ := tr_at L fr0 h0 b q r I.tr hr
      have hao : coper P ops o = some r.o := by
        have h1 : aops[b + q]? = some r.o := by
          rw [hsp, List.getElem?_append_right (by omega), hA1, show b + q - b = q by omega, List.getElem?_append_left (by simp; exact hq)]
          simp [hr]
        obtain ⟨o', ho', hco⟩ := hat _ _ h1
        rw [ho] at ho'; cases ho'; exact hco
      obtain ⟨hc, hd, _⟩ := coper_spec hao
      have hent : (L.map Rec.ent)[q]? = some r.ent := by simp [hr]
      -- those that were done before it, and those that were not
      have order : ∀ (p : Nat) r', L[p]? = some r' → (clash r'.ent r.ent = true ∨ clash r.ent r'.ent = true) → (p < q → clash r'.ent r.ent = true) → (q < p → clash r.ent r'.ent = true) → p ≠ q → listed.getD (b + p) false = decide (b + p < b + q) := fun p r' hp _ h1 h2 hne => by
        have hp' : (L.map Rec.ent)[p]? = some r'.ent := by simp [hp]
        rcases Nat.lt_or_ge p q with hlt | hge
        · rcases chk_spec I.chk p q _ _ hlt hp' hent with h3 | h3
          · rw [hanc _ h3]; simp; omega
          · rw [h1 hlt] at h3; cases h3
        · have hlt : q < p := by omega
          rcases chk_spec I.chk q p _ _ hlt hent hp' with h3 | h3
          · cases hl : listed.getD (b + p) false with
            | true => exact absurd h3 (hanc' _ hl)
            | false => simp; omega
          · rw [h2 hlt] at h3; cases h3
      have meetsT : ∀ {x y : List Nat} {n : Nat}, n ∈ x → n ∈ y → meets x y = true := fun {x y n} h1 h2 => by simp only [meets, List.any_eq_true, List.contains_eq_mem, decide_eq_true_eq]; exact ⟨n, h1, h2⟩
      have slotsOk : ∀ n ∈ r.ent.sr, (apF L (fun i => listed.getD i false) b fr0)[n]? = fr'[n]? := fun n hn => by
        rw [hfr']
        refine apF_same L _ _ b fr0 fr0 rfl rfl fun p r' hp hnd => ?_
        by_cases e : p = q
        · subst e; rw [hun']; simp
        · have hw : n ∈ r'.ent.sw := hnd
          refine order p r' hp (.inl ?_) (fun _ => ?_) (fun _ => ?_) e
          · simp only [clash, meetsT hw hn, Bool.true_or]
          · simp only [clash, meetsT hw hn, Bool.true_or]
          · simp only [clash, meetsT hw hn, Bool.or_true, Bool.true_or]
      have atOk : ∀ k ∈ r.rd, c.at_ k = lk h'.l k := fun k hk => by
        rw [I.at_, hh']
        refine apH_same L _ _ b _ _ rfl fun p r' hp hnd => ?_
        by_cases e : p = q
        · subst e; rw [hun']; simp
        · have hw : k ∈ r'.ent.wr := hnd
          have hk' : k ∈ r.ent.rd := hk
          refine order p r' hp (.inl ?_) (fun _ => ?_) (fun _ => ?_) e
          · simp only [clash, meetsT hw hk', Bool.true_or, Bool.or_true]
          · simp only [clash, meetsT hw hk', Bool.true_or, Bool.or_true]
          · simp only [clash, meetsT hw hk', Bool.or_true]
      have hfresh : ¬ c.U h'.next := by
        rw [I.U, hnext]
        rintro (h | ⟨q', hq', hl, he⟩)
        · omega
        · obtain rfl : q' = q := by omega
          rw [hun'] at hl; cases hl
      have later : ∀ (p : Nat) r', L[p]? = some r' → q < p → listed.getD (b + p) false = true → clash r.ent r'.ent = false := fun p r' hp hlt hl => by
        have hp' : (L.map Rec.ent)[p]? = some r'.ent := by simp [hp]
        rcases chk_spec I.chk q p _ _ hlt hent hp' with h3 | h3
        · exact absurd h3 (hanc' _ hl)
        · exact h3
      have nextInv : ∀ (c' : Cx) (a' : Act) (val : Value), RR c' r.v val → Rel P c' → Ext c c' → c'.at_ = upd c.at_ r.up → (∀ i, c'.U i ↔ c.U i ∨ i ∈ newOf r.up h'.next) → a'.tmps = (a.put o.dst val).tmps → a'.defers = a.defers →
          wpAnyIn (fence c0 rd) n' P .any ops (Post P G B c0 Q) fuel (listed.setIfInBounds (b + q) true) a' c'.w := fun c' a' val hx hR' he hat' hU' ht hdf => by
        have e2 : Ext c (c'.grow h'.next) := he.trans (ext_grow _)
        have hS : ∀ j, (listed.setIfInBounds (b + q) true).getD j false = adj (fun i => listed.getD i false) (b + q) j := fun j => getD_listed hil j
        have := ih (listed.setIfInBounds (b + q) true) b L os2 fr0 h0 (c'.grow h'.next) a' ?_ hcount'
        · exact this
        · refine ⟨by simpa using I.size, hclosed, fun j hj hjn => by rw [getD_listed hil, I.below j hj hjn]; rfl, fun j hj => ?_, ⟨A1, hA1, hsp⟩, I.tr, I.chk, I.tail, rel_grow _ hR', I.glo.ext e2, ?_, fun j => ?_, ?_, by rw [hdf]; exact I.df.ext e2, Nat.le_trans I.old e2.size, I.ext.trans e2, ?_, fun l hl => e2.used l (I.rdU l hl)⟩
          · rw [getD_listed hil, I.above j hj]; simp; omega
          · show c'.at_ = _
            rw [hat', I.at_, show (fun i => (listed.setIfInBounds (b + q) true).getD i false) = adj (fun i => listed.getD i false) (b + q) from funext hS]
            exact (apH_adj L _ b q _ hr hun' fun p r' hp hlt hl k hk hk' => by
              have h3 := later p r' hp hlt hl
              simp only [clash, Bool.or_eq_false_iff] at h3
              exact meets_false h3.1.2 hk hk').symm
          · show (c'.U j ∨ j = h'.next) ↔ _
            rw [hU', I.U]
            constructor
            · rintro ((h | h) | h)
              · rcases h with h | ⟨q', hq', hl, rfl⟩
                · exact .inl h
                · exact .inr ⟨q', hq', by rw [getD_listed hil, hl]; rfl, rfl⟩
              · unfold newOf at h
                split at h
                · simp at h; exact .inr ⟨q, hq, by rw [getD_listed hil]; simp, by omega⟩
                · simp at h
              · exact .inr ⟨q, hq, by rw [getD_listed hil]; simp, by omega⟩
            · rintro (h | ⟨q', hq', hl, rfl⟩)
              · exact .inl (.inl (.inl h))
              · rw [getD_listed hil] at hl
                simp only [Bool.or_eq_true, beq_iff_eq] at hl
                rcases hl with hl | hl
                · exact .inl (.inl (.inr ⟨q', hq', hl, rfl⟩))
                · exact .inr (by omega)
          · rw [ht, show (fun i => (listed.setIfInBounds (b + q) true).getD i false) = adj (fun i => listed.getD i false) (b + q) from funext hS]
            rw [apF_adj L (fun i => listed.getD i false) b q fr0 hr hun' fun p r' hp hlt hl n hn hn' => by
              have h3 := later p r' hp hlt hl
              simp only [clash, Bool.or_eq_false_iff] at h3
              exact meets_false h3.1.1.1.1.2 hn hn']
            rw [← hd]
            exact (I.fr.ext e2).put r.o.dst (hx.ext (ext_grow _))
          · rw [← I.fen]
            exact fence_ext e2 I.rdU
      rw [wanted_ran hao I.fr (fun n hn => slotsOk n (by simp [Rec.ent, entOf, hn])) hran]
      cases hrb : r.ran with
      | true =>
        simp only [if_true]
        rw [← I.fen]
        refine stepD_sound hc I.fr I.glo I.rel hfresh (fun n hn => slotsOk n (by simp [Rec.ent, entOf, hrb, hn])) atOk (hstep hrb) fun val c' hx hR' he hat' hU' => ?_
        rw [I.fen]
        exact nextInv c' _ val hx hR' he hat' hU' rfl (put_defers _ _ _)
      | false =>
        simp only [Bool.false_eq_true, if_false]
        obtain ⟨hv, hup, hrd⟩ := hskip hrb
        refine ⟨by rw [← I.fen]; exact about_ok c rd o _ _, ?_⟩
        exact nextInv c _ undef (by rw [hv]; exact RR_skip) I.rel (Ext.refl c) (by rw [hup]; rfl) (fun i => by rw [hup]; simp [newOf]) rfl (put_defers _ _ _)
    · cases os2 with
      | nil => simp at hlen; omega
      | cons o2 os2 =>
        obtain ⟨hpiv, htail⟩ := I.tail
        simp at hlen
        by_cases hie : i = b + L.length
        · -- the call that everything comes before, or behind
          subst hie
          have hall : ∀ q, q < L.length → listed.getD (b + q) false = true := fun q hq => by
            rcases pivot_spec hpiv (show b + q < ops.size by omega) (by omega) with h | h
            · exact hanc _ h
            · have := ancs_lt h; omega
          have hst := I.full hall
          have hao : coper P ops o = some o2 := by
            have h1 : aops[b + L.length]? = some o2 := by
              rw [hsp, List.getElem?_append_right (by omega), hA1, show b + L.length - b = L.length by omega, List.getElem?_append_right (by simp)]
              simp
            obtain ⟨o', ho', hco⟩ := hat _ _ h1
            rw [ho] at ho'; cases ho'; exact hco
          obtain ⟨hc, hd, _⟩ := coper_spec hao
          have hbelow : ∀ j, j < b + L.length + 1 → j < ops.size → (listed.setIfInBounds (b + L.length) true).getD j false = true := fun j hj hjn => by
            rw [getD_listed hil]
            rcases Nat.lt_or_ge j b with h | h
            · rw [I.below j h hjn]; rfl
            · rcases Nat.lt_or_ge j (b + L.length) with h2 | h2
              · have := hall (j - b) (by omega)
                rw [show b + (j - b) = j by omega] at this
                rw [this]; rfl
              · have : j = b + L.length := by omega
                simp [this]
          have habove : ∀ j, b + L.length + 1 ≤ j → (listed.setIfInBounds (b + L.length) true).getD j false = false := fun j hj => by
            rw [getD_listed hil, I.above j (by omega)]; simp; omega
          have nextInv : ∀ (c' : Cx) (a' : Act) (fr1 : List AV) (h1 : Hp), runD P G (ancs (ops.toList.map preds)) ops.size os2 (b + L.length + 1) (b + L.length + 1) [] (Q .normal) fr1 h1 → St P G B c' fr1 h1 a' → Ext c c' →
              wpAnyIn (fence c0 rd) n' P .any ops (Post P G B c0 Q) fuel (listed.setIfInBounds (b + L.length) true) a' c'.w := fun c' a' fr1 h1 hrun hs' he => by
            obtain ⟨L', os3, k1, k2, k3, k4⟩ := runD_trace os2 _ _ _ _ _ hrun
            refine ih (listed.setIfInBounds (b + L.length) true) (b + L.length + 1) L' os3 fr1 h1 c' a' ?_ hcount'
            refine ⟨by simpa using I.size, hclosed, hbelow, fun j hj => habove j (by omega), ⟨A1 ++ (L.map (·.o) ++ [o2]), by simp [hA1]; omega, by rw [hsp, k1]; simp⟩, k2, by simpa using k3, k4, hs'.rel, hs'.glo, ?_, fun j => ?_, ?_, hs'.df, hs'.old, I.ext.trans he, ?_, fun l hl => he.used l (I.rdU l hl)⟩
            · rw [apH_none L' _ _ _ fun i hi => habove i hi]; exact hs'.mat.at_
            · rw [hs'.mat.U]
              constructor
              · exact fun h => .inl h
              · rintro (h | ⟨q, _, hl, _⟩)
                · exact h
                · rw [habove _ (by omega)] at hl; cases hl
            · rw [apF_none L' _ _ _ fun i hi => habove i hi]; exact hs'.fr
            · rw [← I.fen]; exact fence_ext he I.rdU
          obtain ⟨ran, hran, h1, h2⟩ := guardD_cases htail
          rw [wanted_ran hao hst.fr (fun _ _ => rfl) hran]
          cases ran with
          | true =>
            simp only [if_true]
            rw [← I.fen]
            refine step_sound hc hst (h1 rfl) fun v val c' h' hK hx hr' hm' he' => ?_
            rw [I.fen, ← hd]
            exact nextInv c' _ _ _ hK (hst.step o2.dst hx hr' hm' he') he'
          | false =>
            simp only [Bool.false_eq_true, if_false]
            refine ⟨by rw [← I.fen]; exact about_ok c rd o _ _, ?_⟩
            rw [← hd]
            exact nextInv c _ _ _ (h2 rfl) (hst.step o2.dst (v := .tup []) (val := undef) RR_skip hst.rel hst.mat (Ext.refl c)) (Ext.refl c)
        · exfalso
          rcases pivot_spec hpiv hilt hie with h | h
          · have := ancs_lt h; omega
          · have := hanc _ h
            rw [I.above _ (Nat.le_refl _)] at this
            cases this
end
end Go.Am
