/-
  Loops, told of by a family of states. No program in sight.
-/
import Derived.Test.YtnddcnnangjgeaaAmFive
set_option linter.unusedSimpArgs false
set_option linter.unusedVariables false
namespace Go.Am
def rn : List (Nat × Nat) → Nat → Nat
  | [], i => i
  | (a, b) :: r, i => if i = a then b else rn r i
def keepsB (N : Nat) (l : List (Nat × Nat)) : Bool := l.all fun p => decide (N ≤ p.1)
theorem keeps_rn {N : Nat} : ∀ {l : List (Nat × Nat)}, keepsB N l = true → Keeps N (rn l)
  | [], _, i, _ => rfl
  | (a, b) :: r, h, i, hi => by
    simp only [keepsB, List.all_cons, Bool.and_eq_true, decide_eq_true_eq] at h
    simp only [rn]
    rw [if_neg (by have := h.1; omega)]
    exact keeps_rn (l := r) h.2 i hi
def nodB : List Nat → Bool
  | [] => true
  | x :: r => !(r.contains x) && nodB r
theorem lk_mem : ∀ {l : List (Nat × AObj)} {i : Nat} {o : AObj}, lk l i = some o → ∃ p ∈ l, p.1 = i
  | (j, o') :: r, i, o, h => by
    simp only [lk] at h
    split at h
    · rename_i e; exact ⟨_, List.mem_cons_self .., e.symm⟩
    · obtain ⟨p, hp, e⟩ := lk_mem h; exact ⟨p, List.mem_cons_of_mem _ hp, e⟩
theorem oneOf_of {σ : Nat → Nat} : ∀ {l : List (Nat × AObj)}, nodB (l.map fun p => σ p.1) = true → OneOf σ l
  | [], _, i, j, o, o', hi, _, _ => by cases hi
  | (a, x) :: r, h, i, j, o, o', hi, hj, e => by
    simp only [List.map_cons, nodB, Bool.and_eq_true, Bool.not_eq_true', List.contains_eq_mem, decide_eq_false_iff_not] at h
    have key : ∀ {k : Nat} {q : AObj}, lk r k = some q → σ k ≠ σ a := fun {k q} hk e => h.1 (by
      obtain ⟨p, hp, e2⟩ := lk_mem hk
      exact List.mem_map.2 ⟨p, hp, by rw [e2, e]⟩)
    simp only [lk] at hi hj
    split at hi
    · rename_i e1
      split at hj
      · rename_i e2; rw [e1, e2]
      · exact absurd e.symm (e1 ▸ key hj)
    · split at hj
      · rename_i e2; exact absurd e (e2 ▸ key hi)
      · exact oneOf_of h.2 i j o o' hi hj e
def subB (σ : Nat → Nat) (l : List (Nat × AObj)) (l' : List (Nat × AObj)) : Bool := l'.all fun p => (lk l (σ p.1)).isSome
theorem subH_of {σ : Nat → Nat} {h h' : Hp} (hb : subB σ h.l h'.l = true) : SubH σ h h' := fun i o hi => by
  obtain ⟨p, hp, rfl⟩ := lk_mem hi
  simp only [subB, List.all_eq_true] at hb
  exact Option.isSome_iff_exists.1 (hb p hp)
theorem subH_nil {σ : Nat → Nat} {h : Hp} {n : Nat} : SubH σ h ⟨[], n⟩ := fun _ _ h => by cases h
section
variable {P : Program} {G : Gl}
theorem callV_mono {fv : AV} {avs : List AV} {h : Hp} {K K' : AV → Hp → Prop} (hk : ∀ v h', K v h' → K' v h') (hc : CallV P G fv avs h K) : CallV P G fv avs h K' := by
  intro c u vs hR hG hm hu ha
  obtain ⟨next, w1, h1, h2⟩ := hc c u vs hR hG hm hu ha
  have he : ∀ v w', Ends P c K v w' → Ends P c K' v w' := fun v w' ⟨r, h', c', e1, e2, e3⟩ => ⟨r, h', c', e1, hk _ _ e2, e3⟩
  refine ⟨next, w1, h1, ?_⟩
  cases next <;> simp only [UponA] at h2 ⊢ <;> try exact h2
  all_goals first
    | exact he _ _ h2
    | exact Calls.mono h2 fun e w' ⟨v, e1, e2⟩ => ⟨v, e1, he _ _ e2⟩
    | exact fun n => RoundIn.mono (h2 n) fun e w' ⟨v, e1, e2⟩ => ⟨v, e1, he _ _ e2⟩
theorem stepA_mono {o : AOp} {fr : List AV} {h : Hp} {K K' : AV → Hp → Prop} (hk : ∀ v h', K v h' → K' v h') (hs : stepA P G o fr h K) : stepA P G o fr h K' := by
  cases o
  case call f xs => obtain ⟨fv, avs, h1, h2, h3⟩ := hs; exact ⟨fv, avs, h1, h2, callV_mono hk h3⟩
  all_goals
    obtain ⟨v, up, r, h1, h2⟩ := hs
    exact ⟨v, up, r, h1, hk _ _ h2⟩
theorem runS_mono {Q Q' : List AV → Hp → Prop} (hq : ∀ fr h, Q fr h → Q' fr h) : ∀ (os : List AOper) (fr : List AV) (h : Hp), runS P G os Q fr h → runS P G os Q' fr h
  | [], fr, h, hr => hq fr h hr
  | o :: os, fr, h, hr => by
    simp only [runS] at hr ⊢
    split at hr
    · exact stepA_mono (fun v h' => runS_mono hq os _ _) hr
    · obtain ⟨p, h1, h2, h3⟩ := hr
      exact ⟨p, h1, fun e => stepA_mono (fun v h' => runS_mono hq os _ _) (h2 e), fun e => runS_mono hq os _ _ (h3 e)⟩
theorem guardD_mono {o : AOper} {fr : List AV} {A A' B B' : Prop} (ha : A → A') (hb : B → B') (hg : guardD o fr A B) : guardD o fr A' B' := by
  unfold guardD at hg ⊢
  split at hg
  · exact ha hg
  · obtain ⟨p, h1, h2, h3⟩ := hg; exact ⟨p, h1, fun e => ha (h2 e), fun e => hb (h3 e)⟩
theorem runD_mono {anc : List (List Nat)} {n : Nat} {Q Q' : List AV → Hp → Prop} (hq : ∀ fr h, Q fr h → Q' fr h) : ∀ (os : List AOper) (k b : Nat) (log : List Ent) (fr : List AV) (h : Hp), runD P G anc n os k b log Q fr h → runD P G anc n os k b log Q' fr h
  | [], k, b, log, fr, h, hr => ⟨hr.1, hq fr h hr.2⟩
  | o :: os, k, b, log, fr, h, hr => by
    simp only [runD] at hr ⊢
    split
    · rename_i hp
      rw [if_pos hp] at hr
      exact ⟨hr.1, guardD_mono (stepA_mono fun v h' => runD_mono hq os _ _ _ _ _) (runD_mono hq os _ _ _ _ _) hr.2⟩
    · rename_i hp
      rw [if_neg hp] at hr
      exact guardD_mono (fun ⟨v, up, rd, h1, h2⟩ => ⟨v, up, rd, h1, runD_mono hq os _ _ _ _ _ h2⟩) (runD_mono hq os _ _ _ _ _) hr
theorem wpc_mono {rd : Option Nat} {N : Nat} : ∀ {c : ACode} {Q Q' : Exit → List AV → Hp → Prop} {fr : List AV} {h : Hp}, (∀ e fr h, Q e fr h → Q' e fr h) → wpc P G rd N c Q fr h → wpc P G rd N c Q' fr h := by
  intro c
  induction c with
  | skip => exact fun hq h => hq _ _ _ h
  | reg ops => exact fun hq h => runS_mono (fun fr h => hq _ fr h) ops _ _ h
  | regD ops pre => exact fun hq h => ⟨h.1, runD_mono (fun fr h => hq _ fr h) ops _ _ _ _ _ h.2⟩
  | seq a b iha ihb =>
    intro Q Q' fr h hq hw
    refine iha (fun e fr h => ?_) hw
    cases e <;> first | exact fun h => hq _ _ _ h | exact fun h => ihb hq h
  | cond c a b iha ihb =>
    intro Q Q' fr h hq hw
    obtain ⟨t, h1, h2, h3⟩ := hw
    exact ⟨t, h1, fun e => iha hq (h2 e), fun e => ihb hq (h3 e)⟩
  | block id c ih =>
    intro Q Q' fr h hq hw
    refine ih (fun e fr h => ?_) hw
    cases e <;> simp only [blockQ] <;> try exact fun h => hq _ _ _ h
    split <;> exact fun h => hq _ _ _ h
  | loop c ih =>
    intro Q Q' fr h hq hw
    obtain ⟨I, m, h1, h2⟩ := hw
    refine ⟨I, m, h1, fun fr1 h1 hI => ih (fun e fr h => ?_) (h2 fr1 h1 hI)⟩
    cases e <;> first | exact fun h => hq _ _ _ h | exact fun h => h
  | rangeF f ps a b iha ihb =>
    intro Q Q' fr h hq hw
    obtain ⟨g, fs, cs, h1, h2, h3, h4⟩ := hw
    refine ⟨g, fs, cs, h1, h2, h3, callV_mono (fun v h' hr => ?_) h4⟩
    obtain ⟨st, pend, fr', ps', as, bd, k1, k2, k3⟩ := hr
    refine ⟨st, pend, fr', ps', as, bd, k1, k2, ?_⟩
    revert k3
    split <;> first | exact fun h => hq _ _ _ h | exact fun h => h
  | exit id => exact fun hq h => hq _ _ _ h
  | ret => exact fun hq h => hq _ _ _ h
end
section
variable {P : Program} {G : Gl} {ι : Type}
def lpE (P : Program) (F : ι → List AV) (H : ι → Hp) (ok : ι → Prop) (m : ι → Nat) (N : Nat) (i : ι) (fr : List AV) (h : Hp) : Prop := ∃ j l, ok j ∧ m j < m i ∧ Keeps N (rn l) ∧ Weak P (rn l) fr h (F j) (H j)
def lpQ (P : Program) (F : ι → List AV) (H : ι → Hp) (ok : ι → Prop) (m : ι → Nat) (N : Nat) (i : ι) (Q : Exit → List AV → Hp → Prop) : Exit → List AV → Hp → Prop
  | .normal => lpE P F H ok m N i
  | e => Q e
/-- **A loop.** -/
theorem loop_ix {rd : Option Nat} {N : Nat} {c : ACode} {Q : Exit → List AV → Hp → Prop} {fr : List AV} {h : Hp} (F : ι → List AV) (H : ι → Hp) (ok : ι → Prop) (m : ι → Nat) (i0 : ι) (l : List (Nat × Nat)) (hk : keepsB N l = true) (hN : ∀ i, N ≤ (H i).next) (h0 : ok i0) (hw : Weak P (rn l) fr h (F i0) (H i0))
    (hr : ∀ i, ok i → wpc P G rd N c (lpQ P F H ok m N i Q) (F i) (H i)) : wpc P G rd N (.loop c) Q fr h := by
  classical
  -- the measure of a state: the least one of an index that tells of it
  have hl : ∀ fr1 h1, (∃ i, ok i ∧ fr1 = F i ∧ h1 = H i) → ∃ k, (∃ i, (ok i ∧ fr1 = F i ∧ h1 = H i) ∧ m i = k) ∧ ∀ j, (∃ i, (ok i ∧ fr1 = F i ∧ h1 = H i) ∧ m i = j) → k ≤ j := fun fr1 h1 ⟨i, hi⟩ => least ⟨m i, i, hi, rfl⟩
  let mu : List AV → Hp → Nat := fun fr1 h1 => if hh : ∃ i, ok i ∧ fr1 = F i ∧ h1 = H i then Classical.choose (hl fr1 h1 hh) else 0
  have hmu : ∀ fr1 h1 (hh : ∃ i, ok i ∧ fr1 = F i ∧ h1 = H i), (∃ i, (ok i ∧ fr1 = F i ∧ h1 = H i) ∧ m i = mu fr1 h1) ∧ ∀ i, (ok i ∧ fr1 = F i ∧ h1 = H i) → mu fr1 h1 ≤ m i := fun fr1 h1 hh => by
    have := Classical.choose_spec (hl fr1 h1 hh)
    simp only [mu, dif_pos hh]
    exact ⟨this.1, fun i hi => this.2 _ ⟨i, hi, rfl⟩⟩
  refine ⟨fun fr1 h1 => ∃ i, ok i ∧ fr1 = F i ∧ h1 = H i, mu, ⟨rn l, F i0, H i0, hw, keeps_rn hk, hN i0, i0, h0, rfl, rfl⟩, fun fr1 h1 hI => ?_⟩
  obtain ⟨⟨i, ⟨hok, rfl, rfl⟩, hmi⟩, _⟩ := hmu fr1 h1 hI
  have := hr i hok
  rw [show lpQ P F H ok m N i Q = lpQ P F H ok m N i Q from rfl] at this
  refine wpc_mono ?_ this
  intro e fr2 h2 hq
  cases e <;> try exact hq
  obtain ⟨j, l', hj, hlt, hk', hw'⟩ := hq
  exact ⟨rn l', F j, H j, hw', hk', hN j, ⟨j, hj, rfl, rfl⟩, by have := (hmu (F j) (H j) ⟨j, hj, rfl, rfl⟩).2 j ⟨hj, rfl, rfl⟩; omega⟩
end
end Go.Am
