/-
  The abstract machine's code: what is asked ahead of it so that it comes to what is wanted. No program in sight.
-/
import Derived.Test.YtggkpagngnnjjaaAmDrawC
set_option linter.unusedSimpArgs false
set_option linter.unusedVariables false
namespace Go.Am
/-- The names, cut down to those of a store that is written out; each is an old one, by another name. -/
def Cx.ren (c : Cx) (σ : Nat → Nat) (h : Hp) : Cx := { U := fun i => i < h.next, at_ := lk h.l, mu := fun i => c.mu (σ i), w := c.w, hid := c.hid }
/-- The first names stay. -/
def Keeps (N : Nat) (σ : Nat → Nat) : Prop := ∀ i, i < N → σ i = i
/-- Slots are forgotten, names given up or changed, slices that nothing writes any more become values. -/
def Weak (P : Program) (σ : Nat → Nat) (fr : List AV) (h : Hp) (fr' : List AV) (h' : Hp) : Prop :=
  ∀ (c : Cx) (tmps : Array Value), Rel P c → Mat c h → FR c fr tmps → Rel P (c.ren σ h') ∧ FR (c.ren σ h') fr' tmps ∧ ∀ i o, lk h'.l i = some o → ∃ o', lk h.l (σ i) = some o'
theorem ext_ren {c0 c : Cx} {σ : Nat → Nat} {h h' : Hp} (e : Ext c0 c) (hm : Mat c h) (hs : ∀ i o, lk h'.l i = some o → ∃ o', lk h.l (σ i) = some o') (hn : ∀ i, c0.U i → i < h'.next) (hσ : ∀ i, c0.U i → σ i = i) : Ext c0 (c.ren σ h') :=
  ⟨hn, fun i hi => by show c.mu (σ i) = _; rw [hσ i hi]; exact e.mu i hi, e.csz, fun b hb => ⟨⟨(e.froz b hb).1.1, fun i o hi => by
      obtain ⟨o', ho'⟩ := hs i o hi
      exact (e.froz b hb).1.2 (σ i) o' (by rw [hm.at_]; exact ho'), (e.froz b hb).1.3⟩, (e.froz b hb).2⟩, e.size, e.hid, e.hidh, e.env⟩
def thenQ (w : List AV → Hp → Prop) (Q : Exit → List AV → Hp → Prop) : Exit → List AV → Hp → Prop
  | .normal => w
  | e => Q e
def blockQ (id : Nat) (Q : Exit → List AV → Hp → Prop) : Exit → List AV → Hp → Prop
  | .exit j => if j = id then Q .normal else Q (.exit j)
  | e => Q e
def loopQ (P : Program) (I : List AV → Hp → Prop) (m : List AV → Hp → Nat) (N M : Nat) (Q : Exit → List AV → Hp → Prop) : Exit → List AV → Hp → Prop
  | .normal => fun fr h => ∃ σ fr' h', Weak P σ fr h fr' h' ∧ Keeps N σ ∧ N ≤ h'.next ∧ I fr' h' ∧ m fr' h' < M
  | e => Q e
/-- Behind a range over a function: its record is not busy, and a jump that is pending is made. -/
def rangeQ (l : Nat) (fr : List AV) (Q : Exit → List AV → Hp → Prop) (h2 : Hp) : Prop :=
  ∃ st pend fr' ps as bd, lk h2.l l = some (.loop st pend fr' ps as bd) ∧ st ≠ .busy ∧
    match pend with
    | none => Q .normal fr ⟨put h2.l l (some (.loop .exhausted pend fr' ps as bd)), h2.next⟩
    | some (.exit id) => Q (.exit id) fr ⟨put h2.l l (some (.loop .exhausted pend fr' ps as bd)), h2.next⟩
    | some .ret => Q .ret fr ⟨put h2.l l (some (.loop .exhausted pend fr' ps as bd)), h2.next⟩
    | _ => False
def inLoop (h : Hp) : Option Nat → Prop
  | none => True
  | some l => ∃ st pend fr ps as bd, lk h.l l = some (.loop st pend fr ps as bd)
/-- A range over a function. -/
def RangeA (P : Program) (G : Gl) (rd : Option Nat) (f : AX) (ps : List Nat) (assign body : ACode) (Q : Exit → List AV → Hp → Prop) (fr : List AV) (h : Hp) : Prop :=
  ∃ g fs cs, ax G fr f = some (.fn g fs cs) ∧ fnOk P g = true ∧ inLoop h rd ∧ CallV P G (.fn g fs cs) [.yld h.next] ⟨put h.l h.next (some (.loop .ready none fr ps assign body)), h.next + 1⟩ fun _ h2 => rangeQ h.next fr Q h2
/-- What is asked ahead of a piece of code; names below N stay as they are. -/
def wpc (P : Program) (G : Gl) (rd : Option Nat) (N : Nat) : ACode → (Exit → List AV → Hp → Prop) → List AV → Hp → Prop
  | .skip, Q => Q .normal
  | .reg ops, Q => runS P G ops (Q .normal)
  | .regD ops pre, Q => fun fr h => ordOk pre 0 = true ∧ runD P G (ancs pre) pre.length ops 0 0 [] (Q .normal) fr h
  | .seq a b, Q => wpc P G rd N a (thenQ (wpc P G rd N b Q) Q)
  | .cond c a b, Q => fun fr h => ∃ t, ax G fr c = some (.bool t) ∧ (t = true → wpc P G rd N a Q fr h) ∧ (t = false → wpc P G rd N b Q fr h)
  | .block id c, Q => wpc P G rd N c (blockQ id Q)
  | .loop c, Q => fun fr h => ∃ (I : List AV → Hp → Prop) (m : List AV → Hp → Nat), (∃ σ fr0 h0, Weak P σ fr h fr0 h0 ∧ Keeps N σ ∧ N ≤ h0.next ∧ I fr0 h0) ∧ ∀ fr1 h1, I fr1 h1 → wpc P G rd N c (loopQ P I m N (m fr1 h1) Q) fr1 h1
  | .rangeF f ps a b, Q => RangeA P G rd f ps a b Q
  | .exit id, Q => Q (.exit id)
  | .ret, Q => Q .ret

section
variable {P : Program} {G : Gl}
theorem least {p : Nat → Prop} : (∃ k, p k) → ∃ k, p k ∧ ∀ j, p j → k ≤ j := by
  rintro ⟨k, hk⟩
  induction k using Nat.strongRecOn with
  | _ k ih =>
    by_cases h : ∃ j, j < k ∧ p j
    · obtain ⟨j, hj, hp⟩ := h; exact ih j hj hp
    · exact ⟨k, hk, fun j hj => by
        rcases Nat.lt_or_ge j k with h2 | h2
        · exact absurd ⟨j, h2, hj⟩ h
        · exact h2⟩
open Classical in
/-- A loop whose state is known only up to a name. -/
theorem wpIn_loop_rel {ι : Type} {F : Fence} {n : Nat} {c : Code} {Q : Exit → Act → World → Prop} {a : Act} {w : World} (I : ι → Act → World → Prop) (m : ι → Nat) (i0 : ι) (h0 : I i0 a w)
    (round : ∀ i a w, I i a w → c.wpIn F n P (Exit.then (fun a' w' => ∃ j, I j a' w' ∧ m j < m i) Q) a w) : (Code.loop c).wpIn F n P Q a w := by
  have hl : ∀ a w, (∃ i, I i a w) → ∃ k, (∃ i, I i a w ∧ m i = k) ∧ ∀ j, (∃ i, I i a w ∧ m i = j) → k ≤ j := fun a w ⟨i, hi⟩ => least ⟨m i, i, hi, rfl⟩
  let mu : Act → World → Nat := fun a w => if h : ∃ i, I i a w then Classical.choose (hl a w h) else 0
  have hmu : ∀ a w (h : ∃ i, I i a w), (∃ i, I i a w ∧ m i = mu a w) ∧ ∀ i, I i a w → mu a w ≤ m i := fun a w h => by
    have := Classical.choose_spec (hl a w h)
    simp only [mu, dif_pos h]
    exact ⟨this.1, fun i hi => this.2 _ ⟨i, hi, rfl⟩⟩
  refine wpIn_loop (fun a w => ∃ i, I i a w) mu ⟨i0, h0⟩ fun a w h => ?_
  obtain ⟨⟨i, hi, hmi⟩, _⟩ := hmu a w h
  refine wpIn_mono (round i a w hi) fun e a' w' hq => ?_
  cases e <;> simp only [Exit.then] at hq ⊢ <;> try exact hq
  obtain ⟨j, hj, hlt⟩ := hq
  exact ⟨⟨j, hj⟩, by have := (hmu a' w' ⟨j, hj⟩).2 j hj; omega⟩
/-- What is asked of the model's code: whatever it begins with, it leaves as is wanted. -/
def WP (P : Program) (G : Gl) (rd : Option Nat) (N : Nat) (c : Code) (Q : Exit → List AV → Hp → Prop) (fr : List AV) (h : Hp) : Prop :=
  ∀ (B : Nat) (c0 cx : Cx) (a : Act) (n : Nat), St P G B cx fr h a → Ext c0 cx → fence cx rd = fence c0 rd → (∀ l, rd = some l → c0.U l) → RelG G c0 → (∀ i, c0.U i → i < N) → c.wpIn (fence c0 rd) n P (Post P G B c0 Q) a cx.w
theorem reg_sound {id : Nat} {ops : Array Oper} {aops : List AOper} {rd : Option Nat} {N : Nat} {Q : Exit → List AV → Hp → Prop} {fr : List AV} {h : Hp} (hm : coops P ops = some aops) (hr : runS P G aops (Q .normal) fr h) : WP P G rd N (.region id ops false) Q fr h := by
  intro B c0 cx a n hs he hf hU _ _
  refine wpIn_region ?_
  have := runS_sound (n := n) (rd := rd) (c0 := c0) ops.toList aops 0 (fun j => by simp) hm hs he hf (fun l hl => he.used l (hU l hl)) hr
  rw [List.range_eq_range', ← Array.length_toList]
  exact this
theorem regD_sound {id : Nat} {ops : Array Oper} {aops : List AOper} {rd : Option Nat} {N : Nat} {Q : Exit → List AV → Hp → Prop} {fr : List AV} {h : Hp} (hmix : P.follows .mixedOrders = true) (hm : coops P ops = some aops) (hord : ordOk (ops.toList.map preds) 0 = true)
    (hr : runD P G (ancs (ops.toList.map preds)) (ops.toList.map preds).length aops 0 0 [] (Q .normal) fr h) : WP P G rd N (.region id ops true) Q fr h := by
  intro B c0 cx a n hs he hf hU _ _
  refine wpIn_region_any hmix ?_
  have e1 : Ext cx (cx.wd { cx.w with drawn := cx.w.drawn + 1 }) := ext_wd rfl ⟨rfl, rfl, rfl⟩
  obtain ⟨L, os2, k1, k2, k3, k4⟩ := runD_trace aops 0 0 [] fr h hr
  have hsz : (ops.toList.map preds).length = ops.size := by simp
  rw [hsz] at k4
  have hl0 : ∀ i, (Array.replicate ops.size false).getD i false = false := fun i => by
    simp only [Array.getD_eq_getD_getElem?, Array.getElem?_replicate]
    split <;> rfl
  refine draw_inv (rd := rd) (aops := aops) (c := cx.wd { cx.w with drawn := cx.w.drawn + 1 }) hm hord ops.size (Array.replicate ops.size false) 0 L os2 fr h a ?_ ?_
  · refine ⟨by simp, fun j o ho hl => (by rw [hl0] at hl; cases hl), fun i hi => (by omega), fun i _ => hl0 i, ⟨[], rfl, by simpa using k1⟩, k2, by simpa using k3, k4, rel_wd rfl ⟨rfl, rfl, rfl⟩ hs.rel, hs.glo.ext e1, ?_, fun i => ?_, ?_, hs.df.ext e1, hs.old, he.trans e1, ?_, fun l hl => he.used l (hU l hl)⟩
    · rw [apH_none L _ _ _ fun i _ => hl0 i]; exact hs.mat.at_
    · show cx.U i ↔ _
      rw [hs.mat.U]
      constructor
      · exact fun h => .inl h
      · rintro (h | ⟨q, _, hl, _⟩)
        · exact h
        · rw [hl0] at hl; cases hl
    · rw [apF_none L _ _ _ fun i _ => hl0 i]; exact hs.fr.ext e1
    · exact hf
  · simp [listedN, List.count_replicate]
end
end Go.Am
