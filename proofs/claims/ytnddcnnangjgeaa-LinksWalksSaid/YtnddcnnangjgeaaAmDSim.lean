/-
  Regions that draw their order and change something, step by step. No program in sight.
-/
import Derived.Test.YtnddcnnangjgeaaAmCall
set_option linter.unusedSimpArgs false
set_option linter.unusedVariables false
namespace Go.Am
section
variable {P : Program} {G : Gl} {rd : Option Nat} {N : Nat} {anc : List (List Nat)} {n k b : Nat} {log : List Ent} {Q : List AV → Hp → Prop} {fr : List AV} {h : Hp}
theorem regD_go {ops : List AOper} {pre : List (List Nat)} {Q : Exit → List AV → Hp → Prop} (hord : ordOk pre 0 = true) (hr : runD P G (ancs pre) pre.length ops 0 0 [] (Q .normal) fr h) : wpc P G rd N (.regD ops pre) Q fr h := ⟨hord, hr⟩
theorem chk_ok (hc : chk anc b log = true) : chk anc b log = true := hc
def goD (P : Program) (G : Gl) (anc : List (List Nat)) (n : Nat) (o : AOper) (os : List AOper) (k b : Nat) (log : List Ent) (Q : List AV → Hp → Prop) (fr : List AV) (h : Hp) : Option (AV × Up × List Nat) → Prop
  | some (v, up, r) => runD P G anc n os (k + 1) b (log ++ [entOf o true up r]) Q (setO fr o.dst v) (h.appD up)
  | none => False
theorem goD_iff {o : AOper} {os : List AOper} (hc : o.op.isCall = false) : (∃ v up r, StepD P G o.op fr (lk h.l) h.next v up r ∧ runD P G anc n os (k + 1) b (log ++ [entOf o true up r]) Q (setO fr o.dst v) (h.appD up)) ↔ goD P G anc n o os k b log Q fr h (evalA (ax G fr) (lk h.l) h.next o.op) := by
  have e : ∀ v up r, StepD P G o.op fr (lk h.l) h.next v up r ↔ evalA (ax G fr) (lk h.l) h.next o.op = some (v, up, r) := fun v up r => by
    revert hc
    cases o.op <;> intro hc <;> first | exact Iff.rfl | cases hc
  constructor
  · rintro ⟨v, up, r, h1, h2⟩
    rw [e] at h1
    rw [h1]; exact h2
  · intro h1
    unfold goD at h1
    split at h1
    · rename_i v up r e2; exact ⟨v, up, r, (e v up r).2 e2, h1⟩
    · exact h1.elim
theorem d_op {d : Option Nat} {o : AOp} {os : List AOper} (hc : o.isCall = false) : runD P G anc n (⟨d, o, none⟩ :: os) k b log Q fr h = goD P G anc n ⟨d, o, none⟩ os k b log Q fr h (evalA (ax G fr) (lk h.l) h.next o) := by
  apply propext
  show (if (o.isCall && pivot anc n k) = true then _ else _) ↔ _
  rw [if_neg (by simp [hc])]
  exact goD_iff (o := ⟨d, o, none⟩) hc
def goDG (P : Program) (G : Gl) (anc : List (List Nat)) (n : Nat) (o : AOper) (w : Bool) (os : List AOper) (k b : Nat) (log : List Ent) (Q : List AV → Hp → Prop) (fr : List AV) (h : Hp) (x : Option AV) : Prop :=
  guardM x w (goD P G anc n o os k b log Q fr h (evalA (ax G fr) (lk h.l) h.next o.op)) (runD P G anc n os (k + 1) b (log ++ [entOf o false [] []]) Q (setO fr o.dst (.tup [])) (h.appD []))
theorem d_opG {d : Option Nat} {o : AOp} {t : Nat} {w : Bool} {os : List AOper} (hc : o.isCall = false) : runD P G anc n (⟨d, o, some (t, w)⟩ :: os) k b log Q fr h = goDG P G anc n ⟨d, o, some (t, w)⟩ w os k b log Q fr h (fr[t]?) := by
  apply propext
  show (if (o.isCall && pivot anc n k) = true then _ else _) ↔ _
  rw [if_neg (by simp [hc])]
  exact guard_iff (goD_iff (o := ⟨d, o, some (t, w)⟩) hc)
theorem d_nil : runD P G anc n [] k b log Q fr h = (chk anc b log = true ∧ Q fr h) := rfl
theorem goD_some {o : AOper} {os : List AOper} {v : AV} {up : Up} {r : List Nat} : goD P G anc n o os k b log Q fr h (some (v, up, r)) = runD P G anc n os (k + 1) b (log ++ [entOf o true up r]) Q (setO fr o.dst v) (h.appD up) := rfl
theorem goD_ite {o : AOper} {os : List AOper} {c : Prop} [Decidable c] {x : Option (AV × Up × List Nat)} : goD P G anc n o os k b log Q fr h (if c then x else none) = (c ∧ goD P G anc n o os k b log Q fr h x) := by
  split <;> rename_i hc <;> simp [hc, goD]
theorem goD_iteN {o : AOper} {os : List AOper} {c : Prop} [Decidable c] {x : Option (AV × Up × List Nat)} : goD P G anc n o os k b log Q fr h (if c then none else x) = (¬ c ∧ goD P G anc n o os k b log Q fr h x) := by
  split <;> rename_i hc <;> simp [hc, goD]
theorem goDG_t {o : AOper} {w p : Bool} {os : List AOper} : goDG P G anc n o w os k b log Q fr h (some (.bool p)) = ((p = w → goD P G anc n o os k b log Q fr h (evalA (ax G fr) (lk h.l) h.next o.op)) ∧ (¬ p = w → runD P G anc n os (k + 1) b (log ++ [entOf o false [] []]) Q (setO fr o.dst (.tup [])) (h.appD []))) := rfl
theorem goDG_s {o : AOper} {w : Bool} {l : List AV} {os : List AOper} : goDG P G anc n o w os k b log Q fr h (some (.tup l)) = runD P G anc n os (k + 1) b (log ++ [entOf o false [] []]) Q (setO fr o.dst (.tup [])) (h.appD []) := rfl
/-- A call, where it stands among others: a pure one; or one that all come before or behind. -/
theorem dcall_pure {d : Option Nat} {f : AX} {xs : List AX} {os : List AOper} {g : Nat} {fs cs avs : List AV} {r : AV} (hnp : pivot anc n k = false) (hf : ax G fr f = some (.fn g fs cs)) (hx : valsV (ax G fr) xs = some avs) (hp : PureC P G g (fs ++ avs ++ cs) r)
    (hk : runD P G anc n os (k + 1) b (log ++ [entOf ⟨d, .call f xs, none⟩ true [] []]) Q (setO fr d r) (h.appD [])) : runD P G anc n (⟨d, .call f xs, none⟩ :: os) k b log Q fr h := by
  show (if (true && pivot anc n k) = true then _ else _)
  rw [if_neg (by simp [hnp])]
  exact ⟨r, [], [], ⟨g, fs, cs, avs, hf, hx, hp _ _⟩, hk⟩
def goDCall (P : Program) (G : Gl) (anc : List (List Nat)) (n : Nat) (d : Option Nat) (os : List AOper) (k : Nat) (Q : List AV → Hp → Prop) (fr : List AV) (h : Hp) (fv : AV) (avs : List AV) : Prop := CallV P G fv avs h fun v h' => runD P G anc n os (k + 1) (k + 1) [] Q (setO fr d v) h'
theorem dcall_pivot {d : Option Nat} {f : AX} {xs : List AX} {os : List AOper} {fv : AV} {avs : List AV} (hp : pivot anc n k = true) (hc : chk anc b log = true) (hf : ax G fr f = some fv) (hx : valsV (ax G fr) xs = some avs)
    (hk : goDCall P G anc n d os k Q fr h fv avs) : runD P G anc n (⟨d, .call f xs, none⟩ :: os) k b log Q fr h := by
  show (if (true && pivot anc n k) = true then _ else _)
  rw [if_pos (by simp [hp])]
  exact ⟨hc, fv, avs, hf, hx, hk⟩
theorem goDCall_pure {d : Option Nat} {os : List AOper} {g : Nat} {fs avs cs : List AV} {r : AV} (hp : PureC P G g (fs ++ avs ++ cs) r) (hk : runD P G anc n os (k + 1) (k + 1) [] Q (setO fr d r) h) : goDCall P G anc n d os k Q fr h (.fn g fs cs) avs := callV_fnU (hp _ _) hk
/-- In place, or in a new block: appending to a slice in such a region. -/
theorem goD_app2 {o : AOper} {os : List AOper} {id sz bytes i c m : Nat} {src cs : List AV} {r : List Nat} (hd : lk h.l i = some (.cells cs)) (hcs : cs.length = c * sz) (hm : 0 < m) (hb : (c + m) * bytes ≤ 140737488355328 ∧ c + m ≤ 1000000000000)
    (hk : runD P G anc n os (k + 1) b (log ++ [entOf o true [(i, none), (id, some (.cells (cs ++ src)))] (i :: r)]) Q (setO fr o.dst (.sl id 0 (c + m) (c + m) sz)) (h.appD [(i, none), (id, some (.cells (cs ++ src)))])) : goD P G anc n o os k b log Q fr h (app2 (lk h.l) id sz bytes (.sl i 0 c c sz) src m r) := by
  have hc : cellsAt (lk h.l) i = some cs := by simp only [cellsAt, hd]
  simp only [app2, hc]
  rw [if_pos ⟨trivial, by omega⟩, if_neg (by omega), if_pos hb, List.drop_zero, List.take_of_length_le (by omega)]
  exact hk
theorem goD_app_in {o : AOper} {os : List AOper} {id sz bytes i off len cp m : Nat} {src cs : List AV} {r : List Nat} (hd : lk h.l i = some (.cells cs)) (hfit : len + m ≤ cp) (hcs : off + (len + m) * sz ≤ cs.length)
    (hk : runD P G anc n os (k + 1) b (log ++ [entOf o true [(i, some (.cells (over cs (off + len * sz) src)))] (i :: r)]) Q (setO fr o.dst (.sl i off (len + m) cp sz)) (h.appD [(i, some (.cells (over cs (off + len * sz) src)))])) : goD P G anc n o os k b log Q fr h (app2 (lk h.l) id sz bytes (.sl i off len cp sz) src m r) := by
  have hc : cellsAt (lk h.l) i = some cs := by simp only [cellsAt, hd]
  have hle : off + len * sz ≤ cs.length := Nat.le_trans (Nat.add_le_add_left (Nat.mul_le_mul_right sz (Nat.le_add_right len m)) off) hcs
  simp only [app2, hc]
  rw [if_pos ⟨trivial, hle⟩, if_pos hfit, if_pos hcs]
  exact hk
end
theorem over_eq : ∀ (vs cs : List AV) (o : Nat), o + vs.length ≤ cs.length → over cs o vs = cs.take o ++ vs ++ cs.drop (o + vs.length)
  | [], cs, o, _ => by simp [over]
  | v :: vs, cs, o, h => by
    simp only [List.length_cons] at h
    rw [over, over_eq vs _ _ (by simp; omega)]
    rw [List.take_set, List.drop_set]
    have e1 : (cs.take (o + 1)).set o v = cs.take o ++ [v] := by
      apply List.ext_getElem?
      intro j
      rw [List.getElem?_set, List.getElem?_append]
      simp only [List.length_take, List.getElem?_take]
      by_cases hj : j = o
      · have hlt : o < cs.length := by omega
        have hm : min o cs.length = o := by omega
        have hm2 : o < min (o + 1) cs.length := by omega
        simp [hj, hm, hm2]
      · by_cases hj2 : j < o
        · rw [if_neg (by omega), if_pos (by omega), if_pos (by omega), if_pos (by omega)]
        · rw [if_neg (by omega), if_neg (by omega), if_neg (by omega)]
          rw [List.getElem?_eq_none (by simp; omega)]
    rw [e1]
    simp only [List.length_cons, List.append_assoc, List.cons_append, List.nil_append]
    rw [if_pos (by omega), show o + 1 + vs.length = o + (vs.length + 1) by omega]
theorem flat_take {α : Type} {f : α → List AV} {sz : Nat} (hf : ∀ x, (f x).length = sz) : ∀ (l : List α) (k : Nat), (flat f l).take (k * sz) = flat f (l.take k)
  | [], k => by simp [flat]
  | c :: l, 0 => by simp [flat]
  | c :: l, k + 1 => by
    have := flat_take hf l k
    simp only [flat, List.map_cons, List.flatten_cons, List.take_succ_cons] at this ⊢
    rw [List.take_append, List.take_of_length_le (by rw [hf, Nat.succ_mul]; omega), hf, show (k + 1) * sz - sz = k * sz by rw [Nat.succ_mul]; omega, this]
theorem flat_drop {α : Type} {f : α → List AV} {sz : Nat} (hf : ∀ x, (f x).length = sz) : ∀ (l : List α) (k : Nat), (flat f l).drop (k * sz) = flat f (l.drop k)
  | [], k => by simp [flat]
  | c :: l, 0 => by simp [flat]
  | c :: l, k + 1 => by
    have := flat_drop hf l k
    simp only [flat, List.map_cons, List.flatten_cons, List.drop_succ_cons] at this ⊢
    rw [List.drop_append, List.drop_of_length_le (by rw [hf, Nat.succ_mul]; omega), hf, show (k + 1) * sz - sz = k * sz by rw [Nat.succ_mul]; omega, this, List.nil_append]
theorem clear_sl {at_ : At} {z : List AV} {i off len cp sz : Nat} : clearV at_ z (.sl i off len cp sz) = (cellsAt at_ i).bind fun cs => if sz = z.length ∧ off + len * sz ≤ cs.length then some ([(i, some (.cells (over cs off (List.replicate len z).flatten)))], [i]) else none := by
  simp only [clearV]; cases cellsAt at_ i <;> rfl
end Go.Am
