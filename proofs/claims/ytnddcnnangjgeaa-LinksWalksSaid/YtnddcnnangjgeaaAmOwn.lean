/-
  Slices that an activation makes and that grow. No program in sight.
-/
import Derived.Test.YtnddcnnangjgeaaAmLoop
set_option linter.unusedSimpArgs false
set_option linter.unusedVariables false
namespace Go.Am
/-- The cells of a list of records. -/
def flat {α : Type} (f : α → List AV) (l : List α) : List AV := (l.map f).flatten
theorem flat_nil {α : Type} {f : α → List AV} : flat f [] = [] := rfl
theorem flat_snoc {α : Type} {f : α → List AV} {l : List α} {c : α} : flat f l ++ f c = flat f (l ++ [c]) := by simp [flat]
theorem flat_app {α : Type} {f : α → List AV} {l l' : List α} : flat f l ++ flat f l' = flat f (l ++ l') := by simp [flat]
theorem flat_len {α : Type} {f : α → List AV} {sz : Nat} (hf : ∀ x, (f x).length = sz) : ∀ l : List α, (flat f l).length = l.length * sz
  | [] => by simp [flat]
  | c :: l => by
    have := flat_len hf l
    simp only [flat, List.map_cons, List.flatten_cons, List.length_append, hf, List.length_cons, Nat.succ_mul] at this ⊢
    omega
theorem plain_flat {α : Type} {f : α → List AV} {l : List α} (hp : ∀ c, ∀ x ∈ f c, Plain x) : ∀ x ∈ flat f l, Plain x := fun x hx => by
  obtain ⟨e, he, hxe⟩ := List.mem_flatten.1 hx
  obtain ⟨c, _, rfl⟩ := List.mem_map.1 he
  exact hp c x hxe
/-- A slice of its own that has a list; nil if that is empty. -/
def ownV (i sz n : Nat) : AV := if n = 0 then .nils else .sl i 0 n n sz
def ownH {α : Type} (i : Nat) (f : α → List AV) (l : List α) : List (Nat × AObj) := if l.length = 0 then [] else [(i, .cells (flat f l))]
theorem own_z {i sz : Nat} : ownV i sz 0 = .nils := rfl
theorem own_s {i sz n : Nat} (h : n ≠ 0) : ownV i sz n = .sl i 0 n n sz := if_neg h
theorem ownH_z {α : Type} {i : Nat} {f : α → List AV} {l : List α} (h : l.length = 0) : ownH i f l = [] := if_pos h
theorem ownH_s {α : Type} {i : Nat} {f : α → List AV} {l : List α} (h : l.length ≠ 0) : ownH i f l = [(i, .cells (flat f l))] := if_neg h
def app2 (at_ : At) (id sz bytes : Nat) (s : AV) (src : List AV) (n : Nat) (rd : List Nat) : Option (AV × Up × List Nat) := match s with
    | .nils => if n = 0 then some (.nils, [], rd) else if n * bytes ≤ 140737488355328 ∧ n ≤ 1000000000000 then some (.sl id 0 n n sz, [(id, some (.cells src))], rd) else none
    | .sl d off len cp sz' => match cellsAt at_ d with
      | some cs =>
        if sz = sz' ∧ off + len * sz ≤ cs.length then
          if len + n ≤ cp then (if off + (len + n) * sz ≤ cs.length then some (.sl d off (len + n) cp sz, [(d, some (.cells (over cs (off + len * sz) src)))], d :: rd) else none)
          else if (len + n) * bytes ≤ 140737488355328 ∧ len + n ≤ 1000000000000 then some (.sl id 0 (len + n) (len + n) sz, [(d, none), (id, some (.cells ((cs.drop off).take (len * sz) ++ src)))], d :: rd) else none
        else none
      | none => none
    | _ => none
def app1 (at_ : At) (id sz bytes : Nat) (s : AV) : Option (List AV × Nat × List Nat) → Option (AV × Up × List Nat)
  | some (src, n, rd) => app2 at_ id sz bytes s src n rd
  | none => none
theorem app_eq {at_ : At} {id sz bytes : Nat} {s x : AV} : appV at_ id sz bytes s x = app1 at_ id sz bytes s (srcV at_ sz x) := by
  unfold appV app1
  cases srcV at_ sz x with
  | none => rfl
  | some p => obtain ⟨a, b, c⟩ := p; rfl
theorem app1_ite {at_ : At} {id sz bytes : Nat} {s : AV} {c : Prop} [Decidable c] {x : Option (List AV × Nat × List Nat)} : app1 at_ id sz bytes s (if c then x else none) = if c then app1 at_ id sz bytes s x else none := by split <;> rfl
theorem src_sl {at_ : At} {sz i off len cp sz' : Nat} : srcV at_ sz (.sl i off len cp sz') = (cellsAt at_ i).bind fun cs => if sz = sz' ∧ off + len * sz ≤ cs.length then some ((cs.drop off).take (len * sz), len, [i]) else none := by
  simp only [srcV]; cases cellsAt at_ i <;> rfl
theorem src_map {α : Type} {f : α → List AV} {at_ : At} {sz : Nat} (hf : ∀ x, (f x).length = sz) {l : List α} : srcV at_ sz (.isl (l.map f)) = some (flat f l, l.length, []) := by
  simp only [srcV]
  rw [if_pos]
  · simp [flat]
  · simp [hf]
theorem simA {at_ : At} {id sz bytes : Nat} : (∀ s src n rd, app1 at_ id sz bytes s (some (src, n, rd)) = app2 at_ id sz bytes s src n rd) ∧ (∀ src n rd, app2 at_ id sz bytes .nils src n rd = if n = 0 then some (.nils, [], rd) else if n * bytes ≤ 140737488355328 ∧ n ≤ 1000000000000 then some (.sl id 0 n n sz, [(id, some (.cells src))], rd) else none) :=
  ⟨fun _ _ _ _ => rfl, fun _ _ _ => rfl⟩
section
variable {P : Program} {G : Gl} {fr : List AV} {h : Hp}
theorem go_app2 {d : Option Nat} {os : List AOper} {Q : List AV → Hp → Prop} {id sz bytes i n m : Nat} {src cs : List AV} {r : List Nat} (hd : lk h.l i = some (.cells cs)) (hcs : cs.length = n * sz) (hm : 0 < m) (hb : (n + m) * bytes ≤ 140737488355328 ∧ n + m ≤ 1000000000000)
    (hk : runS P G os Q (setO fr d (.sl id 0 (n + m) (n + m) sz)) (h.app [(i, none), (id, some (.cells (cs ++ src)))])) : goS P G d os Q fr h (app2 (lk h.l) id sz bytes (.sl i 0 n n sz) src m r) := by
  have hc : cellsAt (lk h.l) i = some cs := by simp only [cellsAt, hd]
  simp only [app2, hc]
  rw [if_pos ⟨trivial, by omega⟩, if_neg (by omega), if_pos hb, List.drop_zero, List.take_of_length_le (by omega)]
  exact hk
theorem wkl_plain {σ : Nat → Nat} {h h' : Hp} (hs : SubH σ h h') : ∀ {cs : List AV}, (∀ x ∈ cs, Plain x) → WkL P σ h h' cs cs
  | [], _ => trivial
  | x :: cs, hp => ⟨wk_plain hs (hp x (List.mem_cons_self ..)), wkl_plain hs fun y hy => hp y (List.mem_cons_of_mem _ hy)⟩
theorem wko_plain {σ : Nat → Nat} {h h' : Hp} {i : Nat} {cs cs' : List AV} {r : List (Nat × AObj)} (hs : SubH σ h h') (h1 : i < h'.next) (h2 : lk h.l (σ i) = some (.cells cs)) (e : cs = cs') (hp : ∀ x ∈ cs, Plain x) (h4 : WkO P σ h h' r) : WkO P σ h h' ((i, .cells cs') :: r) :=
  e ▸ wko_cells h1 h2 (wkl_plain hs hp) h4
/-- A slice of its own is handed out, and becomes a value. -/
theorem fin_frz {α : Type} {f : α → List AV} {sz : Nat} (hf : ∀ x, (f x).length = sz) (hp : ∀ c, ∀ x ∈ f c, Plain x) {i n : Nat} {l : List α} {cs : List AV} (hi : lk h.l i = some (.cells cs)) (hc : cs = flat f l) (hn : n = l.length) : finS P 0 (fun r' h' => r' = .isl (l.map f) ∧ h'.l = []) h (some [.sl i 0 n n sz]) := by
  subst hc; subst hn
  refine ⟨id, .isl (l.map f), ⟨[], 0⟩, weak_of (fun i j o o' hi => by cases hi) ⟨?_, trivial⟩ trivial, fun _ _ => rfl, Nat.le_refl _, rfl, rfl⟩
  refine wk_frz hi (fun j o hj => by cases hj) subH_nil (by simp) (fun e he => ?_) ?_ fun e he x hx => ?_
  · obtain ⟨c, _, rfl⟩ := List.mem_map.1 he; exact hf c
  · rw [List.drop_zero, List.take_of_length_le (by rw [flat_len hf]; exact Nat.le_refl _)]; rfl
  · obtain ⟨c, _, rfl⟩ := List.mem_map.1 he; exact hp c x hx
theorem fin_nils {h : Hp} {α : Type} {f : α → List AV} {l : List α} (hl : l = []) : finS P 0 (fun r' h' => r' = .isl (l.map f) ∧ h'.l = []) h (some [.nils]) := by
  subst hl
  exact ⟨id, .isl [], ⟨[], 0⟩, weak_of (fun i j o o' hi => by cases hi) ⟨wk_nils, trivial⟩ trivial, fun _ _ => rfl, Nat.le_refl _, rfl, rfl⟩
end
end Go.Am
