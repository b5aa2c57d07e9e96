/-
  Slices that an activation makes and that grow. No program in sight.
-/
import Derived.Test.YtnddcnnangjgeaaAmLoop
set_option linter.unusedSimpArgs false
set_option linter.unusedVariables false
namespace Go.Am
/-- The cells of a list of records. -/
def flat {α : Type} (f : α → List AV) (l : List α) : List AV := (l.map f).flatten
theorem flat_snoc {α : Type} {f : α → List AV} {l : List α} {c : α} : flat f l ++ f c = flat f (l ++ [c]) := by simp [flat]
theorem flat_len {α : Type} {f : α → List AV} {sz : Nat} (hf : ∀ x, (f x).length = sz) : ∀ l : List α, (flat f l).length = l.length * sz
  | [] => by simp [flat]
  | c :: l => by
    have := flat_len hf l
    simp only [flat, List.map_cons, List.flatten_cons, List.length_append, hf, List.length_cons, Nat.succ_mul] at this ⊢
    omega
theorem plain_flat {α : Type} {f : α → List AV} {l : List α} (hp : ∀ c, ∀ x ∈ f c, Plain x) : ∀ x ∈ flat f l, Plain x := fun x hx => by
  obtain ⟨e, he, hxe⟩ := List.mem_flatten.1 hx
  obtain ⟨c, _, rfl⟩ := List.mem_map.1 he
  exact hp c x hxe
/-- A slice of its own that has a list; nil if that is empty. -/
def ownV (i sz n : Nat) : AV := if n = 0 then .nils else .sl i 0 n n sz
def ownH {α : Type} (i : Nat) (f : α → List AV) (l : List α) : List (Nat × AObj) := if l.length = 0 then [] else [(i, .cells (flat f l))]
theorem own_z {i sz : Nat} : ownV i sz 0 = .nils := rfl
theorem own_s {i sz n : Nat} (h : n ≠ 0) : ownV i sz n = .sl i 0 n n sz := if_neg h
theorem ownH_z {α : Type} {i : Nat} {f : α → List AV} {l : List α} (h : l.length = 0) : ownH i f l = [] := if_pos h
theorem ownH_s {α : Type} {i : Nat} {f : α → List AV} {l : List α} (h : l.length ≠ 0) : ownH i f l = [(i, .cells (flat f l))] := if_neg h
def app2 (at_ : At) (id sz bytes : Nat) (s : AV) (src : List AV) (n : Nat) (rd : List Nat) : Option (AV × Up × List Nat) := match s with
    | .nils => if n = 0 then some (.nils, [], rd) else if n * bytes ≤ 140737488355328 ∧ n ≤ 1000000000000 then some (.sl id 0 n n sz, [(id, some (.cells src))], rd) else none
    | .sl d off len cp sz' => match cellsAt at_ d with
      | some cs =>
        if sz = sz' ∧ off + len * sz ≤ cs.length then
          if len + n ≤ cp then (if off + (len + n) * sz ≤ cs.length then some (.sl d off (len + n) cp sz, [(d, some (.cells (over cs (off + len * sz) src)))], d :: rd) else none)
          else if (len + n) * bytes ≤ 140737488355328 ∧ len + n ≤ 1000000000000 then some (.sl id 0 (len + n) (len + n) sz, [(d, none), (id, some (.cells ((cs.drop off).take (len * sz) ++ src)))], d :: rd) else none
        else none
      | none => none
    | _ => none
def app1 (at_ : At) (id sz bytes : Nat) (s : AV) : Option (List AV × Nat × List Nat) → Option (AV × Up × List Nat)
  | some (src, n, rd) => app2 at_ id sz bytes s src n rd
  | none => none
section
variable {P : Program} {G : Gl} {fr : List AV} {h : Hp}
theorem wkl_plain {σ : Nat → Nat} {h h' : Hp} (hs : SubH σ h h') : ∀ {cs : List AV}, (∀ x ∈ cs, Plain x) → WkL P σ h h' cs cs
  | [], _ => trivial
  | x :: cs, hp => ⟨wk_plain hs (hp x (List.mem_cons_self ..)), wkl_plain hs fun y hy => hp y (List.mem_cons_of_mem _ hy)⟩
theorem wko_plain {σ : Nat → Nat} {h h' : Hp} {i : Nat} {cs cs' : List AV} {r : List (Nat × AObj)} (hs : SubH σ h h') (h1 : i < h'.next) (h2 : lk h.l (σ i) = some (.cells cs)) (e : cs = cs') (hp : ∀ x ∈ cs, Plain x) (h4 : WkO P σ h h' r) : WkO P σ h h' ((i, .cells cs') :: r) :=
  e ▸ wko_cells h1 h2 (wkl_plain hs hp) h4
end
end Go.Am
