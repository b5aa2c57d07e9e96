/-
  Check of a queue's state: the program's.
-/
import Derived.Test.YtggkpagngnnjjaaQc
set_option linter.unusedSimpArgs false
set_option linter.unusedVariables false
namespace Go.Pol
open Go.Am
def pgA (a : Int × Int) : List AV := [.int .i64 a.1, .int .i64 a.2]
theorem pg_len (a : Int × Int) : (pgA a).length = 2 := rfl
theorem pgA_plain (a : Int × Int) : ∀ x ∈ pgA a, Plain x := fun x hx => by
  simp only [pgA, List.mem_cons, List.not_mem_nil, or_false] at hx
  rcases hx with rfl | rfl <;> exact plain_int
def stP (age ref keep : Int) (l : List (Int × Int)) : AV := .agg [.int .i64 age, .int .i64 ref, .int .i64 keep, .isl (l.map pgA)]
theorem plain_pgs {l : List (Int × Int)} : Plain (.isl (l.map pgA)) := plain_isl fun e he => by
  obtain ⟨a, _, rfl⟩ := List.mem_map.1 he
  exact pgA_plain a
theorem plain_stP {age ref keep : Int} {l : List (Int × Int)} : Plain (stP age ref keep l) := plain_agg fun x hx => by
  simp only [List.mem_cons, List.not_mem_nil, or_false] at hx
  rcases hx with rfl | rfl | rfl | rfl
  · exact plain_int
  · exact plain_int
  · exact plain_int
  · exact plain_pgs
theorem plain_pgA {a : Int × Int} : Plain (.agg (pgA a)) := plain_agg (pgA_plain a)
def d0 : Int × Int := (0, 0)
def badSt (age ref keep : Int) : Prop := ref < 0 ∨ age < 0 ∨ 1000000000000 < age ∨ keep < 0 ∨ 1024 < keep
def P1 (l : List (Int × Int)) : Prop := ∀ j, j < l.length → okPg (nth d0 l j)
def P2 (l : List (Int × Int)) : Prop := ∀ j, j + 1 < l.length → ¬ ltP (nth d0 l (j + 1)) (nth d0 l j)
def P3 (l : List (Int × Int)) : Prop := ∀ j k, j < k → k < l.length → (nth d0 l j).1 ≠ (nth d0 l k).1
/-- What Check says of a state. -/
def Chk (age ref keep : Int) (l : List (Int × Int)) (r : Int) : Prop :=
  (badSt age ref keep ∧ r = 2) ∨ (¬ badSt age ref keep ∧ ¬ P1 l ∧ r = 7) ∨ (¬ badSt age ref keep ∧ P1 l ∧ ¬ P2 l ∧ r = 6) ∨ (¬ badSt age ref keep ∧ P1 l ∧ P2 l ∧ ¬ P3 l ∧ r = 8) ∨ (¬ badSt age ref keep ∧ P1 l ∧ P2 l ∧ P3 l ∧ r = 0)
theorem chk_ex (age ref keep : Int) (l : List (Int × Int)) : ∃ r, Chk age ref keep l r := by
  by_cases h0 : badSt age ref keep
  · exact ⟨2, .inl ⟨h0, rfl⟩⟩
  by_cases h1 : P1 l
  · by_cases h2 : P2 l
    · by_cases h3 : P3 l
      · exact ⟨0, .inr (.inr (.inr (.inr ⟨h0, h1, h2, h3, rfl⟩)))⟩
      · exact ⟨8, .inr (.inr (.inr (.inl ⟨h0, h1, h2, h3, rfl⟩)))⟩
    · exact ⟨6, .inr (.inr (.inl ⟨h0, h1, h2, rfl⟩))⟩
  · exact ⟨7, .inr (.inl ⟨h0, h1, rfl⟩)⟩
section
variable {age ref keep r : Int} {l : List (Int × Int)}
theorem Chk.bad (h : Chk age ref keep l r) (h0 : badSt age ref keep) : r = 2 := by
  rcases h with h | h | h | h | h
  · exact h.2
  all_goals exact absurd h0 h.1
theorem Chk.rng (h : Chk age ref keep l r) (h0 : ¬ badSt age ref keep) (h1 : ¬ P1 l) : r = 7 := by
  rcases h with h | h | h | h | h
  · exact absurd h.1 h0
  · exact h.2.2
  all_goals exact absurd h.2.1 h1
theorem Chk.form (h : Chk age ref keep l r) (h0 : ¬ badSt age ref keep) (h1 : P1 l) (h2 : ¬ P2 l) : r = 6 := by
  rcases h with h | h | h | h | h
  · exact absurd h.1 h0
  · exact absurd h1 h.2.1
  · exact h.2.2.2
  all_goals exact absurd h.2.2.1 h2
theorem Chk.twice (h : Chk age ref keep l r) (h0 : ¬ badSt age ref keep) (h1 : P1 l) (h2 : P2 l) (h3 : ¬ P3 l) : r = 8 := by
  rcases h with h | h | h | h | h
  · exact absurd h.1 h0
  · exact absurd h1 h.2.1
  · exact absurd h2 h.2.2.1
  · exact h.2.2.2.2
  · exact absurd h.2.2.2.1 h3
theorem Chk.fine (h : Chk age ref keep l r) (h0 : ¬ badSt age ref keep) (h1 : P1 l) (h2 : P2 l) (h3 : P3 l) : r = 0 := by
  rcases h with h | h | h | h | h
  · exact absurd h.1 h0
  · exact absurd h1 h.2.1
  · exact absurd h2 h.2.2.1
  · exact absurd h3 h.2.2.2.1
  · exact h.2.2.2.2
end
def S2 (l : List (Int × Int)) (i : Nat) : Prop := ∀ j, j + 1 < i → ¬ ltP (nth d0 l (j + 1)) (nth d0 l j)
def T3 (l : List (Int × Int)) (i : Nat) : Prop := ∃ j k, j < k ∧ k < i ∧ (nth d0 l j).1 = (nth d0 l k).1
def S4 (l : List (Int × Int)) (i : Nat) (M : Nat → Bool) : Prop := ∀ p : Nat, M p = true ↔ ∃ j, j < i ∧ (nth d0 l j).1 = (p : Int)
/-! A block of truth values. -/
def updB (M : Nat → Bool) (i : Nat) (v : Bool) : Nat → Bool := fun j => if j = i then v else M j
def memT (n : Nat) (M : Nat → Bool) : List AV := (List.range n).map fun k => .bool (M k)
theorem memT_len (n : Nat) (M : Nat → Bool) : (memT n M).length = n := by simp [memT]
theorem memT_get {n : Nat} {M : Nat → Bool} {i : Nat} (h : i < n) : (memT n M)[i]? = some (.bool (M i)) := by simp [memT, h]
theorem memT_set (n : Nat) (M : Nat → Bool) (i : Nat) (v : Bool) : (memT n M).set i (.bool v) = memT n (updB M i v) := by
  refine List.ext_getElem (by simp [memT]) fun j h1 h2 => ?_
  simp only [memT, List.getElem_set, List.getElem_map, List.getElem_range, updB]
  by_cases e : i = j
  · subst e; simp
  · rw [if_neg e, if_neg (fun h => e h.symm)]
theorem memT_plain (n : Nat) (M : Nat → Bool) : ∀ x ∈ memT n M, Plain x := fun x hx => by obtain ⟨p, _, rfl⟩ := List.mem_map.1 hx; exact plain_bool
theorem memT_make (n : Nat) : (List.replicate n [AV.bool false]).flatten = memT n fun _ => false := by
  refine List.ext_getElem (by simp [memT]) fun j h1 h2 => ?_
  simp [memT, List.flatten_replicate_singleton]
section
variable {l : List (Int × Int)} {i p : Nat} {M : Nat → Bool}
theorem S2_1 : S2 l (0 + 1) := fun j h => by omega
theorem S2_s : S2 l (i + 1 + 1) ↔ S2 l (i + 1) ∧ ¬ ltP (nth d0 l (i + 1)) (nth d0 l i) := by
  constructor
  · intro h; exact ⟨fun j hj => h j (by omega), h i (by omega)⟩
  · rintro ⟨h1, h2⟩ j hj
    by_cases e : j = i
    · subst e; exact h2
    · exact h1 j (by omega)
theorem T3_0 : ¬ T3 l 0 := fun ⟨_, _, _, h, _⟩ => by omega
theorem T3_s (hp : (nth d0 l i).1 = (p : Int)) (h4 : S4 l i M) : T3 l (i + 1) ↔ T3 l i ∨ M p = true := by
  rw [h4 p]
  constructor
  · rintro ⟨j, k, h1, h2, h3⟩
    by_cases e : k = i
    · subst e; exact .inr ⟨j, h1, h3.trans hp⟩
    · exact .inl ⟨j, k, h1, by omega, h3⟩
  · rintro (⟨j, k, h1, h2, h3⟩ | ⟨j, h1, h3⟩)
    · exact ⟨j, k, h1, by omega, h3⟩
    · exact ⟨j, i, h1, by omega, h3.trans hp.symm⟩
theorem S4_0 : S4 l 0 fun _ => false := fun p => by
  constructor
  · intro h; cases h
  · rintro ⟨_, h, _⟩; omega
theorem S4_s (hp : (nth d0 l i).1 = (p : Int)) (h4 : S4 l i M) : S4 l (i + 1) (updB M p true) := fun q => by
  unfold updB
  by_cases e : q = p
  · subst e
    rw [if_pos rfl]
    exact ⟨fun _ => ⟨i, by omega, hp⟩, fun _ => rfl⟩
  · rw [if_neg e, h4 q]
    constructor
    · rintro ⟨j, h1, h2⟩; exact ⟨j, by omega, h2⟩
    · rintro ⟨j, h1, h2⟩
      by_cases ej : j = i
      · subst ej; rw [hp] at h2; exact absurd (show q = p by omega) e
      · exact ⟨j, by omega, h2⟩
theorem T3_all : T3 l l.length ↔ ¬ P3 l := by
  constructor
  · rintro ⟨j, k, h1, h2, h3⟩ h; exact h j k h1 h2 h3
  · intro h
    exact Classical.byContradiction fun hn => h fun j k h1 h2 h3 => hn ⟨j, k, h1, h2, h3⟩
end
end Go.Pol
namespace Go.Proofs.Ytggkpagngnnjjaa
open Go Go.Am Go.Pol
theorem el_m1 {els : List (List AV)} {i sz : Nat} {K : List AV → Prop} (h : ElX els i sz K) : ElX els ((((i + 1 : Nat) : Int) - 1).toNat) sz K := by
  rw [show (((i + 1 : Nat) : Int) - 1).toNat = i by omega]; exact h
section
variable {age ref keep r : Int} {l : List (Int × Int)}
end
end Go.Proofs.Ytggkpagngnnjjaa
