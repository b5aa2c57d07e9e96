/-
  Slots of lists, behind a call.
-/
import Derived.Test.YtkjimnhmiojcdaaLk
set_option linter.unusedSimpArgs false
set_option linter.unusedVariables false
namespace Go.Pol
open Go.Am
/-- A slot of a list. -/
def usedQ (Q : Nat → List Nat) (t : Nat) : Prop := ∃ i, t ∈ Q i
theorem mem_upd {Q : Nat → List Nat} {k i t : Nat} {l : List Nat} (h : t ∈ updQ Q k l i) : (i = k ∧ t ∈ l) ∨ (i ≠ k ∧ t ∈ Q i) := by
  unfold updQ at h
  by_cases e : i = k
  · rw [if_pos e] at h; exact .inl ⟨e, h⟩
  · rw [if_neg e] at h; exact .inr ⟨e, h⟩
theorem used_push {Q : Nat → List Nat} {k t u : Nat} {b : Bool} (h : usedQ (updQ Q k (if b = true then t :: Q k else Q k ++ [t])) u) : u = t ∨ usedQ Q u := by
  obtain ⟨i, hi⟩ := h
  rcases mem_upd hi with ⟨rfl, h⟩ | ⟨_, h⟩
  · have : u = t ∨ u ∈ Q i := by
      cases b
      · simp at h; exact h.symm
      · simp at h; exact h
    exact this.imp_right fun h => ⟨i, h⟩
  · exact .inr ⟨i, h⟩
theorem used_after {m : Nat} {Q : Nat → List Nat} {k j t u : Nat} {X Y : List Nat} (hx : AtQ m Q k j X Y) (h : usedQ (updQ Q j (X ++ k :: t :: Y)) u) : u = t ∨ usedQ Q u := by
  obtain ⟨i, hi⟩ := h
  rcases mem_upd hi with ⟨rfl, h⟩ | ⟨_, h⟩
  · have e := hx.eq
    simp only [List.mem_append, List.mem_cons] at h
    by_cases hu : u = t
    · exact .inl hu
    · refine .inr ⟨i, ?_⟩
      rw [e]
      simp only [List.mem_append, List.mem_cons]
      rcases h with h | h | h | h
      · exact .inl h
      · exact .inr (.inl h)
      · exact absurd h hu
      · exact .inr (.inr h)
  · exact .inr ⟨i, h⟩
theorem used_take {n m : Nat} {Q : Nat → List Nat} {k j u : Nat} {X Y : List Nat} (hq : Qok n m Q) (hx : AtQ m Q k j X Y) (h : usedQ (updQ Q j (X ++ Y)) u) : u ≠ k ∧ usedQ Q u := by
  have e := hx.eq
  have hk : k ∈ Q j := by rw [e]; simp
  obtain ⟨i, hi⟩ := h
  rcases mem_upd hi with ⟨rfl, h⟩ | ⟨hij, h⟩
  · refine ⟨?_, i, ?_⟩
    · rintro rfl
      have hnd := hq.nd i
      rw [e] at hnd
      have := (List.nodup_append.1 hnd)
      rcases List.mem_append.1 h with h | h
      · exact this.2.2 u h u (by simp) rfl
      · exact (List.nodup_cons.1 this.2.1).1 h
    · rw [e]; simp only [List.mem_append, List.mem_cons]
      rcases List.mem_append.1 h with h | h
      · exact .inl h
      · exact .inr (.inr h)
  · refine ⟨?_, i, h⟩
    rintro rfl
    exact hij (hq.one _ _ _ h hk)
theorem used_move {m : Nat} {Q : Nat → List Nat} {k j l u : Nat} {X Y : List Nat} {b : Bool} (hx : AtQ m Q k j X Y) (h : usedQ (updQ (updQ Q j (X ++ Y)) l (if b = true then k :: updQ Q j (X ++ Y) l else updQ Q j (X ++ Y) l ++ [k])) u) : usedQ Q u := by
  have e := hx.eq
  have hk : k ∈ Q j := by rw [e]; simp
  rcases used_push (Q := updQ Q j (X ++ Y)) h with rfl | ⟨i, hi⟩
  · exact ⟨j, hk⟩
  · rcases mem_upd hi with ⟨rfl, h2⟩ | ⟨_, h2⟩
    · refine ⟨i, ?_⟩
      rw [e]; simp only [List.mem_append, List.mem_cons]
      rcases List.mem_append.1 h2 with h2 | h2
      · exact .inl h2
      · exact .inr (.inr h2)
    · exact ⟨i, h2⟩
theorem plain_tup2 {a : AV} {e : Int} (h : Plain a) : Plain (.tup [a, .int .i64 e]) := plain_tup fun x hx => by
  simp only [List.mem_cons, List.not_mem_nil, or_false] at hx
  rcases hx with rfl | rfl
  · exact h
  · exact plain_int
end Go.Pol
