/-
  Layer 15's plain law: what the program makes of a state and what the reference makes of it are one. No program in sight.
-/
import Derived.Test.YtjhmknnokloneaaDoorZo
set_option linter.unusedSimpArgs false
set_option linter.unusedVariables false
namespace Go.Pol
theorem mergeL_four {l : List Cut} (h : l.length ≤ 4) : mergeL l = l := mergeL_stop (by omega)
/-- What a valid state is. -/
theorem check_valid {s : List Page} (h : checkM s = 0) : s.length ≤ 1024 ∧ (∀ p ∈ s, okPage p = true) ∧ okFrom (-1) s = true := by
  unfold checkM at h
  split at h
  · cases h
  · rename_i h1
    split at h
    · rename_i h2
      split at h
      · rename_i h3; exact ⟨by omega, fun p hp => List.all_eq_true.1 h2 p hp, h3⟩
      · cases h
    · cases h
/-- Pages in order, each with its cuts as they are put down. -/
def Can (last : Int) : List Page → Prop
  | [] => True
  | p :: s => last < p.1 ∧ p.1 < 1024 ∧ p.2 ≠ [] ∧ p.2.length ≤ 4 ∧ Sep 0 p.2 ∧ Can p.1 s
theorem okFrom_can : ∀ {s : List Page} {last : Int}, (∀ p ∈ s, okPage p = true) → okFrom last s = true → Can last s
  | [], _, _, _ => trivial
  | p :: s, last, hp, h => by
    simp only [okFrom, Bool.and_eq_true, okNext, decide_eq_true_eq, sameL] at h
    obtain ⟨⟨⟨⟨h1, h2⟩, h3⟩, h4⟩, h5⟩ := h
    have h6 := hp p (List.mem_cons_self ..)
    simp only [okPage, Bool.and_eq_true, decide_eq_true_eq] at h6
    exact ⟨h1, h6.1.2, fun e => by rw [e] at h2; simp at h2, h3, sep_iff.1 h4, okFrom_can (fun q hq => hp q (List.mem_cons_of_mem _ hq)) h5⟩
end Go.Pol
