/-
  A walk as an argument's default: what is left of it is put together in one proposition. No program in sight.
-/
import Derived.Test.YtkjimnhmiojcdaaAmWu
set_option linter.unusedSimpArgs false
set_option linter.unusedVariables false
namespace Go.Am
/-- What is left, hidden from tactics that look through what is known. -/
structure HidP (p : Prop) : Prop where
  out : p
section
variable {p A B qa qb : Prop} {b : Bool}
theorem br_dt [Decidable p] (h : p) (hA : A) : BrX (decide p) A B := br_t (decide_eq_true h) hA
theorem br_df [Decidable p] (h : ¬ p) (hB : B) : BrX (decide p) A B := br_f (decide_eq_false h) hB
theorem br_dq [Decidable p] (hq : HidP ((p → qa) ∧ (¬ p → qb))) (hA : p → HidP qa → A) (hB : ¬ p → HidP qb → B) : BrX (decide p) A B := br_d (fun h => hA h ⟨hq.out.1 h⟩) fun h => hB h ⟨hq.out.2 h⟩
theorem br_bq (hq : HidP ((b = true → qa) ∧ (b = false → qb))) (hA : b = true → HidP qa → A) (hB : b = false → HidP qb → B) : BrX b A B := br_b (fun h => hA h ⟨hq.out.1 h⟩) fun h => hB h ⟨hq.out.2 h⟩
end
end Go.Am
