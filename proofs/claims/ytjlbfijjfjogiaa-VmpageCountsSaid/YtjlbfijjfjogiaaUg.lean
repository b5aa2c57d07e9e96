/-
  What a step and a call of the law do, plain; both walked.
-/
import Derived.Test.YtjlbfijjfjogiaaUf
set_option linter.unusedSimpArgs false
set_option linter.unusedVariables false
namespace Go.Pol
open Go.Am
/-- What a call does, and its error. -/
def Sy.call (s : Sy) (x : Ac) : Int × Sy :=
  if x.w % 19 = 0 ∨ x.w % 19 = 1 then s.chg x.p x.n 0 1 0 else if x.w % 19 = 2 then s.chg x.p x.n 1 0 1 else
  if x.w % 19 = 3 ∨ x.w % 19 = 4 ∨ x.w % 19 = 5 then s.chg x.p x.n 1 2 2 else if x.w % 19 = 6 ∨ x.w % 19 = 7 then s.chg x.p x.n 2 1 3 else
  if x.w % 19 = 8 ∨ x.w % 19 = 9 then (if decide (x.n.tmod 2 = 0) = true then s.chg x.p x.n 1 3 4 else s.chg x.p x.n 3 1 4) else
  if x.w % 19 = 10 ∨ x.w % 19 = 11 then s.join x.p else if x.w % 19 = 12 then s.split x.p else
  if x.w % 19 = 13 ∨ x.w % 19 = 14 ∨ x.w % 19 = 15 then s.write x.t x.b else s.plan x.l
/-- What a step leaves (no step saves and loads here). -/
def Sy.step (s : Sy) (x : Ac) : Sy :=
  if x.w % 19 = 9 then (s.chg x.p x.n 3 1 4).2 else if x.w % 19 = 15 ∨ x.w % 19 = 16 then s else (s.call x).2
theorem good_call {s : Sy} {x : Ac} (h : GoodS s) : GoodS (s.call x).2 := by
  unfold Sy.call
  repeat' split
  all_goals first | exact good_chg h (by decide) | exact good_join h | exact good_split h | exact good_write h | exact good_plan h
theorem good_step {s : Sy} {x : Ac} (h : GoodS s) : GoodS (s.step x) := by
  unfold Sy.step
  repeat' split
  · exact good_chg h (by decide)
  · exact h
  · exact good_call h
theorem kind_ex (s : Sy) (a : Int) : ∃ k h e, s.kind a = [.int .i64 k, .bool h, .int .i64 e] := by
  unfold Sy.kind; split <;> exact ⟨_, _, _, rfl⟩
end Go.Pol
namespace Go.Proofs.Ytjlbfijjfjogiaa
open Go Go.Am Go.Pol
section
variable {s : Sy} {x : Ac}
theorem p_step (g : GoodS s) (x : Ac) (hw : x.w % 19 ≠ 17) : LocU x s.a s.b (s.step x).a (s.step x).b := by
  have h := Nat.mod_lt x.w (show 0 < 19 by decide)
  unfold Sy.step
  split
  · rename_i h9
    have z := p_protect (a := x.p) (n := x.n) g (b := false)
    have z' := q_protect (a := x.p) (n := x.n) g (b := false)
    exact s_protectf h9 z z'
  split
  · rename_i h9 h15
    rcases h15 with h15 | h16
    · exact s_read h15 p_read q_read
    · obtain ⟨k, m, e, hk⟩ := kind_ex s x.p
      have z := p_kind (s := s) (a := x.p)
      have z' := q_kind (s := s) (a := x.p)
      rw [hk] at z z'
      exact s_kind h16 z z' (p_counts g) (q_counts g)
  rename_i h9 h15
  unfold Sy.call
  split
  · exact s_reserve (by assumption) (p_reserve g) (q_reserve g)
  split
  · exact s_release (by assumption) (p_release g) (q_release g)
  split
  · exact s_commit (by assumption) (p_commit g) (q_commit g)
  split
  · exact s_decommit (by assumption) (p_decommit g) (q_decommit g)
  split
  · exact s_protect (by omega) (p_protect g) (q_protect g)
  split
  · exact s_join (by assumption) (p_join g) (q_join g)
  split
  · exact s_split (by assumption) (p_split g) (q_split g)
  split
  · exact s_write (by omega) p_write q_write
  · exact s_plan (by omega) (p_plan s x.l) (q_plan s x.l)
end
end Go.Proofs.Ytjlbfijjfjogiaa
