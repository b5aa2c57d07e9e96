/-
  VmpageCounts.
-/
import Derived.Test.YtjlbfijjfjogiaaUh
import Derived.Test.YtjlbfijjfjogiaaUb
set_option linter.unusedSimpArgs false
set_option linter.unusedVariables false
namespace Go.Pol
open Go.Am
def cntQ (G : Nat → Bool) : Nat → Nat
  | 0 => 0
  | n + 1 => cntQ G n + if G (n / 16) = true then 1 else 0
end Go.Pol
namespace Go.Proofs.Ytjlbfijjfjogiaa
open Go Go.Am Go.Pol
section
variable {p : List Rl} {l : List Ac}
theorem long_ex (p : List Rl) {l : List Ac} (hl : l.length ≤ 1000) : ∃ b, PureS 20 [.agg [.isl (p.map rlA)], .isl (l.map acA)] (.bool b) := by
  by_cases h : 60 < p.length
  · exact ⟨_, k_long_p h⟩
  · by_cases h2 : isLong p l
    · exact ⟨true, k_long ⟨fun _ => h2, fun _ => rfl⟩ hl (by omega)⟩
    · exact ⟨false, k_long ⟨fun e => (by cases e), fun e => absurd e h2⟩ hl (by omega)⟩
theorem made_ex (p : List Rl) {l : List Ac} (hl : l.length ≤ 1000) : PureS 25 [.agg [.isl (p.map rlA)], .isl (l.map acA)] (.tup [.nilp, .bool false]) ∨ ∃ s, GoodS s ∧ LocM 25 [.agg [.isl (p.map rlA)], .isl (l.map acA)] s.a := by
  obtain ⟨i, e, hc⟩ : ∃ i e, chkP p = (i, e) := ⟨_, _, rfl⟩
  by_cases h : e = 0
  · subst h; exact .inr ⟨_, good_run (good_new (by rw [hc])), k_made hc hl⟩
  · exact .inl (k_made_no hc h)
end
end Go.Proofs.Ytjlbfijjfjogiaa
