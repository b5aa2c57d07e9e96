/-
  VmpageCounts.
-/
import Derived.Test.YtjlbfijjfjogiaaUh
import Derived.Test.YtjlbfijjfjogiaaUb
set_option linter.unusedSimpArgs false
set_option linter.unusedVariables false
namespace Go.Pol
open Go.Am
def cntQ (G : Nat → Bool) : Nat → Nat
  | 0 => 0
  | n + 1 => cntQ G n + if G (n / 16) = true then 1 else 0
theorem kind_in {s : Sy} {i : Nat} (h : i < 1024) : s.kind (i : Nat) = [.int .i64 (s.K i), .bool (s.M i), .int .i64 0] := by
  unfold Sy.kind
  rw [if_neg (by omega), Int.toNat_natCast]
end Go.Pol
namespace Go.Proofs.Ytjlbfijjfjogiaa
open Go Go.Am Go.Pol
section
variable {p : List Rl} {l : List Ac}
theorem long_ex (p : List Rl) {l : List Ac} (hl : l.length ≤ 1000) : ∃ b, PureS 20 [.agg [.isl (p.map rlA)], .isl (l.map acA)] (.bool b) := by
  by_cases h : 60 < p.length
  · exact ⟨_, k_long_p h⟩
  · by_cases h2 : isLong p l
    · exact ⟨true, k_long ⟨fun _ => h2, fun _ => rfl⟩ hl (by omega)⟩
    · exact ⟨false, k_long ⟨fun e => (by cases e), fun e => absurd e h2⟩ hl (by omega)⟩
theorem long_nil {l : List Ac} (hl : l.length ≤ 1000) : ∃ b, PureS 20 [.agg [.nils], .isl (l.map acA)] (.bool b) := by
  obtain ⟨b, h⟩ := long_ex [] hl
  exact ⟨b, PureS.mk (h.out.weak (WkAs.args ⟨wk_pl, wkA_rfl, trivial⟩))⟩
theorem made_nil {l : List Ac} (hl : l.length ≤ 1000) : ∃ s, GoodS s ∧ LocM 25 [.agg [.nils], .isl (l.map acA)] s.a :=
  ⟨_, good_run (good_new (l := []) rfl), (k_made (p := []) (i := (chkP []).1) rfl hl).weak ⟨wk_pl, wkA_rfl, trivial⟩ (plain_2 plain_npl plain_acs)⟩
end
end Go.Proofs.Ytjlbfijjfjogiaa
