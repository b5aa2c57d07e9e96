/-
  The program's Load of what was saved; calls with and without refusals.
-/
import Derived.Test.YtjlbfijjfjogiaaVmJ
import Derived.Test.YtjlbfijjfjogiaaUk
import Derived.Test.YtjlbfijjfjogiaaUj
set_option linter.unusedSimpArgs false
set_option linter.unusedVariables false
namespace Go.Pol
open Go.Am
theorem runs_wf {K : Nat → Int} (hk : ∀ p, 0 ≤ K p ∧ K p ≤ 3) : ∀ n, ∀ r, r ∈ runsTo K n → (0 ≤ r.p ∧ r.p ≤ (n : Nat)) ∧ (0 ≤ r.n ∧ r.n ≤ (n : Nat)) ∧ (0 ≤ r.k ∧ r.k ≤ 3)
  | 0, r, h => by cases h
  | n + 1, r, h => by
    have ih := runs_wf hk n
    have hkn := hk n
    have e : runsTo K (n + 1) = if K n = 0 then runsTo K n else if 0 < n ∧ K (n - 1) = K n then bump (runsTo K n) else runsTo K n ++ [⟨(n : Nat), 1, K n⟩] := rfl
    rw [e] at h
    split at h
    · have := ih r h; omega
    · rename_i h0
      split at h
      · rename_i h1
        obtain ⟨L, m, e, m1, m2⟩ := runs_last (K := K) h1.1 (by rw [h1.2]; exact h0)
        rw [e] at h ih
        rw [bump_app] at h
        rcases List.mem_append.1 h with h | h
        · have := ih r (List.mem_append_left _ h); omega
        · obtain rfl := List.mem_singleton.1 h
          have := ih _ (List.mem_append_right _ (List.mem_singleton.2 rfl))
          dsimp only at this ⊢
          omega
      · rcases List.mem_append.1 h with h | h
        · have := ih r h; omega
        · obtain rfl := List.mem_singleton.1 h
          dsimp only; omega
theorem GoodS.pg {s : Sy} (h : GoodS s) : Pg s := ⟨h.kind, h.huge, h.zero, h.cK, h.cB⟩
/-- A call with refusals, beside one without. -/
def Free (s : Sy) (k : Nat) (r r' : Int × Sy) : Prop :=
  (∃ e, e ≠ 0 ∧ r.1 = e ∧ r' = (e, s)) ∨ (r.1 = 0 ∧ ((isR s.l s.C k = true ∧ r' = (60, s.ref k)) ∨ (isR s.l s.C k = false ∧ ∃ s', r' = (0, s') ∧ s'.l = s.l ∧ s'.C = C1 s.C k ∧ s'.H = H1 s.l s.C s.H k)))
section
variable {s : Sy}
def Sy.free (s : Sy) : Sy := ⟨s.K, s.G, s.B, [], fun _ => 0, fun _ => 0⟩
def kds : List Nat := [0, 0, 1, 2, 2, 2, 3, 3, 4, 4, 5, 5, 6]
end
end Go.Pol
namespace Go.Proofs.Ytjlbfijjfjogiaa
open Go Go.Am Go.Pol
theorem p_load {s : Sy} (hg : GoodS s) : LocN 12 [.agg (vsA s.save)] 0 s.a := by
  have h := p_loadC (R := runsTo s.K 1024) (U := hugeTo s.G 1024) (D := dataTo s.B 1024) hg.hv (fun r hr => by have := runs_wf hg.kind _ r hr; unfold W64; omega) (Nat.le_trans runs_len (by decide)) (Nat.le_trans huge_len (by decide)) (Nat.le_trans data_len (by decide))
  have e : ldP ⟨runsTo s.K 1024, hugeTo s.G 1024, dataTo s.B 1024, s.l, s.C, s.H⟩ = some s := ld_save hg.pg
  rw [e] at h
  exact LocN.mk h a_plain (plain_1 plain_vs)
end Go.Proofs.Ytjlbfijjfjogiaa
