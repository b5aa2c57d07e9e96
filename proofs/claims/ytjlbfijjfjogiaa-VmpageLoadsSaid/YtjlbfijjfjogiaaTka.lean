/-
  Save of the document: its end, and free pages.
-/
import Derived.Test.YtjlbfijjfjogiaaTk
set_option linter.unusedSimpArgs false
set_option linter.unusedVariables false
namespace Go.Proofs.Ytjlbfijjfjogiaa
open Go Go.Am Go.Pol
section
variable {s : Sy} {o : Nat} {ho : o = 66624} {hlen : s.l.length ≤ 100000} {p : Nat}
set_option maxHeartbeats 1600000 in
theorem rd_end (hp : p = 1024) : (skel s o ho hlen).1 p := by
  have hL0 := runs_len (K := s.K) (n := p)
  have hL1 := huge_len (G := s.G) (n := p)
  have hL2 := data_len (B := s.B2) (n := p)
  have hst := rfk_planO (K := s.K) (G := s.G) (B := s.B) ho (stA_len (l := s.l) (C := s.C) (H := s.H))
  have hru := rfk_rules (K := s.K) (G := s.G) (B := s.B) (l := s.l) (C := s.C) (H := s.H) ho
  subst hp
  unfold skel
  dsimp only
  (refine wtk ?_; repeat' (first | with_reducible refine And.intro ?_ ?_ | intro hsp))
  all_goals exact end_save3 (rfk_plain stA_plain)
set_option maxHeartbeats 1600000 in
theorem rd_free_h (hp4 : p < 1024) (h0 : s.K p = 0) (hu : p % 16 = 0 ∧ s.G (p / 16) = true) : (skel s o ho hlen).1 p := by
  have hL0 := runs_len (K := s.K) (n := p)
  have hL1 := huge_len (G := s.G) (n := p)
  have hL2 := data_len (B := s.B2) (n := p)
  have hst := rfk_planO (K := s.K) (G := s.G) (B := s.B) ho (stA_len (l := s.l) (C := s.C) (H := s.H))
  have hru := rfk_rules (K := s.K) (G := s.G) (B := s.B) (l := s.l) (C := s.C) (H := s.H) ho
  have hk : (refK s.K s.G s.B (stA s.l s.C s.H))[p]? = some (.int .i64 (s.K p)) := rfk_kind hp4
  have hh : (refK s.K s.G s.B (stA s.l s.C s.H))[1024 + p / 16]? = some (.bool (s.G (p / 16))) := rfk_huge (by omega)
  have hw16 := quo16 (q := p) (by omega)
  have ht16 : ((p : Nat) : Int).tmod 16 = ((p % 16 : Nat) : Int) := by rw [Int.tmod_eq_emod_of_nonneg (by omega)]; omega
  have hby := rfk_bytes (K := s.K) (G := s.G) (B := s.B) (P := stA s.l s.C s.H) hp4
  have hyl := by_len (s.B p)
  have hyz := eqL_by (s.B p)
  generalize hy : byA (s.B p) = y at hby hyl hyz
  have e0 : runsTo s.K (p + 1) = runsTo s.K p := if_pos h0
  have e2 := data_no (s := s) (p := p) fun h => by rw [h0] at h; exact absurd h.1 (by decide)
  have e1 : hugeTo s.G (p + 1) = hugeTo s.G p ++ [((p : Nat) : Int)] := if_pos hu
  rw [hu.2] at hh
  unfold skel
  dsimp only
  (refine wtk ?_; repeat' (first | with_reducible refine And.intro ?_ ?_ | intro hsp))
  all_goals exact next_x (p + 1) [(11, 14)] (by (try dsimp only); omega) (by first | omega | (dsimp only; omega)) rfl (by ((try dsimp only); rw [e0, e1, e2]); exact wkx_Tk)
set_option maxHeartbeats 1600000 in
theorem rd_free (hp4 : p < 1024) (h0 : s.K p = 0) (hu : ¬ (p % 16 = 0 ∧ s.G (p / 16) = true)) : (skel s o ho hlen).1 p := by
  have hL0 := runs_len (K := s.K) (n := p)
  have hL1 := huge_len (G := s.G) (n := p)
  have hL2 := data_len (B := s.B2) (n := p)
  have hst := rfk_planO (K := s.K) (G := s.G) (B := s.B) ho (stA_len (l := s.l) (C := s.C) (H := s.H))
  have hru := rfk_rules (K := s.K) (G := s.G) (B := s.B) (l := s.l) (C := s.C) (H := s.H) ho
  have hk : (refK s.K s.G s.B (stA s.l s.C s.H))[p]? = some (.int .i64 (s.K p)) := rfk_kind hp4
  have hh : (refK s.K s.G s.B (stA s.l s.C s.H))[1024 + p / 16]? = some (.bool (s.G (p / 16))) := rfk_huge (by omega)
  have hw16 := quo16 (q := p) (by omega)
  have ht16 : ((p : Nat) : Int).tmod 16 = ((p % 16 : Nat) : Int) := by rw [Int.tmod_eq_emod_of_nonneg (by omega)]; omega
  have hby := rfk_bytes (K := s.K) (G := s.G) (B := s.B) (P := stA s.l s.C s.H) hp4
  have hyl := by_len (s.B p)
  have hyz := eqL_by (s.B p)
  generalize hy : byA (s.B p) = y at hby hyl hyz
  have e0 : runsTo s.K (p + 1) = runsTo s.K p := if_pos h0
  have e2 := data_no (s := s) (p := p) fun h => by rw [h0] at h; exact absurd h.1 (by decide)
  have e1 : hugeTo s.G (p + 1) = hugeTo s.G p := if_neg hu
  unfold skel
  dsimp only
  by_cases h16 : p % 16 = 0
  · have hG : s.G (p / 16) = false := by
      cases h : s.G (p / 16) with
      | false => rfl
      | true => exact absurd ⟨h16, h⟩ hu
    rw [hG] at hh
    (refine wtk ?_; repeat' (first | with_reducible refine And.intro ?_ ?_ | intro hsp))
    all_goals exact next_x (p + 1) [] (by (try dsimp only); omega) (by first | omega | (dsimp only; omega)) rfl (by ((try dsimp only); rw [e0, e1, e2]); exact wkx_Tk)
  · (refine wtk ?_; repeat' (first | with_reducible refine And.intro ?_ ?_ | intro hsp))
    all_goals exact next_x (p + 1) [] (by (try dsimp only); omega) (by first | omega | (dsimp only; omega)) rfl (by ((try dsimp only); rw [e0, e1, e2]); exact wkx_Tk)
end
end Go.Proofs.Ytjlbfijjfjogiaa
