/-
  Write, Read, Kind of both systems over the plain state.
-/
import Derived.Test.YtjlbfijjfjogiaaTf
set_option linter.unusedSimpArgs false
set_option linter.unusedVariables false
namespace Go.Pol
open Go.Am
theorem q64 {t : Nat} (h : t < 100000) : IntKind.i64.wrap (((t : Nat) : Int).tdiv 64) = ((t / 64 : Nat) : Int) := quo64 (a := (t : Nat)) (by omega) (by omega)
theorem m64 {t : Nat} : ((t : Nat) : Int).tmod 64 = ((t % 64 : Nat) : Int) := rem64 (a := (t : Nat)) (by omega)
theorem plain_vb {v : Int} {b : Bool} {e : Int} : ∀ x ∈ [AV.int .i64 v, .bool b, .int .i64 e], Plain x := fun x hx => by
  simp only [List.mem_cons, List.not_mem_nil, or_false] at hx
  rcases hx with rfl | rfl | rfl
  · exact plain_int
  · exact plain_bool
  · exact plain_int
theorem kind_plain {s : Sy} {a : Int} : ∀ x ∈ s.kind a, Plain x := by unfold Sy.kind; split <;> exact plain_vb
end Go.Pol
namespace Go.Proofs.Ytjlbfijjfjogiaa
open Go Go.Am Go.Pol
theorem wtw {p q : Prop} (hq : q) (h : HidP q → p := by (intro hQz; ((repeat' ((try (conv => whnf)); first | (with_reducible first | refine run_cons ?_ | refine runq_cons ?_ | refine code_seq ?_ | refine code_reg ?_ | refine code_cond ?_ | refine run_nil ?_ | refine runq_nil ?_ | refine rund_op rfl ?_ | refine rund_nil ?_ | refine code_block ?_ | refine code_skip ?_ | refine code_exit ?_ | refine code_ret ?_ | refine code_range ?_ | refine rund_fast (by decide +kernel) ?_ | refine rund_slow (by decide +kernel) ?_ | refine br_tt ?_ | refine br_ff ?_ | refine br_n ?_ | refine br_and ?_ | refine br_or ?_ | refine br_t (by assumption) ?_ | refine br_f (by assumption) ?_ | refine eq_i64 (by omega) ?_ | refine el_tn ?_) | ((with_reducible refine br_dt ?_ ?_); focus omega) | ((with_reducible refine br_df ?_ ?_); focus omega) | ((with_reducible apply br_dq hQz) <;> (try intro hsp hQz)) | ((with_reducible refine ck_x ?_ ?_); focus (first | omega | rfl | assumption | decide | (simp only [List.length_map, List.length_cons, List.length_nil]; omega))) | (with_reducible first | refine eq_tn ?_ | refine eq_tn1 ?_ | refine eq_tn2 ?_ | refine eq_m1 ?_ | refine eq_m2 ?_ | refine eq_zm ?_ | refine eq_z ?_ | refine len_map ?_ | refine len_sl ?_ | refine len_nils ?_ | refine len_own' ?_ | refine len_isl ?_ | refine eq_u8 (by omega) ?_ | refine eq_u16 (by omega) ?_) | refine nthK_of (by with_reducible assumption) ?_ | refine nthK_of sys_made ?_ | refine eq_of (by with_reducible assumption) ?_ | refine set1K_of (by rw [sys_len]; omega) (by with_reducible assumption) ?_ | refine set1K_of (by rw [ref_len]; omega) (by with_reducible assumption) ?_ | (with_reducible first | refine eq_rfl ?_ | refine ChkX.mk (by kernel_rfl) ?_ | refine code_q rfl ?_ | refine code_d (by decide +kernel) ?_ | refine end_go rfl ?_) | refine cx_locS (by assumption) rfl (by omega) ?_ | refine dcx_locS (by assumption) rfl rfl ?_ | refine cx_pureS (by assumption) ?_ | refine dcx_pureS (by assumption) ?_ | refine qcx_pureS (by assumption) ?_ | (refine cx_in hmix b47 rfl ?_; unfold c47) | (refine cx_in hmix b50 rfl ?_; unfold c50) | (refine cx_in hmix b83 rfl ?_; unfold c83) | refine len_map ?_ | refine len_isl ?_ | refine el_of rfl rfl ?_ | refine del_own ?_ | refine del_own' rfl ?_ | refine as_go rfl ?_ | refine rd_go rfl ?_ | refine rg_end rfl ?_ | refine flat_ownX ?_ | refine EqLX.mk ?_ | ((with_reducible apply br_bq hQz) <;> (try intro hsp hQz)) | exact hQz.out)) <;> (try (conv => whnf))))) : p := h ⟨hq⟩
section
variable {s : Sy} {a b : Int}
theorem plain_wr {a b : Int} : ∀ x ∈ [AV.int .i64 a, .int .u8 b], Plain x := plain_2 plain_int plain_int
set_option maxHeartbeats 400000 in
theorem p_write : LocS 28 [.int .i64 a, .int .u8 b] s.a (.int .i64 (s.write a b).1) (s.write a b).2.a := by
  refine LocS.mk (loc_x hmix b28 rfl ?_) a_plain a_plain plain_wr plain_int
  unfold c28
  unfold Sy.write
  by_cases h1 : a < 0 ∨ 65536 ≤ a
  · rw [if_pos h1]; unfold Sy.a
    (refine wtw ?_; repeat' (first | with_reducible refine And.intro ?_ ?_ | intro hsp))
    all_goals first | exact end_s rfl plain_int rfl (sys_plain stA_plain) | (exfalso; omega)
  · rw [if_neg h1]
    obtain ⟨t, rfl⟩ : ∃ t : Nat, a = (t : Nat) := ⟨a.toNat, by omega⟩
    simp only [Int.toNat_natCast]
    have hw := q64 (t := t) (by omega)
    have hr := m64 (t := t)
    have hk : (sysB s.K s.M s.B (stA s.l s.C s.H))[1 + t / 64 * 66 + 0]? = some (.int .i64 (s.K (t / 64))) := sys_kind (by omega)
    by_cases h2 : s.K (t / 64) = 2
    · rw [if_pos h2]
      have hs : (sysB s.K s.M s.B (stA s.l s.C s.H)).set (1 + t / 64 * 66 + 2 + t % 64) (.int .u8 b) = sysB s.K s.M (updP s.B (t / 64) (updI (s.B (t / 64)) (t % 64) b)) (stA s.l s.C s.H) := sys_setByte (by omega) (by omega)
      unfold Sy.a
      (refine wtw ?_; repeat' (first | with_reducible refine And.intro ?_ ?_ | intro hsp))
      all_goals first | exact end_s rfl plain_int rfl (sys_plain stA_plain) | (exfalso; omega) | trace_state
    · rw [if_neg h2]
      unfold Sy.a
      (refine wtw ?_; repeat' (first | with_reducible refine And.intro ?_ ?_ | intro hsp))
      all_goals first | exact end_s rfl plain_int rfl (sys_plain stA_plain) | (exfalso; exact absurd (by assumption) h2) | (exfalso; exact h2 (by assumption)) | trace_state
set_option maxHeartbeats 400000 in
theorem q_write : LocS 61 [.int .i64 a, .int .u8 b] s.b (.int .i64 (s.write a b).1) (s.write a b).2.b := by
  refine LocS.mk (loc_x hmix b61 rfl ?_) b_plain b_plain plain_wr plain_int
  unfold c61
  unfold Sy.write
  by_cases h1 : a < 0 ∨ 65536 ≤ a
  · rw [if_pos h1]; unfold Sy.b
    (refine wtw ?_; repeat' (first | with_reducible refine And.intro ?_ ?_ | intro hsp))
    all_goals first | exact end_s rfl plain_int rfl (rfk_plain stA_plain) | (exfalso; omega)
  · rw [if_neg h1]
    obtain ⟨t, rfl⟩ : ∃ t : Nat, a = (t : Nat) := ⟨a.toNat, by omega⟩
    simp only [Int.toNat_natCast]
    have hw := q64 (t := t) (by omega)
    have hr := m64 (t := t)
    have hk : (refK s.K s.G s.B (stA s.l s.C s.H))[t / 64]? = some (.int .i64 (s.K (t / 64))) := rfk_kind (by omega)
    by_cases h2 : s.K (t / 64) = 2
    · rw [if_pos h2]
      have hs : (refK s.K s.G s.B (stA s.l s.C s.H)).set (1088 + t / 64 * 64 + t % 64) (.int .u8 b) = refK s.K s.G (updP s.B (t / 64) (updI (s.B (t / 64)) (t % 64) b)) (stA s.l s.C s.H) := rfk_setByte (by omega) (by omega)
      unfold Sy.b
      (refine wtw ?_; repeat' (first | with_reducible refine And.intro ?_ ?_ | intro hsp))
      all_goals first | exact end_s rfl plain_int rfl (rfk_plain stA_plain) | (exfalso; omega) | trace_state
    · rw [if_neg h2]
      unfold Sy.b
      (refine wtw ?_; repeat' (first | with_reducible refine And.intro ?_ ?_ | intro hsp))
      all_goals first | exact end_s rfl plain_int rfl (rfk_plain stA_plain) | (exfalso; exact absurd (by assumption) h2) | (exfalso; exact h2 (by assumption)) | trace_state
theorem plain_tui {v e : Int} : Plain (.tup [.int .u8 v, .int .i64 e]) := plain_tup (plain_2 plain_int plain_int)
set_option maxHeartbeats 400000 in
theorem p_read : LocS 16 [.int .i64 a] s.a (.tup [.int .u8 (s.read a).1, .int .i64 (s.read a).2]) s.a := by
  refine LocS.mk (loc_x hmix b16 rfl ?_) a_plain a_plain (plain_1 plain_int) plain_tui
  unfold c16
  unfold Sy.read
  by_cases h1 : a < 0 ∨ 65536 ≤ a
  · rw [if_pos h1]; unfold Sy.a
    (refine wtw ?_; repeat' (first | with_reducible refine And.intro ?_ ?_ | intro hsp))
    all_goals first | exact end_s rfl plain_tui rfl (sys_plain stA_plain) | (exfalso; omega)
  · rw [if_neg h1]
    obtain ⟨t, rfl⟩ : ∃ t : Nat, a = (t : Nat) := ⟨a.toNat, by omega⟩
    simp only [Int.toNat_natCast]
    have hw := q64 (t := t) (by omega)
    have hr := m64 (t := t)
    have hk : (sysB s.K s.M s.B (stA s.l s.C s.H))[1 + t / 64 * 66 + 0]? = some (.int .i64 (s.K (t / 64))) := sys_kind (by omega)
    by_cases h2 : s.K (t / 64) = 2
    · rw [if_pos h2]
      have hs : (sysB s.K s.M s.B (stA s.l s.C s.H))[1 + t / 64 * 66 + 2 + t % 64]? = some (.int .u8 (s.B (t / 64) (t % 64))) := sys_byte (by omega) (by omega)
      unfold Sy.a
      (refine wtw ?_; repeat' (first | with_reducible refine And.intro ?_ ?_ | intro hsp))
      all_goals first | exact end_s rfl plain_tui rfl (sys_plain stA_plain) | (exfalso; omega) | trace_state
    · rw [if_neg h2]
      unfold Sy.a
      (refine wtw ?_; repeat' (first | with_reducible refine And.intro ?_ ?_ | intro hsp))
      all_goals first | exact end_s rfl plain_tui rfl (sys_plain stA_plain) | (exfalso; exact absurd (by assumption) h2) | (exfalso; exact h2 (by assumption)) | trace_state
set_option maxHeartbeats 400000 in
theorem q_read : LocS 62 [.int .i64 a] s.b (.tup [.int .u8 (s.read a).1, .int .i64 (s.read a).2]) s.b := by
  refine LocS.mk (loc_x hmix b62 rfl ?_) b_plain b_plain (plain_1 plain_int) plain_tui
  unfold c62
  unfold Sy.read
  by_cases h1 : a < 0 ∨ 65536 ≤ a
  · rw [if_pos h1]; unfold Sy.b
    (refine wtw ?_; repeat' (first | with_reducible refine And.intro ?_ ?_ | intro hsp))
    all_goals first | exact end_s rfl plain_tui rfl (rfk_plain stA_plain) | (exfalso; omega)
  · rw [if_neg h1]
    obtain ⟨t, rfl⟩ : ∃ t : Nat, a = (t : Nat) := ⟨a.toNat, by omega⟩
    simp only [Int.toNat_natCast]
    have hw := q64 (t := t) (by omega)
    have hr := m64 (t := t)
    have hk : (refK s.K s.G s.B (stA s.l s.C s.H))[t / 64]? = some (.int .i64 (s.K (t / 64))) := rfk_kind (by omega)
    by_cases h2 : s.K (t / 64) = 2
    · rw [if_pos h2]
      have hs : (refK s.K s.G s.B (stA s.l s.C s.H))[1088 + t / 64 * 64 + t % 64]? = some (.int .u8 (s.B (t / 64) (t % 64))) := rfk_byte (by omega) (by omega)
      unfold Sy.b
      (refine wtw ?_; repeat' (first | with_reducible refine And.intro ?_ ?_ | intro hsp))
      all_goals first | exact end_s rfl plain_tui rfl (rfk_plain stA_plain) | (exfalso; omega) | trace_state
    · rw [if_neg h2]
      unfold Sy.b
      (refine wtw ?_; repeat' (first | with_reducible refine And.intro ?_ ?_ | intro hsp))
      all_goals first | exact end_s rfl plain_tui rfl (rfk_plain stA_plain) | (exfalso; exact absurd (by assumption) h2) | (exfalso; exact h2 (by assumption)) | trace_state
set_option maxHeartbeats 400000 in
theorem p_kind : LocS 17 [.int .i64 a] s.a (.tup (s.kind a)) s.a := by
  refine LocS.mk (loc_x hmix b17 rfl ?_) a_plain a_plain (plain_1 plain_int) (plain_tup kind_plain)
  unfold c17
  unfold Sy.kind
  by_cases h1 : a < 0 ∨ 1024 ≤ a
  · rw [if_pos h1]; unfold Sy.a
    (refine wtw ?_; repeat' (first | with_reducible refine And.intro ?_ ?_ | intro hsp))
    all_goals first | exact end_s rfl (plain_tup plain_vb) rfl (sys_plain stA_plain) | (exfalso; omega)
  · rw [if_neg h1]
    obtain ⟨t, rfl⟩ : ∃ t : Nat, a = (t : Nat) := ⟨a.toNat, by omega⟩
    simp only [Int.toNat_natCast]
    have hk : (sysB s.K s.M s.B (stA s.l s.C s.H))[1 + t * 66 + 0]? = some (.int .i64 (s.K t)) := sys_kind (by omega)
    have hh : (sysB s.K s.M s.B (stA s.l s.C s.H))[1 + t * 66 + 1]? = some (.bool (s.M t)) := sys_huge (by omega)
    unfold Sy.a
    (refine wtw ?_; repeat' (first | with_reducible refine And.intro ?_ ?_ | intro hsp))
    all_goals first | exact end_s rfl (plain_tup plain_vb) rfl (sys_plain stA_plain) | (exfalso; omega) | trace_state
set_option maxHeartbeats 400000 in
theorem q_kind : LocS 63 [.int .i64 a] s.b (.tup (s.kind a)) s.b := by
  refine LocS.mk (loc_x hmix b63 rfl ?_) b_plain b_plain (plain_1 plain_int) (plain_tup kind_plain)
  unfold c63
  unfold Sy.kind
  have hp := r_page a
  by_cases h1 : a < 0 ∨ 1024 ≤ a
  · rw [decide_eq_false (by omega)] at hp
    rw [if_pos h1]; unfold Sy.b
    (refine wtw ?_; repeat' (first | with_reducible refine And.intro ?_ ?_ | intro hsp))
    all_goals first | exact end_s rfl (plain_tup plain_vb) rfl (rfk_plain stA_plain) | (exfalso; omega)
  · rw [decide_eq_true (by omega)] at hp
    rw [if_neg h1]
    obtain ⟨t, rfl⟩ : ∃ t : Nat, a = (t : Nat) := ⟨a.toNat, by omega⟩
    simp only [Int.toNat_natCast]
    have hw := quo16 (q := t) (by omega)
    have hk : (refK s.K s.G s.B (stA s.l s.C s.H))[t]? = some (.int .i64 (s.K t)) := rfk_kind (by omega)
    have hh : (refK s.K s.G s.B (stA s.l s.C s.H))[1024 + t / 16]? = some (.bool (s.M t)) := rfk_huge (by omega)
    unfold Sy.b
    (refine wtw ?_; repeat' (first | with_reducible refine And.intro ?_ ?_ | intro hsp))
    all_goals first | exact end_s rfl (plain_tup plain_vb) rfl (rfk_plain stA_plain) | (exfalso; omega) | trace_state
end
end Go.Proofs.Ytjlbfijjfjogiaa
