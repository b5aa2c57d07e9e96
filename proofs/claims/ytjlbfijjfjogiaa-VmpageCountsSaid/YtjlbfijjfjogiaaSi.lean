/-
  Join and Split of the program.
-/
import Derived.Test.YtjlbfijjfjogiaaSh
set_option linter.unusedSimpArgs false
set_option linter.unusedVariables false
namespace Go.Pol
/-- Is that the first page of a group? -/
def fst (x : Int) : Prop := 0 ≤ x ∧ x < 1024 ∧ x.tmod 16 = 0
instance (x : Int) : Decidable (fst x) := by unfold fst; infer_instance
end Go.Pol
namespace Go.Proofs.Ytjlbfijjfjogiaa
open Go Go.Am Go.Pol
theorem wf {p q : Prop} (hq : q) (h : HidP q → p := by (intro hQz; ((repeat' ((try (conv => whnf)); first | (with_reducible first | refine run_cons ?_ | refine runq_cons ?_ | refine code_seq ?_ | refine code_reg ?_ | refine code_cond ?_ | refine run_nil ?_ | refine runq_nil ?_ | refine rund_op rfl ?_ | refine rund_nil ?_ | refine code_block ?_ | refine code_skip ?_ | refine code_exit ?_ | refine code_ret ?_ | refine code_range ?_ | refine rund_fast (by decide +kernel) ?_ | refine rund_slow (by decide +kernel) ?_ | refine br_tt ?_ | refine br_ff ?_ | refine br_n ?_ | refine br_and ?_ | refine br_or ?_ | refine br_t (by assumption) ?_ | refine br_f (by assumption) ?_ | refine eq_i64 (by omega) ?_ | refine el_tn ?_) | ((with_reducible refine br_dt ?_ ?_); focus omega) | ((with_reducible refine br_df ?_ ?_); focus omega) | ((with_reducible apply br_dq hQz) <;> (try intro hsp hQz)) | ((with_reducible refine ck_x ?_ ?_); focus (first | omega | rfl | assumption | decide | (simp only [List.length_map, List.length_cons, List.length_nil]; omega))) | (with_reducible first | refine eq_tn ?_ | refine eq_tn1 ?_ | refine eq_tn2 ?_ | refine eq_m1 ?_ | refine eq_m2 ?_ | refine eq_zm ?_ | refine eq_z ?_ | refine len_map ?_ | refine len_sl ?_ | refine len_nils ?_ | refine len_own' ?_ | refine len_isl ?_ | refine eq_u8 (by omega) ?_ | refine eq_u16 (by omega) ?_) | refine nthK_of sys_made ?_ | refine nthK_of (by with_reducible assumption) ?_ | refine eq_of (by with_reducible assumption) ?_ | (with_reducible first | refine eq_rfl ?_ | refine ChkX.mk (by kernel_rfl) ?_ | refine code_q rfl ?_ | refine code_d (by decide +kernel) ?_ | refine end_go rfl ?_) | refine cx_pureS (by assumption) ?_ | refine dcx_pureS (by assumption) ?_ | refine qcx_pureS (by assumption) ?_ | refine cx_locS (by assumption) rfl (by omega) ?_ | (refine cx_in hmix b47 rfl ?_; unfold c47) | refine len_map ?_ | refine len_isl ?_ | refine el_of rfl rfl ?_ | refine del_own ?_ | refine del_own' rfl ?_ | refine as_go rfl ?_ | refine rd_go rfl ?_ | refine rg_end rfl ?_ | refine flat_ownX ?_ | refine EqLX.mk ?_ | ((with_reducible apply br_bq hQz) <;> (try intro hsp hQz)) | exact hQz.out)) <;> (try (conv => whnf))))) : p := h ⟨hq⟩
section
variable {K : Nat → Int} {M G : Nat → Bool} {B : Nat → Nat → Int} {P ds : List AV} {r : AV}
theorem k_first (x : Int) : PureS 39 [.int .i64 x] (.bool (decide (fst x))) := by
  refine PureS.mk (pure_x hmix b39 plainG ⟨plain_int, trivial⟩ plain_bool rfl ?_)
  unfold c39
  (refine wf ?_; repeat' (first | with_reducible refine And.intro ?_ ?_ | intro hsp))
  all_goals exact end_bool (by simp [fst, *])
set_option maxHeartbeats 1600000 in
theorem k_join_range (hP : ∀ x ∈ P, Plain x) {a : Int} (h : ¬ fst a) : LocS 51 [.int .i64 a] (sysB K M B P) (.int .i64 7) (sysB K M B P) := by
  refine LocS.mk (loc_x hmix b51 rfl ?_) (sys_plain hP) (sys_plain hP) (plain_1 plain_int) plain_int
  have z := k_first a
  rw [decide_eq_false h] at z
  unfold c51
  (refine wf ?_; repeat' (first | with_reducible refine And.intro ?_ ?_ | intro hsp))
  all_goals exact end_s rfl plain_int rfl (sys_plain hP)
set_option maxHeartbeats 1600000 in
theorem k_join_twice (hP : ∀ x ∈ P, Plain x) {a : Nat} (h : fst a) (hm : M a = true) : LocS 51 [.int .i64 a] (sysB K M B P) (.int .i64 8) (sysB K M B P) := by
  refine LocS.mk (loc_x hmix b51 rfl ?_) (sys_plain hP) (sys_plain hP) (plain_1 plain_int) plain_int
  have z := k_first a
  have ha := h.2.1
  rw [decide_eq_true h] at z
  have hh : (sysB K M B P)[1 + (a : Nat) * 66 + 1]? = some (.bool (M a)) := sys_huge (by omega)
  rw [hm] at hh
  have hh' : (sysB K M B P)[1 + ((a : Int)).toNat * 66 + 1]? = some (.bool true) := hh
  unfold c51
  (refine wf ?_; repeat' (first | with_reducible refine And.intro ?_ ?_ | intro hsp))
  all_goals first | exact end_s rfl plain_int rfl (sys_plain hP) | skip
set_option maxHeartbeats 1600000 in
theorem k_join (hP : ∀ x ∈ P, Plain x) {a : Nat} (h : fst a) (hm : M a = false) (hq : LocS 66 [.int .i64 (a : Nat), .int .i64 16, .agg [.int .i64 5, .fn 79 [] [], .fn 80 [] []]] (sysB K M B P) r ds) : LocS 51 [.int .i64 a] (sysB K M B P) r ds := by
  refine LocS.mk (loc_x hmix b51 rfl ?_) (sys_plain hP) hq.pd (plain_1 plain_int) hq.pr
  have z := k_first a
  have ha := h.2.1
  rw [decide_eq_true h] at z
  have hh : (sysB K M B P)[1 + (a : Nat) * 66 + 1]? = some (.bool (M a)) := sys_huge (by omega)
  rw [hm] at hh
  have hh' : (sysB K M B P)[1 + ((a : Int)).toNat * 66 + 1]? = some (.bool false) := hh
  unfold c51
  (refine wf ?_; repeat' (first | with_reducible refine And.intro ?_ ?_ | intro hsp))
  all_goals first | exact end_s rfl hq.pr rfl hq.pd | skip
set_option maxHeartbeats 1600000 in
theorem k_split_range (hP : ∀ x ∈ P, Plain x) {a : Int} (h : ¬ fst a) : LocS 33 [.int .i64 a] (sysB K M B P) (.int .i64 7) (sysB K M B P) := by
  refine LocS.mk (loc_x hmix b33 rfl ?_) (sys_plain hP) (sys_plain hP) (plain_1 plain_int) plain_int
  have z := k_first a
  rw [decide_eq_false h] at z
  unfold c33
  (refine wf ?_; repeat' (first | with_reducible refine And.intro ?_ ?_ | intro hsp))
  all_goals exact end_s rfl plain_int rfl (sys_plain hP)
set_option maxHeartbeats 1600000 in
theorem k_split (hP : ∀ x ∈ P, Plain x) {a : Nat} (h : fst a) (hq : LocS 66 [.int .i64 (a : Nat), .int .i64 16, .agg [.int .i64 6, .fn 71 [] [], .fn 72 [] []]] (sysB K M B P) r ds) : LocS 33 [.int .i64 a] (sysB K M B P) r ds := by
  refine LocS.mk (loc_x hmix b33 rfl ?_) (sys_plain hP) hq.pd (plain_1 plain_int) hq.pr
  have z := k_first a
  rw [decide_eq_true h] at z
  unfold c33
  (refine wf ?_; repeat' (first | with_reducible refine And.intro ?_ ?_ | intro hsp))
  all_goals first | exact end_s rfl hq.pr rfl hq.pd | skip
end
end Go.Proofs.Ytjlbfijjfjogiaa
