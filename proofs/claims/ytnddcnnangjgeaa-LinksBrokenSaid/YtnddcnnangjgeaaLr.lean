/-
  Closed calls: the law's examples, and what a pool that is nil answers; Same.
-/
import Derived.Test.YtnddcnnangjgeaaLq
import Derived.Test.YtnddcnnangjgeaaAmSev
import Derived.KernelRfl
set_option linter.unusedSimpArgs false
set_option linter.unusedVariables false
namespace Go.Am
end Go.Am
namespace Go.Proofs.Ytnddcnnangjgeaa
open Go Go.Am Go.Pol
theorem awake_run : isTrue (callE tab G0 (99 + 1) (.fn 18 [] []) [] ⟨[], 0⟩) = true := by kernel_rfl
theorem k_awake : PureC Try.prog G0 18 [] (.bool true) := closed_true hmix tab_ok orcOk_none plainG rfl awake_run
theorem plain_intsL {n : Nat} {F : Nat → Int} : Plain (intsL n F) := plain_isl fun e he => by
  obtain ⟨i, _, rfl⟩ := List.mem_map.1 he
  exact fun x hx => by obtain rfl := List.mem_singleton.1 hx; exact plain_int
theorem plain_stateLk {n m : Nat} {V L N P A B : Nat → Int} : Plain (stateLk n m V L N P A B) := plain_agg fun x hx => by
  simp only [List.mem_cons, List.not_mem_nil, or_false] at hx
  rcases hx with rfl | rfl | rfl | rfl | rfl | rfl <;> exact plain_intsL
theorem k_sameL (n : Nat) (F : Nat → Int) (hn : n ≤ 8000) : PureC Try.prog G0 11 [intsL n F, intsL n F] (.bool true) := by
  have h := k_sameInts ((List.range n).map F) (by simp; omega)
  rw [List.map_map] at h
  exact h
theorem k_same (n m : Nat) (V L N P A B : Nat → Int) (hn : n ≤ 8000) (hm : m ≤ 64) : PureC Try.prog G0 23 [stateLk n m V L N P A B, stateLk n m V L N P A B] (.bool true) := by
  have h1 := k_sameL n V hn
  have h2 := k_sameL n L hn
  have h3 := k_sameL n N hn
  have h4 := k_sameL n P hn
  have h5 := k_sameL m A (by omega)
  have h6 := k_sameL m B (by omega)
  refine pure_x hmix b23 plainG ⟨plain_stateLk, plain_stateLk, trivial⟩ plain_bool rfl ?_
  unfold c23 stateLk
  ((repeat' ((try (conv => whnf)); first | (with_reducible first | refine run_cons ?_ | refine runq_cons ?_ | refine code_seq ?_ | refine code_reg ?_ | refine code_cond ?_ | refine run_nil ?_ | refine runq_nil ?_ | refine rund_op rfl ?_ | refine rund_nil ?_ | refine code_block ?_ | refine code_skip ?_ | refine code_exit ?_ | refine code_ret ?_ | refine code_range ?_ | refine rund_fast (by decide +kernel) ?_ | refine rund_slow (by decide +kernel) ?_ | refine br_tt ?_ | refine br_ff ?_ | refine br_n ?_ | refine br_and ?_ | refine br_or ?_ | refine br_t (by assumption) ?_ | refine br_f (by assumption) ?_ | refine eq_i64 (by omega) ?_ | refine el_tn ?_) | (with_reducible refine br_d ?_ ?_ <;> intro hsp <;> first | (exfalso; omega) | skip) | ((with_reducible refine ck_x ?_ ?_); focus (first | omega | rfl | assumption | decide | (simp only [List.length_map, List.length_cons, List.length_nil]; omega))) | (with_reducible first | refine eq_tn ?_ | refine eq_tn1 ?_ | refine eq_tn2 ?_ | refine eq_m1 ?_ | refine eq_m2 ?_ | refine eq_zm ?_ | refine eq_z ?_ | refine len_map ?_ | refine len_sl ?_ | refine len_nils ?_ | refine len_own' ?_ | refine len_isl ?_ | refine eq_u8 (by omega) ?_ | refine eq_u16 (by omega) ?_) | (with_reducible first | refine eq_rfl ?_ | refine ChkX.mk (by kernel_rfl) ?_ | refine code_q rfl ?_ | refine code_d (by decide +kernel) ?_ | refine end_go rfl ?_) | refine cx_pure (h1) ?_ | refine qcx (h1) ?_ | refine dcx_pure (h1) ?_ | refine cx_pure (h2) ?_ | refine qcx (h2) ?_ | refine dcx_pure (h2) ?_ | refine cx_pure (h3) ?_ | refine qcx (h3) ?_ | refine dcx_pure (h3) ?_ | refine cx_pure (h4) ?_ | refine qcx (h4) ?_ | refine dcx_pure (h4) ?_ | refine cx_pure (h5) ?_ | refine qcx (h5) ?_ | refine dcx_pure (h5) ?_ | refine cx_pure (h6) ?_ | refine qcx (h6) ?_ | refine dcx_pure (h6) ?_ | refine len_map ?_ | refine len_isl ?_ | refine el_of rfl rfl ?_ | refine del_own ?_ | refine del_own' rfl ?_ | refine as_go rfl ?_ | refine rd_go rfl ?_ | refine rg_end rfl ?_ | refine flat_ownX ?_ | (with_reducible refine br_b ?_ ?_ <;> intro hsp))) <;> (try (conv => whnf)))
  all_goals exact end_bool rfl
end Go.Proofs.Ytnddcnnangjgeaa
