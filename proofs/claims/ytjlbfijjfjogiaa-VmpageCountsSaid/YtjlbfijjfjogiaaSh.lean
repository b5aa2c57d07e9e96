/-
  make for Join and Split.
-/
import Derived.Test.YtjlbfijjfjogiaaSg
set_option linter.unusedSimpArgs false
set_option linter.unusedVariables false
namespace Go.Proofs.Ytjlbfijjfjogiaa
open Go Go.Am Go.Pol
theorem wh {p q : Prop} (hq : q) (h : HidP q → p := by (intro hQz; ((repeat' ((try (conv => whnf)); first | (with_reducible first | refine run_cons ?_ | refine runq_cons ?_ | refine code_seq ?_ | refine code_reg ?_ | refine code_cond ?_ | refine run_nil ?_ | refine runq_nil ?_ | refine rund_op rfl ?_ | refine rund_nil ?_ | refine code_block ?_ | refine code_skip ?_ | refine code_exit ?_ | refine code_ret ?_ | refine code_range ?_ | refine rund_fast (by decide +kernel) ?_ | refine rund_slow (by decide +kernel) ?_ | refine br_tt ?_ | refine br_ff ?_ | refine br_n ?_ | refine br_and ?_ | refine br_or ?_ | refine br_t (by assumption) ?_ | refine br_f (by assumption) ?_ | refine eq_i64 (by omega) ?_ | refine el_tn ?_) | ((with_reducible refine br_dt ?_ ?_); focus omega) | ((with_reducible refine br_df ?_ ?_); focus omega) | ((with_reducible apply br_dq hQz) <;> (try intro hsp hQz)) | ((with_reducible refine ck_x ?_ ?_); focus (first | omega | rfl | assumption | decide | (simp only [List.length_map, List.length_cons, List.length_nil]; omega))) | (with_reducible first | refine eq_tn ?_ | refine eq_tn1 ?_ | refine eq_tn2 ?_ | refine eq_m1 ?_ | refine eq_m2 ?_ | refine eq_zm ?_ | refine eq_z ?_ | refine len_map ?_ | refine len_sl ?_ | refine len_nils ?_ | refine len_own' ?_ | refine len_isl ?_ | refine eq_u8 (by omega) ?_ | refine eq_u16 (by omega) ?_) | refine nthK_of sys_made ?_ | refine nthK_of (by with_reducible assumption) ?_ | refine eq_of (by with_reducible assumption) ?_ | (with_reducible first | refine eq_rfl ?_ | refine ChkX.mk (by kernel_rfl) ?_ | refine code_q rfl ?_ | refine code_d (by decide +kernel) ?_ | refine end_go rfl ?_) | refine cx_locS (by assumption) rfl (by omega) ?_ | (refine cx_in hmix b47 rfl ?_; unfold c47) | refine len_map ?_ | refine len_isl ?_ | refine el_of rfl rfl ?_ | refine del_own ?_ | refine del_own' rfl ?_ | refine as_go rfl ?_ | refine rd_go rfl ?_ | refine rg_end rfl ?_ | refine flat_ownX ?_ | refine EqLX.mk ?_ | ((with_reducible apply br_bq hQz) <;> (try intro hsp hQz)) | exact hQz.out)) <;> (try (conv => whnf))))) : p := h ⟨hq⟩
section
variable {K : Nat → Int} {M G : Nat → Bool} {B : Nat → Nat → Int} {l : List Rl} {C H : Nat → Int}
theorem plain_chg {a n k : Int} {f g : Nat} : ∀ x ∈ [AV.int .i64 a, .int .i64 n, .agg [.int .i64 k, .fn f [] [], .fn g [] []]], Plain x := fun x hx => by
  rcases List.mem_cons.1 hx with rfl | hx
  · exact plain_int
  · refine plain_2 plain_int (plain_agg fun y hy => ?_) x hx
    rcases List.mem_cons.1 hy with rfl | hy
    · exact plain_int
    · exact plain_2 plain_fn0 plain_fn0 y hy
set_option maxHeartbeats 1600000 in
theorem k_makeJ_down {a n k : Nat} (h1 : 1 ≤ n) (h2 : a + n ≤ 1024) (h : ¬ okC K a n) : LocS 66 [.int .i64 (a : Nat), .int .i64 (n : Nat), .agg [.int .i64 (k : Nat), .fn 79 [] [], .fn 80 [] []]] (sysB K M B (stA l C H)) (.int .i64 9) (sysB K M B (stA l C H)) := by
  refine LocS.mk (loc_x hmix b66 rfl ?_) (sys_plain stA_plain) (sys_plain stA_plain) plain_chg plain_int
  have z := k_allJ (K := K) (M := M) (B := B) (stA l C H) stA_plain a n h2
  rw [decide_eq_false h] at z
  unfold c66
  (refine wh ?_; repeat' (first | with_reducible refine And.intro ?_ ?_ | intro hsp))
  all_goals first | exact end_s rfl plain_int rfl (sys_plain stA_plain) | (exfalso; omega)
set_option maxHeartbeats 1600000 in
theorem k_makeJ_ref (hv : chkS l C H = 0) {a n k : Nat} (hk : k < 7) (h1 : 1 ≤ n) (h2 : a + n ≤ 1024) (h : okC K a n) (hr : isR l C k = true) : LocS 66 [.int .i64 (a : Nat), .int .i64 (n : Nat), .agg [.int .i64 (k : Nat), .fn 79 [] [], .fn 80 [] []]] (sysB K M B (stA l C H)) (.int .i64 60) (sysB K M B (stA l (C1 C k) (H1 l C H k))) := by
  refine LocS.mk (loc_x hmix b66 rfl ?_) (sys_plain stA_plain) (sys_plain stA_plain) plain_chg plain_int
  have z := k_allJ (K := K) (M := M) (B := B) (stA l C H) stA_plain a n h2
  rw [decide_eq_true h] at z
  have z2 := k_ref (K := K) (M := M) (B := B) hv hk
  rw [hr] at z2
  unfold c66
  (refine wh ?_; repeat' (first | with_reducible refine And.intro ?_ ?_ | intro hsp))
  all_goals first | exact end_s rfl plain_int rfl (sys_plain stA_plain) | (exfalso; omega) | skip
set_option maxHeartbeats 1600000 in
theorem k_makeJ_ok (hv : chkS l C H = 0) {a n k : Nat} (hk : k < 7) (h1 : 1 ≤ n) (h2 : a + n ≤ 1024) (h : okC K a n) (hr : isR l C k = false) : LocS 66 [.int .i64 (a : Nat), .int .i64 (n : Nat), .agg [.int .i64 (k : Nat), .fn 79 [] [], .fn 80 [] []]] (sysB K M B (stA l C H)) (.int .i64 0) (sysB K (setM M a n true) B (stA l (C1 C k) (H1 l C H k))) := by
  refine LocS.mk (loc_x hmix b66 rfl ?_) (sys_plain stA_plain) (sys_plain stA_plain) plain_chg plain_int
  have z := k_allJ (K := K) (M := M) (B := B) (stA l C H) stA_plain a n h2
  rw [decide_eq_true h] at z
  have z2 := k_ref (K := K) (M := M) (B := B) hv hk
  rw [hr] at z2
  have z3 := k_eachJ (K := K) (M := M) (B := B) (stA l (C1 C k) (H1 l C H k)) stA_plain a n h2
  unfold c66
  (refine wh ?_; repeat' (first | with_reducible refine And.intro ?_ ?_ | intro hsp))
  all_goals first | exact end_s rfl plain_int rfl (sys_plain stA_plain) | (exfalso; omega) | skip
set_option maxHeartbeats 1600000 in
theorem k_makeS_down {a n k : Nat} (h1 : 1 ≤ n) (h2 : a + n ≤ 1024) (h : ¬ okH M a n) : LocS 66 [.int .i64 (a : Nat), .int .i64 (n : Nat), .agg [.int .i64 (k : Nat), .fn 71 [] [], .fn 72 [] []]] (sysB K M B (stA l C H)) (.int .i64 9) (sysB K M B (stA l C H)) := by
  refine LocS.mk (loc_x hmix b66 rfl ?_) (sys_plain stA_plain) (sys_plain stA_plain) plain_chg plain_int
  have z := k_allS (K := K) (M := M) (B := B) (stA l C H) stA_plain a n h2
  rw [decide_eq_false h] at z
  unfold c66
  (refine wh ?_; repeat' (first | with_reducible refine And.intro ?_ ?_ | intro hsp))
  all_goals first | exact end_s rfl plain_int rfl (sys_plain stA_plain) | (exfalso; omega) | skip
set_option maxHeartbeats 1600000 in
theorem k_makeS_ref (hv : chkS l C H = 0) {a n k : Nat} (hk : k < 7) (h1 : 1 ≤ n) (h2 : a + n ≤ 1024) (h : okH M a n) (hr : isR l C k = true) : LocS 66 [.int .i64 (a : Nat), .int .i64 (n : Nat), .agg [.int .i64 (k : Nat), .fn 71 [] [], .fn 72 [] []]] (sysB K M B (stA l C H)) (.int .i64 60) (sysB K M B (stA l (C1 C k) (H1 l C H k))) := by
  refine LocS.mk (loc_x hmix b66 rfl ?_) (sys_plain stA_plain) (sys_plain stA_plain) plain_chg plain_int
  have z := k_allS (K := K) (M := M) (B := B) (stA l C H) stA_plain a n h2
  rw [decide_eq_true h] at z
  have z2 := k_ref (K := K) (M := M) (B := B) hv hk
  rw [hr] at z2
  unfold c66
  (refine wh ?_; repeat' (first | with_reducible refine And.intro ?_ ?_ | intro hsp))
  all_goals first | exact end_s rfl plain_int rfl (sys_plain stA_plain) | (exfalso; omega) | skip
set_option maxHeartbeats 1600000 in
theorem k_makeS_ok (hv : chkS l C H = 0) {a n k : Nat} (hk : k < 7) (h1 : 1 ≤ n) (h2 : a + n ≤ 1024) (h : okH M a n) (hr : isR l C k = false) : LocS 66 [.int .i64 (a : Nat), .int .i64 (n : Nat), .agg [.int .i64 (k : Nat), .fn 71 [] [], .fn 72 [] []]] (sysB K M B (stA l C H)) (.int .i64 0) (sysB K (setM M a n false) B (stA l (C1 C k) (H1 l C H k))) := by
  refine LocS.mk (loc_x hmix b66 rfl ?_) (sys_plain stA_plain) (sys_plain stA_plain) plain_chg plain_int
  have z := k_allS (K := K) (M := M) (B := B) (stA l C H) stA_plain a n h2
  rw [decide_eq_true h] at z
  have z2 := k_ref (K := K) (M := M) (B := B) hv hk
  rw [hr] at z2
  have z3 := k_eachS (K := K) (M := M) (B := B) (stA l (C1 C k) (H1 l C H k)) stA_plain a n h2
  unfold c66
  (refine wh ?_; repeat' (first | with_reducible refine And.intro ?_ ?_ | intro hsp))
  all_goals first | exact end_s rfl plain_int rfl (sys_plain stA_plain) | (exfalso; omega) | skip
end
end Go.Proofs.Ytjlbfijjfjogiaa
