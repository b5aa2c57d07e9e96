/-
  Systems that are nil, or were not made.
-/
import Derived.Test.YtjlbfijjfjogiaaUa
set_option linter.unusedSimpArgs false
set_option linter.unusedVariables false
namespace Go.Pol
open Go.Am
theorem zP_plain : ∀ x ∈ zP, Plain x := fun x hx => by
  unfold zP at hx
  rcases List.mem_cons.1 hx with rfl | hx
  · exact plain_nils
  · obtain rfl := List.eq_of_mem_replicate hx; exact plain_int
theorem sysZ_0b : sysZ[0]? = some (.bool false) := by unfold sysZ; rw [List.getElem?_cons_zero]
theorem sysZ_plain : ∀ x ∈ sysZ, Plain x := fun x hx => by
  obtain ⟨i, hi⟩ := List.getElem?_of_mem hx
  by_cases h : i = 0
  · subst h; rw [sysZ_0b] at hi; cases hi; exact plain_bool
  · have e : (sysZ.set 0 (.bool true))[i]? = some x := by rw [List.getElem?_set_ne (by omega), hi]
    rw [sysZ_0] at e; exact sys_plain zP_plain _ (List.mem_of_getElem? e)
def zV : List AV := [.nils, .nils, .nils, .nils, .int .i64 0, .int .i64 0, .int .i64 0, .int .i64 0, .int .i64 0, .int .i64 0, .int .i64 0, .int .i64 0, .int .i64 0, .int .i64 0, .int .i64 0, .int .i64 0, .int .i64 0, .int .i64 0]
theorem zV_plain : Plain (.agg zV) := plain_agg fun x hx => by
  unfold zV at hx
  simp only [List.mem_cons, List.not_mem_nil, or_false] at hx
  rcases hx with rfl | rfl | rfl | rfl | rfl | rfl | rfl | rfl | rfl | rfl | rfl | rfl | rfl | rfl | rfl | rfl | rfl | rfl
  all_goals first | exact plain_nils | exact plain_int
def z5 : List AV := [.int .i64 0, .int .i64 0, .int .i64 0, .int .i64 0, .int .i64 0]
theorem z5_plain : ∀ x ∈ z5, Plain x := fun x hx => by obtain rfl := List.eq_of_mem_replicate (n := 5) hx; exact plain_int
end Go.Pol
namespace Go.Proofs.Ytjlbfijjfjogiaa
open Go Go.Am Go.Pol
theorem plain_n5 : Plain (.tup [.agg z5, .int .i64 1]) := plain_tup (plain_2 (plain_agg z5_plain) plain_int)
theorem plain_n3 : Plain (.tup [.int .i64 0, .bool false, .int .i64 1]) := plain_tup plain_vb
theorem wud {p q : Prop} (hq : q) (h : HidP q → p := by (intro hQz; ((repeat' ((try (conv => whnf)); first | (with_reducible first | refine run_cons ?_ | refine runq_cons ?_ | refine code_seq ?_ | refine code_reg ?_ | refine code_cond ?_ | refine run_nil ?_ | refine runq_nil ?_ | refine rund_op rfl ?_ | refine rund_nil ?_ | refine code_block ?_ | refine code_skip ?_ | refine code_exit ?_ | refine code_ret ?_ | refine code_range ?_ | refine rund_fast (by decide +kernel) ?_ | refine rund_slow (by decide +kernel) ?_ | refine br_tt ?_ | refine br_ff ?_ | refine br_n ?_ | refine br_and ?_ | refine br_or ?_ | refine br_t (by assumption) ?_ | refine br_f (by assumption) ?_ | refine eq_i64 (by omega) ?_ | refine el_tn ?_) | ((with_reducible refine br_dt ?_ ?_); focus omega) | ((with_reducible refine br_df ?_ ?_); focus omega) | ((with_reducible apply br_dq hQz) <;> (try intro hsp hQz)) | ((with_reducible refine ck_x ?_ ?_); focus (first | omega | rfl | assumption | decide | (simp only [List.length_map, List.length_cons, List.length_nil]; omega))) | (with_reducible first | refine eq_tn ?_ | refine eq_tn1 ?_ | refine eq_tn2 ?_ | refine eq_m1 ?_ | refine eq_m2 ?_ | refine eq_zm ?_ | refine eq_z ?_ | refine len_map ?_ | refine len_sl ?_ | refine len_nils ?_ | refine len_own' ?_ | refine len_isl ?_ | refine eq_u8 (by omega) ?_ | refine eq_u16 (by omega) ?_) | refine nthK_of (by with_reducible assumption) ?_ | (with_reducible first | refine eq_rfl ?_ | refine ChkX.mk (by kernel_rfl) ?_ | refine code_q rfl ?_ | refine code_d (by decide +kernel) ?_ | refine end_go rfl ?_) | (refine cx_in hmix b66 rfl ?_; unfold c66) | (refine cx_in hmix b67 rfl ?_; unfold c67) | (refine cx_in hmix b47 rfl ?_; unfold c47) | (refine cx_in hmix b50 rfl ?_; unfold c50) | refine len_map ?_ | refine len_isl ?_ | refine el_of rfl rfl ?_ | refine del_own ?_ | refine del_own' rfl ?_ | refine as_go rfl ?_ | refine rd_go rfl ?_ | refine rg_end rfl ?_ | refine flat_ownX ?_ | refine EqLX.mk ?_ | ((with_reducible apply br_bq hQz) <;> (try intro hsp hQz)) | exact hQz.out)) <;> (try (conv => whnf))))) : p := h ⟨hq⟩
section
variable {y : List AV} (hy : ∀ x ∈ y, Plain x) (h0 : y[0]? = some (.bool false)) {a n : Int} {b : Bool} {l : List Rl}
include hy h0
theorem z_reserve : LocS 36 [.int .i64 a, .int .i64 n] y (.int .i64 1) y := by
  refine LocS.mk (loc_x hmix b36 rfl ?_) hy hy (plain_2 plain_int plain_int) plain_int
  unfold c36
  all_goals (refine wud ?_; repeat' (first | with_reducible refine And.intro ?_ ?_ | intro hsp))
  all_goals exact end_s rfl plain_int rfl hy
theorem z_release : LocS 35 [.int .i64 a, .int .i64 n] y (.int .i64 1) y := by
  refine LocS.mk (loc_x hmix b35 rfl ?_) hy hy (plain_2 plain_int plain_int) plain_int
  unfold c35
  all_goals (refine wud ?_; repeat' (first | with_reducible refine And.intro ?_ ?_ | intro hsp))
  all_goals exact end_s rfl plain_int rfl hy
theorem z_commit : LocS 30 [.int .i64 a, .int .i64 n] y (.int .i64 1) y := by
  refine LocS.mk (loc_x hmix b30 rfl ?_) hy hy (plain_2 plain_int plain_int) plain_int
  unfold c30
  all_goals (refine wud ?_; repeat' (first | with_reducible refine And.intro ?_ ?_ | intro hsp))
  all_goals exact end_s rfl plain_int rfl hy
theorem z_decommit : LocS 29 [.int .i64 a, .int .i64 n] y (.int .i64 1) y := by
  refine LocS.mk (loc_x hmix b29 rfl ?_) hy hy (plain_2 plain_int plain_int) plain_int
  unfold c29
  all_goals (refine wud ?_; repeat' (first | with_reducible refine And.intro ?_ ?_ | intro hsp))
  all_goals exact end_s rfl plain_int rfl hy
theorem z_protect : LocS 34 [.int .i64 a, .int .i64 n, .bool b] y (.int .i64 1) y := by
  refine LocS.mk (loc_x hmix b34 rfl ?_) hy hy plain_iib plain_int
  unfold c34
  cases b
  all_goals (refine wud ?_; repeat' (first | with_reducible refine And.intro ?_ ?_ | intro hsp))
  all_goals exact end_s rfl plain_int rfl hy
theorem z_join : LocS 51 [.int .i64 a] y (.int .i64 1) y := by
  refine LocS.mk (loc_x hmix b51 rfl ?_) hy hy (plain_1 plain_int) plain_int
  unfold c51
  all_goals (refine wud ?_; repeat' (first | with_reducible refine And.intro ?_ ?_ | intro hsp))
  all_goals exact end_s rfl plain_int rfl hy
theorem z_split : LocS 33 [.int .i64 a] y (.int .i64 1) y := by
  refine LocS.mk (loc_x hmix b33 rfl ?_) hy hy (plain_1 plain_int) plain_int
  unfold c33
  all_goals (refine wud ?_; repeat' (first | with_reducible refine And.intro ?_ ?_ | intro hsp))
  all_goals exact end_s rfl plain_int rfl hy
theorem z_write : LocS 28 [.int .i64 a, .int .u8 n] y (.int .i64 1) y := by
  refine LocS.mk (loc_x hmix b28 rfl ?_) hy hy (plain_2 plain_int plain_int) plain_int
  unfold c28
  all_goals (refine wud ?_; repeat' (first | with_reducible refine And.intro ?_ ?_ | intro hsp))
  all_goals exact end_s rfl plain_int rfl hy
theorem z_plan : LocS 26 [.agg [.isl (l.map rlA)]] y (.int .i64 1) y := by
  refine LocS.mk (loc_x hmix b26 rfl ?_) hy hy (plain_1 plain_pl) plain_int
  unfold c26
  all_goals (refine wud ?_; repeat' (first | with_reducible refine And.intro ?_ ?_ | intro hsp))
  all_goals exact end_s rfl plain_int rfl hy
theorem z_read : LocS 16 [.int .i64 a] y (.tup [.int .u8 0, .int .i64 1]) y := by
  refine LocS.mk (loc_x hmix b16 rfl ?_) hy hy (plain_1 plain_int) (plain_tup (plain_2 plain_int plain_int))
  unfold c16
  all_goals (refine wud ?_; repeat' (first | with_reducible refine And.intro ?_ ?_ | intro hsp))
  all_goals exact end_s rfl (plain_tup (plain_2 plain_int plain_int)) rfl hy
theorem z_kind : LocS 17 [.int .i64 a] y (.tup [.int .i64 0, .bool false, .int .i64 1]) y := by
  refine LocS.mk (loc_x hmix b17 rfl ?_) hy hy (plain_1 plain_int) plain_n3
  unfold c17
  all_goals (refine wud ?_; repeat' (first | with_reducible refine And.intro ?_ ?_ | intro hsp))
  all_goals exact end_s rfl plain_n3 rfl hy
theorem z_counts : LocS 18 [] y (.tup [.agg z5, .int .i64 1]) y := by
  refine LocS.mk (loc_x hmix b18 rfl ?_) hy hy (fun x hx => by cases hx) plain_n5
  unfold c18
  all_goals (refine wud ?_; repeat' (first | with_reducible refine And.intro ?_ ?_ | intro hsp))
  all_goals exact end_s rfl plain_n5 rfl hy
theorem z_save : LocS 15 [] y (.agg zV) y := by
  refine LocS.mk (loc_x hmix b15 rfl ?_) hy hy (fun x hx => by cases hx) zV_plain
  unfold c15
  all_goals (refine wud ?_; repeat' (first | with_reducible refine And.intro ?_ ?_ | intro hsp))
  all_goals exact end_s rfl zV_plain rfl hy
omit hy h0
theorem zo_reserve : PureS 36 (.nilp :: [.int .i64 a, .int .i64 n]) (.int .i64 1) := by
  refine PureS.mk (pure_x hmix b36 plainG ⟨plain_nilp, plain_int, plain_int, trivial⟩ plain_int rfl ?_)
  unfold c36
  all_goals (refine wud ?_; repeat' (first | with_reducible refine And.intro ?_ ?_ | intro hsp))
  all_goals exact end_plain rfl plain_int
theorem zo_release : PureS 35 (.nilp :: [.int .i64 a, .int .i64 n]) (.int .i64 1) := by
  refine PureS.mk (pure_x hmix b35 plainG ⟨plain_nilp, plain_int, plain_int, trivial⟩ plain_int rfl ?_)
  unfold c35
  all_goals (refine wud ?_; repeat' (first | with_reducible refine And.intro ?_ ?_ | intro hsp))
  all_goals exact end_plain rfl plain_int
theorem zo_commit : PureS 30 (.nilp :: [.int .i64 a, .int .i64 n]) (.int .i64 1) := by
  refine PureS.mk (pure_x hmix b30 plainG ⟨plain_nilp, plain_int, plain_int, trivial⟩ plain_int rfl ?_)
  unfold c30
  all_goals (refine wud ?_; repeat' (first | with_reducible refine And.intro ?_ ?_ | intro hsp))
  all_goals exact end_plain rfl plain_int
theorem zo_decommit : PureS 29 (.nilp :: [.int .i64 a, .int .i64 n]) (.int .i64 1) := by
  refine PureS.mk (pure_x hmix b29 plainG ⟨plain_nilp, plain_int, plain_int, trivial⟩ plain_int rfl ?_)
  unfold c29
  all_goals (refine wud ?_; repeat' (first | with_reducible refine And.intro ?_ ?_ | intro hsp))
  all_goals exact end_plain rfl plain_int
theorem zo_protect : PureS 34 (.nilp :: [.int .i64 a, .int .i64 n, .bool b]) (.int .i64 1) := by
  refine PureS.mk (pure_x hmix b34 plainG ⟨plain_nilp, plain_int, plain_int, plain_bool, trivial⟩ plain_int rfl ?_)
  unfold c34
  cases b
  all_goals (refine wud ?_; repeat' (first | with_reducible refine And.intro ?_ ?_ | intro hsp))
  all_goals exact end_plain rfl plain_int
theorem zo_join : PureS 51 (.nilp :: [.int .i64 a]) (.int .i64 1) := by
  refine PureS.mk (pure_x hmix b51 plainG ⟨plain_nilp, plain_int, trivial⟩ plain_int rfl ?_)
  unfold c51
  all_goals (refine wud ?_; repeat' (first | with_reducible refine And.intro ?_ ?_ | intro hsp))
  all_goals exact end_plain rfl plain_int
theorem zo_split : PureS 33 (.nilp :: [.int .i64 a]) (.int .i64 1) := by
  refine PureS.mk (pure_x hmix b33 plainG ⟨plain_nilp, plain_int, trivial⟩ plain_int rfl ?_)
  unfold c33
  all_goals (refine wud ?_; repeat' (first | with_reducible refine And.intro ?_ ?_ | intro hsp))
  all_goals exact end_plain rfl plain_int
theorem zo_write : PureS 28 (.nilp :: [.int .i64 a, .int .u8 n]) (.int .i64 1) := by
  refine PureS.mk (pure_x hmix b28 plainG ⟨plain_nilp, plain_int, plain_int, trivial⟩ plain_int rfl ?_)
  unfold c28
  all_goals (refine wud ?_; repeat' (first | with_reducible refine And.intro ?_ ?_ | intro hsp))
  all_goals exact end_plain rfl plain_int
theorem zo_plan : PureS 26 (.nilp :: [.agg [.isl (l.map rlA)]]) (.int .i64 1) := by
  refine PureS.mk (pure_x hmix b26 plainG ⟨plain_nilp, plain_pl, trivial⟩ plain_int rfl ?_)
  unfold c26
  all_goals (refine wud ?_; repeat' (first | with_reducible refine And.intro ?_ ?_ | intro hsp))
  all_goals exact end_plain rfl plain_int
theorem zo_read : PureS 16 (.nilp :: [.int .i64 a]) (.tup [.int .u8 0, .int .i64 1]) := by
  refine PureS.mk (pure_x hmix b16 plainG ⟨plain_nilp, plain_int, trivial⟩ (plain_tup (plain_2 plain_int plain_int)) rfl ?_)
  unfold c16
  all_goals (refine wud ?_; repeat' (first | with_reducible refine And.intro ?_ ?_ | intro hsp))
  all_goals exact end_plain rfl (plain_tup (plain_2 plain_int plain_int))
theorem zo_kind : PureS 17 (.nilp :: [.int .i64 a]) (.tup [.int .i64 0, .bool false, .int .i64 1]) := by
  refine PureS.mk (pure_x hmix b17 plainG ⟨plain_nilp, plain_int, trivial⟩ plain_n3 rfl ?_)
  unfold c17
  all_goals (refine wud ?_; repeat' (first | with_reducible refine And.intro ?_ ?_ | intro hsp))
  all_goals exact end_plain rfl plain_n3
theorem zo_counts : PureS 18 (.nilp :: []) (.tup [.agg z5, .int .i64 1]) := by
  refine PureS.mk (pure_x hmix b18 plainG ⟨plain_nilp, trivial⟩ plain_n5 rfl ?_)
  unfold c18
  all_goals (refine wud ?_; repeat' (first | with_reducible refine And.intro ?_ ?_ | intro hsp))
  all_goals exact end_plain rfl plain_n5
theorem zo_save : PureS 15 (.nilp :: []) (.agg zV) := by
  refine PureS.mk (pure_x hmix b15 plainG ⟨plain_nilp, trivial⟩ zV_plain rfl ?_)
  unfold c15
  all_goals (refine wud ?_; repeat' (first | with_reducible refine And.intro ?_ ?_ | intro hsp))
  all_goals exact end_plain rfl zV_plain
end
end Go.Proofs.Ytjlbfijjfjogiaa
