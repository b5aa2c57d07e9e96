/-
  Join and Split of the program.
  make for Join and Split.
  Join and Split of the program.
  The state of both systems, plain; the program's calls over it.
-/
import Derived.Test.YtjlbfijjfjogiaaVmB
set_option linter.unusedSimpArgs false
set_option linter.unusedVariables false
namespace Go.Pol
/-- Are these pages committed? -/
def okC (K : Nat → Int) (a n : Nat) : Prop := ∀ i, i < n → K (a + i) = 2
instance (K : Nat → Int) (a n : Nat) : Decidable (okC K a n) := by unfold okC; infer_instance
/-- Are these pages huge? -/
def okH (M : Nat → Bool) (a n : Nat) : Prop := ∀ i, i < n → M (a + i) = true
instance (M : Nat → Bool) (a n : Nat) : Decidable (okH M a n) := by unfold okH; infer_instance
end Go.Pol
namespace Go.Proofs.Ytjlbfijjfjogiaa
open Go Go.Am Go.Pol
theorem wkx_Sg {p : Prop} (h : p := by (refine weak_s (by exact oneOf_of rfl) (by exact subH_of rfl) (by intro hs; (repeat' ((try (conv => whnf)); first | with_reducible exact True.intro | with_reducible refine And.intro ?_ ?_ | (with_reducible refine WkX.mk ?_; first | exact wk_undef | exact wk_int (by first | rfl | omega | (dsimp only; omega)) | exact wk_bool rfl | exact wk_ptr rfl (by first | decide | simp | omega) | exact wk_sl rfl (by first | decide | simp | omega) (by first | rfl | omega | simp) (by first | omega | simp) (by first | omega | simp) | exact wk_own rfl (by first | decide | simp | omega) | exact wk_nil0 (by first | rfl | simp) | exact wk_slown rfl (by first | decide | omega | (simp; done)) (by first | omega | (simp; done)) (by first | rfl | omega | (simp; done) | (simp; omega)) | exact wk_plain hs (by (first | assumption | exact plain_int | exact plain_bool | exact plain_undef | exact plain_nils | exact plain_nilp | exact plain_nilf | exact plain_str | with_reducible apply plain_rl | with_reducible apply plain_rls | with_reducible apply plain_pl | with_reducible apply plain_ii | with_reducible apply plain_st | with_reducible apply plain_stE | with_reducible apply plain_zst | with_reducible apply plain_zstE | with_reducible apply plain_irl | with_reducible apply plain_mk | with_reducible apply plain_stB | with_reducible apply plain_zstB)) | (with_reducible refine wk_fn ?_ ?_ <;> repeat' (first | with_reducible exact wkl_nil | with_reducible refine wkl_cons ?_ ?_ | exact wk_ptr rfl (by first | decide | simp | omega))) | (with_reducible refine wk_agg ?_; repeat' (first | with_reducible exact wkl_nil | with_reducible refine wkl_cons ?_ ?_ | exact wk_int (by first | rfl | omega | (dsimp only; omega)) | exact wk_bool rfl)) | exact wk_yld rfl (by first | decide | simp | omega))))) (by intro hs; (try dsimp only); (repeat' (first | with_reducible exact wko_nil | refine wko_plain hs (by first | decide | omega | simp) rfl (by first | rfl) (by (first | with_reducible assumption | with_reducible apply rlA_plain _ | with_reducible apply plain_flat rlA_plain | with_reducible apply stA_plain | with_reducible apply memT_plain | with_reducible apply sys_plain stA_plain | with_reducible apply rfk_plain stA_plain | with_reducible apply sys_plain hP | with_reducible apply rfk_plain hP | with_reducible apply plain_map (fun _ => plain_int) | with_reducible apply plain_map (fun _ => plain_bool) | ((repeat' (first | exact plain_all0 | refine plain_all2 ?_ ?_ | exact plain_int | first | assumption | exact plain_int | exact plain_bool | exact plain_undef | exact plain_nils | exact plain_nilp | exact plain_nilf | exact plain_str | with_reducible apply plain_rl | with_reducible apply plain_rls | with_reducible apply plain_pl | with_reducible apply plain_ii | with_reducible apply plain_st | with_reducible apply plain_stE | with_reducible apply plain_zst | with_reducible apply plain_zstE | with_reducible apply plain_irl | with_reducible apply plain_mk | with_reducible apply plain_stB | with_reducible apply plain_zstB)); done) | ((refine plain_app ?_ ?_) <;> (first | with_reducible assumption | with_reducible apply rlA_plain _ | with_reducible apply plain_flat rlA_plain | with_reducible apply stA_plain | with_reducible apply memT_plain | with_reducible apply sys_plain stA_plain | with_reducible apply rfk_plain stA_plain | with_reducible apply sys_plain hP | with_reducible apply rfk_plain hP | with_reducible apply plain_map (fun _ => plain_int) | with_reducible apply plain_map (fun _ => plain_bool) | ((repeat' (first | exact plain_all0 | refine plain_all2 ?_ ?_ | exact plain_int | first | assumption | exact plain_int | exact plain_bool | exact plain_undef | exact plain_nils | exact plain_nilp | exact plain_nilf | exact plain_str | with_reducible apply plain_rl | with_reducible apply plain_rls | with_reducible apply plain_pl | with_reducible apply plain_ii | with_reducible apply plain_st | with_reducible apply plain_stE | with_reducible apply plain_zst | with_reducible apply plain_zstE | with_reducible apply plain_irl | with_reducible apply plain_mk | with_reducible apply plain_stB | with_reducible apply plain_zstB)); done))))) ?_ | refine wko_cells (by first | decide | omega | simp) rfl (by repeat' (first | with_reducible exact wkl_nil | with_reducible refine wkl_cons ?_ ?_ | (first | exact wk_undef | exact wk_int (by first | rfl | omega | (dsimp only; omega)) | exact wk_bool rfl | exact wk_ptr rfl (by first | decide | simp | omega) | exact wk_sl rfl (by first | decide | simp | omega) (by first | rfl | omega | simp) (by first | omega | simp) (by first | omega | simp) | exact wk_own rfl (by first | decide | simp | omega) | exact wk_nil0 (by first | rfl | simp) | exact wk_slown rfl (by first | decide | omega | (simp; done)) (by first | omega | (simp; done)) (by first | rfl | omega | (simp; done) | (simp; omega)) | exact wk_plain hs (by (first | assumption | exact plain_int | exact plain_bool | exact plain_undef | exact plain_nils | exact plain_nilp | exact plain_nilf | exact plain_str | with_reducible apply plain_rl | with_reducible apply plain_rls | with_reducible apply plain_pl | with_reducible apply plain_ii | with_reducible apply plain_st | with_reducible apply plain_stE | with_reducible apply plain_zst | with_reducible apply plain_zstE | with_reducible apply plain_irl | with_reducible apply plain_mk | with_reducible apply plain_stB | with_reducible apply plain_zstB)) | (with_reducible refine wk_fn ?_ ?_ <;> repeat' (first | with_reducible exact wkl_nil | with_reducible refine wkl_cons ?_ ?_ | exact wk_ptr rfl (by first | decide | simp | omega))) | (with_reducible refine wk_agg ?_; repeat' (first | with_reducible exact wkl_nil | with_reducible refine wkl_cons ?_ ?_ | exact wk_int (by first | rfl | omega | (dsimp only; omega)) | exact wk_bool rfl)) | exact wk_yld rfl (by first | decide | simp | omega)))) ?_ | refine wko_loop (by first | decide | omega | simp) rfl (by ((try subst hF); (try subst hF2); exact wkl_sd (wkf_sget (by (repeat' ((try (conv => whnf)); first | with_reducible exact True.intro | with_reducible refine And.intro ?_ ?_ | (with_reducible refine WkX.mk ?_; first | exact wk_undef | exact wk_int (by first | rfl | omega | (dsimp only; omega)) | exact wk_bool rfl | exact wk_ptr rfl (by first | decide | simp | omega) | exact wk_sl rfl (by first | decide | simp | omega) (by first | rfl | omega | simp) (by first | omega | simp) (by first | omega | simp) | exact wk_own rfl (by first | decide | simp | omega) | exact wk_nil0 (by first | rfl | simp) | exact wk_slown rfl (by first | decide | omega | (simp; done)) (by first | omega | (simp; done)) (by first | rfl | omega | (simp; done) | (simp; omega)) | exact wk_plain hs (by (first | assumption | exact plain_int | exact plain_bool | exact plain_undef | exact plain_nils | exact plain_nilp | exact plain_nilf | exact plain_str | with_reducible apply plain_rl | with_reducible apply plain_rls | with_reducible apply plain_pl | with_reducible apply plain_ii | with_reducible apply plain_st | with_reducible apply plain_stE | with_reducible apply plain_zst | with_reducible apply plain_zstE | with_reducible apply plain_irl | with_reducible apply plain_mk | with_reducible apply plain_stB | with_reducible apply plain_zstB)) | (with_reducible refine wk_fn ?_ ?_ <;> repeat' (first | with_reducible exact wkl_nil | with_reducible refine wkl_cons ?_ ?_ | exact wk_ptr rfl (by first | decide | simp | omega))) | (with_reducible refine wk_agg ?_; repeat' (first | with_reducible exact wkl_nil | with_reducible refine wkl_cons ?_ ?_ | exact wk_int (by first | rfl | omega | (dsimp only; omega)) | exact wk_bool rfl)) | exact wk_yld rfl (by first | decide | simp | omega)))))))) ?_ | exact wko_nil))))) : p := h
theorem wj {p q : Prop} (hq : q) (h : HidP q → p := by (intro hQz; ((repeat' ((try (conv => whnf)); first | (with_reducible first | refine run_cons ?_ | refine runq_cons ?_ | refine code_seq ?_ | refine code_reg ?_ | refine code_cond ?_ | refine run_nil ?_ | refine runq_nil ?_ | refine rund_op rfl ?_ | refine rund_nil ?_ | refine code_block ?_ | refine code_skip ?_ | refine code_exit ?_ | refine code_ret ?_ | refine code_range ?_ | refine rund_fast (by decide +kernel) ?_ | refine rund_slow (by decide +kernel) ?_ | refine br_tt ?_ | refine br_ff ?_ | refine br_n ?_ | refine br_and ?_ | refine br_or ?_ | refine br_t (by assumption) ?_ | refine br_f (by assumption) ?_ | refine eq_i64 (by omega) ?_ | refine el_tn ?_) | ((with_reducible refine br_dt ?_ ?_); focus omega) | ((with_reducible refine br_df ?_ ?_); focus omega) | ((with_reducible apply br_dq hQz) <;> (try intro hsp hQz)) | ((with_reducible refine ck_x ?_ ?_); focus (first | omega | rfl | assumption | decide | (simp only [List.length_map, List.length_cons, List.length_nil]; omega))) | (with_reducible first | refine eq_tn ?_ | refine eq_tn1 ?_ | refine eq_tn2 ?_ | refine eq_m1 ?_ | refine eq_m2 ?_ | refine eq_zm ?_ | refine eq_z ?_ | refine len_map ?_ | refine len_sl ?_ | refine len_nils ?_ | refine len_own' ?_ | refine len_isl ?_ | refine eq_u8 (by omega) ?_ | refine eq_u16 (by omega) ?_) | refine nthK_of sys_made ?_ | refine nthK_of (by with_reducible assumption) ?_ | refine eq_of (by with_reducible assumption) ?_ | refine set1K_of (by rw [sys_len]; omega) (by with_reducible assumption) ?_ | (with_reducible first | refine eq_rfl ?_ | refine ChkX.mk (by kernel_rfl) ?_ | refine code_q rfl ?_ | refine code_d (by decide +kernel) ?_ | refine end_go rfl ?_) | refine cx_locS (by assumption) rfl (by omega) ?_ | (refine cx_in hmix b47 rfl ?_; unfold c47) | (refine cx_in hmix b39 rfl ?_; unfold c39) | (refine cx_in hmix b79 rfl ?_; unfold c79) | (refine cx_in hmix b80 rfl ?_; unfold c80) | (refine cx_in hmix b71 rfl ?_; unfold c71) | (refine cx_in hmix b72 rfl ?_; unfold c72) | refine len_map ?_ | refine len_isl ?_ | refine el_of rfl rfl ?_ | refine del_own ?_ | refine del_own' rfl ?_ | refine as_go rfl ?_ | refine rd_go rfl ?_ | refine rg_end rfl ?_ | refine flat_ownX ?_ | refine EqLX.mk ?_ | ((with_reducible apply br_bq hQz) <;> (try intro hsp hQz)) | exact hQz.out)) <;> (try (conv => whnf))))) : p := h ⟨hq⟩
section
variable {K : Nat → Int} {M G : Nat → Bool} {B : Nat → Nat → Int} {l : List Rl} {C H : Nat → Int}
theorem plain_fn0 {f : Nat} : Plain (.fn f [] []) := plain_fn (by simp) (by simp)
theorem plain_3f {a n : Int} {f : Nat} : ∀ x ∈ [AV.int .i64 a, .int .i64 n, .fn f [] []], Plain x := fun x hx => by
  rcases List.mem_cons.1 hx with rfl | hx
  · exact plain_int
  · exact plain_2 plain_int plain_fn0 x hx
set_option maxHeartbeats 1600000 in
theorem k_allJ (P : List AV) (hP : ∀ x ∈ P, Plain x) (a n : Nat) (hn : a + n ≤ 1024) : LocS 40 [.int .i64 (a : Nat), .int .i64 (n : Nat), .fn 79 [] []] (sysB K M B P) (.bool (decide (okC K a n))) (sysB K M B P) := by
  refine LocS.mk (loc_x hmix b40 rfl ?_) (sys_plain hP) (sys_plain hP) plain_3f plain_bool
  unfold c40
  (refine wj ?_; repeat' (first | with_reducible refine And.intro ?_ ?_ | intro hsp))
  (refine loop_x [0, 1, 2, 3, 10] (fun (i : Nat) => [(11, .int .i64 (i : Nat))]) (fun (i : Nat) => ⟨[(0, .cells (sysB K M B P))], 1⟩) (fun (i : Nat) => i ≤ n ∧ ∀ j, j < i → K (a + j) = 2) (fun (i : Nat) => n - i) (0) [] rfl (fun _ => by first | exact Nat.zero_le _ | (dsimp only; omega)) ?_ (by ((try (conv => whnf)); exact wkx_Sg)) ?_)
  · exact ⟨Nat.zero_le _, fun j hj => by omega⟩
  rintro i ⟨hi, h0⟩
  by_cases hin : i < n
  · have ht : ((a : Int) + (i : Int)).toNat = a + i := by omega
    have hk : (sysB K M B P)[1 + ((a : Int) + (i : Int)).toNat * 66 + 0]? = some (.int .i64 (K (a + i))) := by rw [ht]; exact sys_kind (by omega)
    by_cases h1 : K (a + i) = 2
    · (refine wj ?_; repeat' (first | with_reducible refine And.intro ?_ ?_ | intro hsp))
      all_goals first | (exfalso; exact absurd h1 (by assumption)) | skip
      all_goals exact next_x (i + 1) [] ⟨by omega, fun j hj => if e : j = i then by rw [e]; exact h1 else h0 j (by omega)⟩ (by first | omega | (dsimp only; omega)) rfl (by exact wkx_Sg)
    · rw [decide_eq_false fun h => h1 (h i hin)]
      (refine wj ?_; repeat' (first | with_reducible refine And.intro ?_ ?_ | intro hsp))
      all_goals exact end_s rfl plain_bool rfl (sys_plain hP)
  · have hok : okC K a n := fun j hj => h0 j (by omega)
    rw [decide_eq_true hok]
    (refine wj ?_; repeat' (first | with_reducible refine And.intro ?_ ?_ | intro hsp))
    all_goals exact end_s rfl plain_bool rfl (sys_plain hP)
set_option maxHeartbeats 1600000 in
theorem k_eachJ (P : List AV) (hP : ∀ x ∈ P, Plain x) (a n : Nat) (hn : a + n ≤ 1024) : LocS 42 [.int .i64 (a : Nat), .int .i64 (n : Nat), .fn 80 [] []] (sysB K M B P) (.tup []) (sysB K (setM M a n true) B P) := by
  refine LocS.mk (loc_x hmix b42 rfl ?_) (sys_plain hP) (sys_plain hP) plain_3f (plain_tup fun x hx => by cases hx)
  unfold c42
  have e0 : sysB K M B P = sysB K (setM M a 0 true) B P := by rw [setM_0]
  rw [e0]
  (refine wj ?_; repeat' (first | with_reducible refine And.intro ?_ ?_ | intro hsp))
  (refine loop_x [0, 1, 2, 3, 9] (fun (i : Nat) => [(10, .int .i64 (i : Nat))]) (fun (i : Nat) => ⟨[(0, .cells (sysB K (setM M a i true) B P))], 1⟩) (fun (i : Nat) => i ≤ n) (fun (i : Nat) => n - i) (0) [] rfl (fun _ => by first | exact Nat.zero_le _ | (dsimp only; omega)) ?_ (by ((try (conv => whnf)); exact wkx_Sg)) ?_)
  · exact Nat.zero_le _
  rintro i hi
  by_cases hin : i < n
  · have ht : ((a : Int) + (i : Int)).toNat = a + i := by omega
    have hl : 1 + ((a : Int) + (i : Int)).toNat * 66 + 66 ≤ 67600 := by omega
    have hs : (sysB K (setM M a i true) B P).set (1 + ((a : Int) + (i : Int)).toNat * 66 + 1) (.bool true) = sysB K (setM M a (i + 1) true) B P := by rw [ht, sys_setHuge (by omega), setM_s]
    (refine wj ?_; repeat' (first | with_reducible refine And.intro ?_ ?_ | intro hsp))
    all_goals exact next_x (i + 1) [] (by (try dsimp only); omega) (by first | omega | (dsimp only; omega)) rfl (by exact wkx_Sg)
  · obtain rfl : i = n := by omega
    (refine wj ?_; repeat' (first | with_reducible refine And.intro ?_ ?_ | intro hsp))
    all_goals exact end_s rfl (plain_tup fun x hx => by cases hx) rfl (sys_plain hP)
set_option maxHeartbeats 1600000 in
theorem k_eachS (P : List AV) (hP : ∀ x ∈ P, Plain x) (a n : Nat) (hn : a + n ≤ 1024) : LocS 42 [.int .i64 (a : Nat), .int .i64 (n : Nat), .fn 72 [] []] (sysB K M B P) (.tup []) (sysB K (setM M a n false) B P) := by
  refine LocS.mk (loc_x hmix b42 rfl ?_) (sys_plain hP) (sys_plain hP) plain_3f (plain_tup fun x hx => by cases hx)
  unfold c42
  have e0 : sysB K M B P = sysB K (setM M a 0 false) B P := by rw [setM_0]
  rw [e0]
  (refine wj ?_; repeat' (first | with_reducible refine And.intro ?_ ?_ | intro hsp))
  (refine loop_x [0, 1, 2, 3, 9] (fun (i : Nat) => [(10, .int .i64 (i : Nat))]) (fun (i : Nat) => ⟨[(0, .cells (sysB K (setM M a i false) B P))], 1⟩) (fun (i : Nat) => i ≤ n) (fun (i : Nat) => n - i) (0) [] rfl (fun _ => by first | exact Nat.zero_le _ | (dsimp only; omega)) ?_ (by ((try (conv => whnf)); exact wkx_Sg)) ?_)
  · exact Nat.zero_le _
  rintro i hi
  by_cases hin : i < n
  · have ht : ((a : Int) + (i : Int)).toNat = a + i := by omega
    have hl : 1 + ((a : Int) + (i : Int)).toNat * 66 + 66 ≤ 67600 := by omega
    have hs : (sysB K (setM M a i false) B P).set (1 + ((a : Int) + (i : Int)).toNat * 66 + 1) (.bool false) = sysB K (setM M a (i + 1) false) B P := by rw [ht, sys_setHuge (by omega), setM_s]
    (refine wj ?_; repeat' (first | with_reducible refine And.intro ?_ ?_ | intro hsp))
    all_goals exact next_x (i + 1) [] (by (try dsimp only); omega) (by first | omega | (dsimp only; omega)) rfl (by exact wkx_Sg)
  · obtain rfl : i = n := by omega
    (refine wj ?_; repeat' (first | with_reducible refine And.intro ?_ ?_ | intro hsp))
    all_goals exact end_s rfl (plain_tup fun x hx => by cases hx) rfl (sys_plain hP)
set_option maxHeartbeats 1600000 in
theorem k_allS (P : List AV) (hP : ∀ x ∈ P, Plain x) (a n : Nat) (hn : a + n ≤ 1024) : LocS 40 [.int .i64 (a : Nat), .int .i64 (n : Nat), .fn 71 [] []] (sysB K M B P) (.bool (decide (okH M a n))) (sysB K M B P) := by
  refine LocS.mk (loc_x hmix b40 rfl ?_) (sys_plain hP) (sys_plain hP) plain_3f plain_bool
  unfold c40
  (refine wj ?_; repeat' (first | with_reducible refine And.intro ?_ ?_ | intro hsp))
  (refine loop_x [0, 1, 2, 3, 10] (fun (i : Nat) => [(11, .int .i64 (i : Nat))]) (fun (i : Nat) => ⟨[(0, .cells (sysB K M B P))], 1⟩) (fun (i : Nat) => i ≤ n ∧ ∀ j, j < i → M (a + j) = true) (fun (i : Nat) => n - i) (0) [] rfl (fun _ => by first | exact Nat.zero_le _ | (dsimp only; omega)) ?_ (by ((try (conv => whnf)); exact wkx_Sg)) ?_)
  · exact ⟨Nat.zero_le _, fun j hj => by omega⟩
  rintro i ⟨hi, h0⟩
  by_cases hin : i < n
  · have ht : ((a : Int) + (i : Int)).toNat = a + i := by omega
    have hh : (sysB K M B P)[1 + ((a : Int) + (i : Int)).toNat * 66 + 1]? = some (.bool (M (a + i))) := by rw [ht]; exact sys_huge (by omega)
    cases h1 : M (a + i) with
    | true =>
      rw [h1] at hh
      (refine wj ?_; repeat' (first | with_reducible refine And.intro ?_ ?_ | intro hsp))
      all_goals exact next_x (i + 1) [] ⟨by omega, fun j hj => if e : j = i then by rw [e]; exact h1 else h0 j (by omega)⟩ (by first | omega | (dsimp only; omega)) rfl (by exact wkx_Sg)
    | false =>
      rw [h1] at hh
      rw [decide_eq_false fun h => by have := h i hin; rw [h1] at this; cases this]
      (refine wj ?_; repeat' (first | with_reducible refine And.intro ?_ ?_ | intro hsp))
      all_goals exact end_s rfl plain_bool rfl (sys_plain hP)
  · have hok : okH M a n := fun j hj => h0 j (by omega)
    rw [decide_eq_true hok]
    (refine wj ?_; repeat' (first | with_reducible refine And.intro ?_ ?_ | intro hsp))
    all_goals exact end_s rfl plain_bool rfl (sys_plain hP)
end
end Go.Proofs.Ytjlbfijjfjogiaa
namespace Go.Proofs.Ytjlbfijjfjogiaa
open Go Go.Am Go.Pol
theorem wh {p q : Prop} (hq : q) (h : HidP q → p := by (intro hQz; ((repeat' ((try (conv => whnf)); first | (with_reducible first | refine run_cons ?_ | refine runq_cons ?_ | refine code_seq ?_ | refine code_reg ?_ | refine code_cond ?_ | refine run_nil ?_ | refine runq_nil ?_ | refine rund_op rfl ?_ | refine rund_nil ?_ | refine code_block ?_ | refine code_skip ?_ | refine code_exit ?_ | refine code_ret ?_ | refine code_range ?_ | refine rund_fast (by decide +kernel) ?_ | refine rund_slow (by decide +kernel) ?_ | refine br_tt ?_ | refine br_ff ?_ | refine br_n ?_ | refine br_and ?_ | refine br_or ?_ | refine br_t (by assumption) ?_ | refine br_f (by assumption) ?_ | refine eq_i64 (by omega) ?_ | refine el_tn ?_) | ((with_reducible refine br_dt ?_ ?_); focus omega) | ((with_reducible refine br_df ?_ ?_); focus omega) | ((with_reducible apply br_dq hQz) <;> (try intro hsp hQz)) | ((with_reducible refine ck_x ?_ ?_); focus (first | omega | rfl | assumption | decide | (simp only [List.length_map, List.length_cons, List.length_nil]; omega))) | (with_reducible first | refine eq_tn ?_ | refine eq_tn1 ?_ | refine eq_tn2 ?_ | refine eq_m1 ?_ | refine eq_m2 ?_ | refine eq_zm ?_ | refine eq_z ?_ | refine len_map ?_ | refine len_sl ?_ | refine len_nils ?_ | refine len_own' ?_ | refine len_isl ?_ | refine eq_u8 (by omega) ?_ | refine eq_u16 (by omega) ?_) | refine nthK_of sys_made ?_ | refine nthK_of (by with_reducible assumption) ?_ | refine eq_of (by with_reducible assumption) ?_ | (with_reducible first | refine eq_rfl ?_ | refine ChkX.mk (by kernel_rfl) ?_ | refine code_q rfl ?_ | refine code_d (by decide +kernel) ?_ | refine end_go rfl ?_) | refine cx_locS (by assumption) rfl (by omega) ?_ | (refine cx_in hmix b47 rfl ?_; unfold c47) | refine len_map ?_ | refine len_isl ?_ | refine el_of rfl rfl ?_ | refine del_own ?_ | refine del_own' rfl ?_ | refine as_go rfl ?_ | refine rd_go rfl ?_ | refine rg_end rfl ?_ | refine flat_ownX ?_ | refine EqLX.mk ?_ | ((with_reducible apply br_bq hQz) <;> (try intro hsp hQz)) | exact hQz.out)) <;> (try (conv => whnf))))) : p := h ⟨hq⟩
section
variable {K : Nat → Int} {M G : Nat → Bool} {B : Nat → Nat → Int} {l : List Rl} {C H : Nat → Int}
theorem plain_chg {a n k : Int} {f g : Nat} : ∀ x ∈ [AV.int .i64 a, .int .i64 n, .agg [.int .i64 k, .fn f [] [], .fn g [] []]], Plain x := fun x hx => by
  rcases List.mem_cons.1 hx with rfl | hx
  · exact plain_int
  · refine plain_2 plain_int (plain_agg fun y hy => ?_) x hx
    rcases List.mem_cons.1 hy with rfl | hy
    · exact plain_int
    · exact plain_2 plain_fn0 plain_fn0 y hy
set_option maxHeartbeats 1600000 in
theorem k_makeJ_down {a n k : Nat} (h1 : 1 ≤ n) (h2 : a + n ≤ 1024) (h : ¬ okC K a n) : LocS 66 [.int .i64 (a : Nat), .int .i64 (n : Nat), .agg [.int .i64 (k : Nat), .fn 79 [] [], .fn 80 [] []]] (sysB K M B (stA l C H)) (.int .i64 9) (sysB K M B (stA l C H)) := by
  refine LocS.mk (loc_x hmix b66 rfl ?_) (sys_plain stA_plain) (sys_plain stA_plain) plain_chg plain_int
  have z := k_allJ (K := K) (M := M) (B := B) (stA l C H) stA_plain a n h2
  rw [decide_eq_false h] at z
  unfold c66
  (refine wh ?_; repeat' (first | with_reducible refine And.intro ?_ ?_ | intro hsp))
  all_goals first | exact end_s rfl plain_int rfl (sys_plain stA_plain) | (exfalso; omega)
set_option maxHeartbeats 1600000 in
theorem k_makeJ_ref (hv : chkS l C H = 0) {a n k : Nat} (hk : k < 7) (h1 : 1 ≤ n) (h2 : a + n ≤ 1024) (h : okC K a n) (hr : isR l C k = true) : LocS 66 [.int .i64 (a : Nat), .int .i64 (n : Nat), .agg [.int .i64 (k : Nat), .fn 79 [] [], .fn 80 [] []]] (sysB K M B (stA l C H)) (.int .i64 60) (sysB K M B (stA l (C1 C k) (H1 l C H k))) := by
  refine LocS.mk (loc_x hmix b66 rfl ?_) (sys_plain stA_plain) (sys_plain stA_plain) plain_chg plain_int
  have z := k_allJ (K := K) (M := M) (B := B) (stA l C H) stA_plain a n h2
  rw [decide_eq_true h] at z
  have z2 := k_ref (K := K) (M := M) (B := B) hv hk
  rw [hr] at z2
  unfold c66
  (refine wh ?_; repeat' (first | with_reducible refine And.intro ?_ ?_ | intro hsp))
  all_goals first | exact end_s rfl plain_int rfl (sys_plain stA_plain) | (exfalso; omega) | skip
set_option maxHeartbeats 1600000 in
theorem k_makeJ_ok (hv : chkS l C H = 0) {a n k : Nat} (hk : k < 7) (h1 : 1 ≤ n) (h2 : a + n ≤ 1024) (h : okC K a n) (hr : isR l C k = false) : LocS 66 [.int .i64 (a : Nat), .int .i64 (n : Nat), .agg [.int .i64 (k : Nat), .fn 79 [] [], .fn 80 [] []]] (sysB K M B (stA l C H)) (.int .i64 0) (sysB K (setM M a n true) B (stA l (C1 C k) (H1 l C H k))) := by
  refine LocS.mk (loc_x hmix b66 rfl ?_) (sys_plain stA_plain) (sys_plain stA_plain) plain_chg plain_int
  have z := k_allJ (K := K) (M := M) (B := B) (stA l C H) stA_plain a n h2
  rw [decide_eq_true h] at z
  have z2 := k_ref (K := K) (M := M) (B := B) hv hk
  rw [hr] at z2
  have z3 := k_eachJ (K := K) (M := M) (B := B) (stA l (C1 C k) (H1 l C H k)) stA_plain a n h2
  unfold c66
  (refine wh ?_; repeat' (first | with_reducible refine And.intro ?_ ?_ | intro hsp))
  all_goals first | exact end_s rfl plain_int rfl (sys_plain stA_plain) | (exfalso; omega) | skip
set_option maxHeartbeats 1600000 in
theorem k_makeS_down {a n k : Nat} (h1 : 1 ≤ n) (h2 : a + n ≤ 1024) (h : ¬ okH M a n) : LocS 66 [.int .i64 (a : Nat), .int .i64 (n : Nat), .agg [.int .i64 (k : Nat), .fn 71 [] [], .fn 72 [] []]] (sysB K M B (stA l C H)) (.int .i64 9) (sysB K M B (stA l C H)) := by
  refine LocS.mk (loc_x hmix b66 rfl ?_) (sys_plain stA_plain) (sys_plain stA_plain) plain_chg plain_int
  have z := k_allS (K := K) (M := M) (B := B) (stA l C H) stA_plain a n h2
  rw [decide_eq_false h] at z
  unfold c66
  (refine wh ?_; repeat' (first | with_reducible refine And.intro ?_ ?_ | intro hsp))
  all_goals first | exact end_s rfl plain_int rfl (sys_plain stA_plain) | (exfalso; omega) | skip
set_option maxHeartbeats 1600000 in
theorem k_makeS_ref (hv : chkS l C H = 0) {a n k : Nat} (hk : k < 7) (h1 : 1 ≤ n) (h2 : a + n ≤ 1024) (h : okH M a n) (hr : isR l C k = true) : LocS 66 [.int .i64 (a : Nat), .int .i64 (n : Nat), .agg [.int .i64 (k : Nat), .fn 71 [] [], .fn 72 [] []]] (sysB K M B (stA l C H)) (.int .i64 60) (sysB K M B (stA l (C1 C k) (H1 l C H k))) := by
  refine LocS.mk (loc_x hmix b66 rfl ?_) (sys_plain stA_plain) (sys_plain stA_plain) plain_chg plain_int
  have z := k_allS (K := K) (M := M) (B := B) (stA l C H) stA_plain a n h2
  rw [decide_eq_true h] at z
  have z2 := k_ref (K := K) (M := M) (B := B) hv hk
  rw [hr] at z2
  unfold c66
  (refine wh ?_; repeat' (first | with_reducible refine And.intro ?_ ?_ | intro hsp))
  all_goals first | exact end_s rfl plain_int rfl (sys_plain stA_plain) | (exfalso; omega) | skip
set_option maxHeartbeats 1600000 in
theorem k_makeS_ok (hv : chkS l C H = 0) {a n k : Nat} (hk : k < 7) (h1 : 1 ≤ n) (h2 : a + n ≤ 1024) (h : okH M a n) (hr : isR l C k = false) : LocS 66 [.int .i64 (a : Nat), .int .i64 (n : Nat), .agg [.int .i64 (k : Nat), .fn 71 [] [], .fn 72 [] []]] (sysB K M B (stA l C H)) (.int .i64 0) (sysB K (setM M a n false) B (stA l (C1 C k) (H1 l C H k))) := by
  refine LocS.mk (loc_x hmix b66 rfl ?_) (sys_plain stA_plain) (sys_plain stA_plain) plain_chg plain_int
  have z := k_allS (K := K) (M := M) (B := B) (stA l C H) stA_plain a n h2
  rw [decide_eq_true h] at z
  have z2 := k_ref (K := K) (M := M) (B := B) hv hk
  rw [hr] at z2
  have z3 := k_eachS (K := K) (M := M) (B := B) (stA l (C1 C k) (H1 l C H k)) stA_plain a n h2
  unfold c66
  (refine wh ?_; repeat' (first | with_reducible refine And.intro ?_ ?_ | intro hsp))
  all_goals first | exact end_s rfl plain_int rfl (sys_plain stA_plain) | (exfalso; omega) | skip
end
end Go.Proofs.Ytjlbfijjfjogiaa
namespace Go.Pol
/-- Is that the first page of a group? -/
def fst (x : Int) : Prop := 0 ≤ x ∧ x < 1024 ∧ x.tmod 16 = 0
instance (x : Int) : Decidable (fst x) := by unfold fst; infer_instance
end Go.Pol
namespace Go.Proofs.Ytjlbfijjfjogiaa
open Go Go.Am Go.Pol
theorem wf {p q : Prop} (hq : q) (h : HidP q → p := by (intro hQz; ((repeat' ((try (conv => whnf)); first | (with_reducible first | refine run_cons ?_ | refine runq_cons ?_ | refine code_seq ?_ | refine code_reg ?_ | refine code_cond ?_ | refine run_nil ?_ | refine runq_nil ?_ | refine rund_op rfl ?_ | refine rund_nil ?_ | refine code_block ?_ | refine code_skip ?_ | refine code_exit ?_ | refine code_ret ?_ | refine code_range ?_ | refine rund_fast (by decide +kernel) ?_ | refine rund_slow (by decide +kernel) ?_ | refine br_tt ?_ | refine br_ff ?_ | refine br_n ?_ | refine br_and ?_ | refine br_or ?_ | refine br_t (by assumption) ?_ | refine br_f (by assumption) ?_ | refine eq_i64 (by omega) ?_ | refine el_tn ?_) | ((with_reducible refine br_dt ?_ ?_); focus omega) | ((with_reducible refine br_df ?_ ?_); focus omega) | ((with_reducible apply br_dq hQz) <;> (try intro hsp hQz)) | ((with_reducible refine ck_x ?_ ?_); focus (first | omega | rfl | assumption | decide | (simp only [List.length_map, List.length_cons, List.length_nil]; omega))) | (with_reducible first | refine eq_tn ?_ | refine eq_tn1 ?_ | refine eq_tn2 ?_ | refine eq_m1 ?_ | refine eq_m2 ?_ | refine eq_zm ?_ | refine eq_z ?_ | refine len_map ?_ | refine len_sl ?_ | refine len_nils ?_ | refine len_own' ?_ | refine len_isl ?_ | refine eq_u8 (by omega) ?_ | refine eq_u16 (by omega) ?_) | refine nthK_of sys_made ?_ | refine nthK_of (by with_reducible assumption) ?_ | refine eq_of (by with_reducible assumption) ?_ | (with_reducible first | refine eq_rfl ?_ | refine ChkX.mk (by kernel_rfl) ?_ | refine code_q rfl ?_ | refine code_d (by decide +kernel) ?_ | refine end_go rfl ?_) | refine cx_pureS (by assumption) ?_ | refine dcx_pureS (by assumption) ?_ | refine qcx_pureS (by assumption) ?_ | refine cx_locS (by assumption) rfl (by omega) ?_ | (refine cx_in hmix b47 rfl ?_; unfold c47) | refine len_map ?_ | refine len_isl ?_ | refine el_of rfl rfl ?_ | refine del_own ?_ | refine del_own' rfl ?_ | refine as_go rfl ?_ | refine rd_go rfl ?_ | refine rg_end rfl ?_ | refine flat_ownX ?_ | refine EqLX.mk ?_ | ((with_reducible apply br_bq hQz) <;> (try intro hsp hQz)) | exact hQz.out)) <;> (try (conv => whnf))))) : p := h ⟨hq⟩
section
variable {K : Nat → Int} {M G : Nat → Bool} {B : Nat → Nat → Int} {P ds : List AV} {r : AV}
theorem k_first (x : Int) : PureS 39 [.int .i64 x] (.bool (decide (fst x))) := by
  refine PureS.mk (pure_x hmix b39 plainG ⟨plain_int, trivial⟩ plain_bool rfl ?_)
  unfold c39
  (refine wf ?_; repeat' (first | with_reducible refine And.intro ?_ ?_ | intro hsp))
  all_goals exact end_bool (by simp [fst, *])
set_option maxHeartbeats 1600000 in
theorem k_join_range (hP : ∀ x ∈ P, Plain x) {a : Int} (h : ¬ fst a) : LocS 51 [.int .i64 a] (sysB K M B P) (.int .i64 7) (sysB K M B P) := by
  refine LocS.mk (loc_x hmix b51 rfl ?_) (sys_plain hP) (sys_plain hP) (plain_1 plain_int) plain_int
  have z := k_first a
  rw [decide_eq_false h] at z
  unfold c51
  (refine wf ?_; repeat' (first | with_reducible refine And.intro ?_ ?_ | intro hsp))
  all_goals exact end_s rfl plain_int rfl (sys_plain hP)
set_option maxHeartbeats 1600000 in
theorem k_join_twice (hP : ∀ x ∈ P, Plain x) {a : Nat} (h : fst a) (hm : M a = true) : LocS 51 [.int .i64 a] (sysB K M B P) (.int .i64 8) (sysB K M B P) := by
  refine LocS.mk (loc_x hmix b51 rfl ?_) (sys_plain hP) (sys_plain hP) (plain_1 plain_int) plain_int
  have z := k_first a
  have ha := h.2.1
  rw [decide_eq_true h] at z
  have hh : (sysB K M B P)[1 + (a : Nat) * 66 + 1]? = some (.bool (M a)) := sys_huge (by omega)
  rw [hm] at hh
  have hh' : (sysB K M B P)[1 + ((a : Int)).toNat * 66 + 1]? = some (.bool true) := hh
  unfold c51
  (refine wf ?_; repeat' (first | with_reducible refine And.intro ?_ ?_ | intro hsp))
  all_goals first | exact end_s rfl plain_int rfl (sys_plain hP) | skip
set_option maxHeartbeats 1600000 in
theorem k_join (hP : ∀ x ∈ P, Plain x) {a : Nat} (h : fst a) (hm : M a = false) (hq : LocS 66 [.int .i64 (a : Nat), .int .i64 16, .agg [.int .i64 5, .fn 79 [] [], .fn 80 [] []]] (sysB K M B P) r ds) : LocS 51 [.int .i64 a] (sysB K M B P) r ds := by
  refine LocS.mk (loc_x hmix b51 rfl ?_) (sys_plain hP) hq.pd (plain_1 plain_int) hq.pr
  have z := k_first a
  have ha := h.2.1
  rw [decide_eq_true h] at z
  have hh : (sysB K M B P)[1 + (a : Nat) * 66 + 1]? = some (.bool (M a)) := sys_huge (by omega)
  rw [hm] at hh
  have hh' : (sysB K M B P)[1 + ((a : Int)).toNat * 66 + 1]? = some (.bool false) := hh
  unfold c51
  (refine wf ?_; repeat' (first | with_reducible refine And.intro ?_ ?_ | intro hsp))
  all_goals first | exact end_s rfl hq.pr rfl hq.pd | skip
set_option maxHeartbeats 1600000 in
theorem k_split_range (hP : ∀ x ∈ P, Plain x) {a : Int} (h : ¬ fst a) : LocS 33 [.int .i64 a] (sysB K M B P) (.int .i64 7) (sysB K M B P) := by
  refine LocS.mk (loc_x hmix b33 rfl ?_) (sys_plain hP) (sys_plain hP) (plain_1 plain_int) plain_int
  have z := k_first a
  rw [decide_eq_false h] at z
  unfold c33
  (refine wf ?_; repeat' (first | with_reducible refine And.intro ?_ ?_ | intro hsp))
  all_goals exact end_s rfl plain_int rfl (sys_plain hP)
set_option maxHeartbeats 1600000 in
theorem k_split (hP : ∀ x ∈ P, Plain x) {a : Nat} (h : fst a) (hq : LocS 66 [.int .i64 (a : Nat), .int .i64 16, .agg [.int .i64 6, .fn 71 [] [], .fn 72 [] []]] (sysB K M B P) r ds) : LocS 33 [.int .i64 a] (sysB K M B P) r ds := by
  refine LocS.mk (loc_x hmix b33 rfl ?_) (sys_plain hP) hq.pd (plain_1 plain_int) hq.pr
  have z := k_first a
  rw [decide_eq_true h] at z
  unfold c33
  (refine wf ?_; repeat' (first | with_reducible refine And.intro ?_ ?_ | intro hsp))
  all_goals first | exact end_s rfl hq.pr rfl hq.pd | skip
end
end Go.Proofs.Ytjlbfijjfjogiaa
namespace Go.Pol
open Go.Am
/-- The state of a system: kinds, huge groups, bytes, refusals. -/
structure Sy where
  K : Nat → Int
  G : Nat → Bool
  B : Nat → Nat → Int
  l : List Rl
  C : Nat → Int
  H : Nat → Int
def Sy.M (s : Sy) (p : Nat) : Bool := s.G (p / 16)
@[irreducible] def Sy.P (s : Sy) : List AV := stA s.l s.C s.H
@[irreducible] def Sy.a (s : Sy) : List AV := sysB s.K s.M s.B (stA s.l s.C s.H)
@[irreducible] def Sy.b (s : Sy) : List AV := refK s.K s.G s.B (stA s.l s.C s.H)
structure GoodS (s : Sy) : Prop where
  hv : chkS s.l s.C s.H = 0
  kind : ∀ p, 0 ≤ s.K p ∧ s.K p ≤ 3
  huge : ∀ p, s.M p = true → s.K p = 2
  zero : ∀ p, s.K p ≠ 2 → s.B p = fun _ => 0
  cK : ∀ p, 1024 ≤ p → s.K p = 0
  cB : ∀ p j, 64 ≤ j → s.B p j = 0
/-- A call of a kind is counted. -/
def Sy.ref (s : Sy) (k : Nat) : Sy := { s with C := C1 s.C k, H := H1 s.l s.C s.H k }
def Sy.chg (s : Sy) (a n v w : Int) (k : Nat) : Int × Sy :=
  if n < 1 ∨ a < 0 ∨ 1024 ≤ a ∨ 1024 - a < n then (7, s) else
  if okR s.K s.M a.toNat n.toNat v then (if isR s.l s.C k then (60, s.ref k) else (0, { s.ref k with K := setR s.K a.toNat n.toNat w, B := setP s.B a.toNat n.toNat })) else (9, s)
def Sy.join (s : Sy) (a : Int) : Int × Sy :=
  if fst a then (if s.M a.toNat then (8, s) else if okC s.K a.toNat 16 then (if isR s.l s.C 5 then (60, s.ref 5) else (0, { s.ref 5 with G := updB s.G (a.toNat / 16) true })) else (9, s)) else (7, s)
def Sy.split (s : Sy) (a : Int) : Int × Sy :=
  if fst a then (if s.M a.toNat then (if isR s.l s.C 6 then (60, s.ref 6) else (0, { s.ref 6 with G := updB s.G (a.toNat / 16) false })) else (9, s)) else (7, s)
theorem chkS_ref {l : List Rl} {C H : Nat → Int} {k : Nat} (h : chkS l C H = 0) : chkS l (C1 C k) (H1 l C H k) = 0 := by
  obtain ⟨h1, h2, h3⟩ := chkS_ok h
  unfold chkS at h ⊢
  by_cases h4 : (chkP l).2 ≠ 0
  · rw [if_pos h4] at h; exact absurd h h4
  · rw [if_neg h4, if_pos]
    intro j hj
    obtain ⟨a1, a2, a3⟩ := h3 j hj
    unfold okK C1 H1
    by_cases h5 : C k < 1000000
    · simp only [if_pos h5]
      by_cases e : j = k
      · subst e
        have e1 : updI C j (C j + 1) j = C j + 1 := by simp [updI]
        rw [e1]
        refine ⟨by omega, by omega, ?_⟩
        rw [show (C j + 1).toNat = (C j).toNat + 1 by omega]
        show ((cnt l (j : Nat) (C j).toNat + (if refL l (j : Nat) (((C j).toNat + 1 : Nat) : Int) then 1 else 0) : Nat) : Int) = _
        rw [show (((C j).toNat + 1 : Nat) : Int) = C j + 1 by omega]
        cases refL l (j : Nat) (C j + 1) with
        | true => simp [updI]; omega
        | false => simp; omega
      · have e1 : updI C k (C k + 1) j = C j := by simp [updI, e]
        rw [e1]
        refine ⟨a1, a2, ?_⟩
        rw [a3]
        split
        · simp [updI, e]
        · rfl
    · simp only [if_neg h5]
      exact ⟨a1, a2, a3⟩
theorem good_ref {s : Sy} {k : Nat} (h : GoodS s) : GoodS (s.ref k) := ⟨chkS_ref h.hv, h.kind, h.huge, h.zero, h.cK, h.cB⟩
theorem good_chg {s : Sy} {a n v w : Int} {k : Nat} (h : GoodS s) (hw : 0 ≤ w ∧ w ≤ 3) : GoodS (s.chg a n v w k).2 := by
  unfold Sy.chg
  split
  · exact h
  · split
    · rename_i hr hok
      split
      · exact good_ref h
      · refine ⟨chkS_ref h.hv, fun p => ?_, fun p hp => ?_, fun p hp => ?_, fun p hp => ?_, fun p j hj => ?_⟩
        · show 0 ≤ setR s.K _ _ w p ∧ setR s.K _ _ w p ≤ 3
          unfold setR; split
          · exact hw
          · exact h.kind p
        · show setR s.K _ _ w p = 2
          unfold setR; split
          · rename_i hq
            have := (hok (p - a.toNat) (by omega)).2
            rw [show a.toNat + (p - a.toNat) = p by omega] at this
            rw [show s.M p = true from hp] at this; cases this
          · exact h.huge p hp
        · show setP s.B _ _ p = _
          have hp' : setR s.K a.toNat n.toNat w p ≠ 2 := hp
          unfold setR at hp'; unfold setP
          split at hp'
          · rename_i hq; rw [if_pos hq]
          · rename_i hq; rw [if_neg hq]; exact h.zero p hp'
        · show setR s.K _ _ w p = 0
          unfold setR; rw [if_neg (by omega)]; exact h.cK p hp
        · show setP s.B _ _ p j = 0
          unfold setP; split
          · rfl
          · exact h.cB p j hj
    · exact h
theorem fst_nat {a : Int} (h : fst a) : ∃ g : Nat, a = ((g * 16 : Nat) : Int) ∧ g < 64 := by
  obtain ⟨f1, f2, f3⟩ := h
  rw [Int.tmod_eq_emod_of_nonneg f1] at f3
  exact ⟨a.toNat / 16, by omega, by omega⟩
theorem good_join {s : Sy} {a : Int} (h : GoodS s) : GoodS (s.join a).2 := by
  unfold Sy.join
  split
  · rename_i hf
    split
    · exact h
    · split
      · rename_i hm hok
        split
        · exact good_ref h
        · refine ⟨chkS_ref h.hv, h.kind, fun p hp => ?_, h.zero, h.cK, h.cB⟩
          have hp' : updB s.G (a.toNat / 16) true (p / 16) = true := hp
          unfold updB at hp'
          split at hp'
          · rename_i e
            obtain ⟨g, rfl, hg⟩ := fst_nat hf
            simp only [Int.toNat_natCast] at *
            have := hok (p - g * 16) (by omega)
            rw [show g * 16 + (p - g * 16) = p by omega] at this
            exact this
          · exact h.huge p hp'
      · exact h
  · exact h
theorem good_split {s : Sy} {a : Int} (h : GoodS s) : GoodS (s.split a).2 := by
  unfold Sy.split
  split
  · split
    · split
      · exact good_ref h
      · refine ⟨chkS_ref h.hv, h.kind, fun p hp => ?_, h.zero, h.cK, h.cB⟩
        have hp' : updB s.G (a.toNat / 16) false (p / 16) = true := hp
        unfold updB at hp'
        split at hp'
        · cases hp'
        · exact h.huge p hp'
    · exact h
  · exact h
theorem updB_M {G : Nat → Bool} {g : Nat} {b : Bool} : (fun p => updB G g b (p / 16)) = setM (fun p => G (p / 16)) (g * 16) 16 b := by
  funext p; unfold updB setM
  by_cases h : p / 16 = g
  · rw [if_pos h, if_pos (by omega)]
  · rw [if_neg h, if_neg (by omega)]
theorem setM_same {M : Nat → Bool} {a n : Nat} {b : Bool} (h : ∀ i, i < n → M (a + i) = b) : setM M a n b = M := by
  funext p; unfold setM
  split
  · rename_i hq
    have := h (p - a) (by omega)
    rw [show a + (p - a) = p by omega] at this; exact this.symm
  · rfl
end Go.Pol
namespace Go.Proofs.Ytjlbfijjfjogiaa
open Go Go.Am Go.Pol
section
variable {s : Sy} {a n : Int}
theorem p_make {v w : Int} {k : Nat} (h : GoodS s) (hk : k < 7) : LocQ s.a (s.chg a n v w k).2.a v w a n (k : Nat) (.int .i64 (s.chg a n v w k).1) := by
  have pa : ∀ x ∈ s.a, Plain x := by unfold Sy.a; exact sys_plain stA_plain
  have pb : ∀ x ∈ (s.chg a n v w k).2.a, Plain x := by unfold Sy.a; exact sys_plain stA_plain
  refine LocQ.mk ?_ pa pb plain_int
  unfold Sy.chg
  by_cases h1 : n < 1 ∨ a < 0 ∨ 1024 ≤ a ∨ 1024 - a < n
  · rw [if_pos h1]; unfold Sy.a; exact k_make_range h1
  · rw [if_neg h1]
    obtain ⟨a', rfl⟩ : ∃ a' : Nat, a = (a' : Nat) := ⟨a.toNat, by omega⟩
    obtain ⟨n', rfl⟩ : ∃ n' : Nat, n = (n' : Nat) := ⟨n.toNat, by omega⟩
    simp only [Int.toNat_natCast]
    by_cases h2 : okR s.K s.M a' n' v
    · rw [if_pos h2]
      cases h3 : isR s.l s.C k with
      | true => rw [if_pos rfl]; unfold Sy.a Sy.ref; exact k_make_ref h.hv hk (by omega) (by omega) h2 h3
      | false =>
        rw [if_neg (by simp)]; unfold Sy.a Sy.ref
        have := k_make_ok (w := w) (B := s.B) h.hv hk (by omega) (by omega) h2 h3
        rw [setM_same fun i hi => (h2 i hi).2] at this
        exact this
    · rw [if_neg h2]; unfold Sy.a; exact k_make_down (by omega) (by omega) h2
theorem p_reserve (h : GoodS s) : LocS 36 [.int .i64 a, .int .i64 n] s.a (.int .i64 (s.chg a n 0 1 0).1) (s.chg a n 0 1 0).2.a := k_reserve (p_make h (by decide))
theorem p_release (h : GoodS s) : LocS 35 [.int .i64 a, .int .i64 n] s.a (.int .i64 (s.chg a n 1 0 1).1) (s.chg a n 1 0 1).2.a := k_release (p_make h (by decide))
theorem p_commit (h : GoodS s) : LocS 30 [.int .i64 a, .int .i64 n] s.a (.int .i64 (s.chg a n 1 2 2).1) (s.chg a n 1 2 2).2.a := k_commit (p_make h (by decide))
theorem p_decommit (h : GoodS s) : LocS 29 [.int .i64 a, .int .i64 n] s.a (.int .i64 (s.chg a n 2 1 3).1) (s.chg a n 2 1 3).2.a := k_decommit (p_make h (by decide))
theorem p_protect (h : GoodS s) {b : Bool} : LocS 34 [.int .i64 a, .int .i64 n, .bool b] s.a (.int .i64 (if b then s.chg a n 1 3 4 else s.chg a n 3 1 4).1) (if b then s.chg a n 1 3 4 else s.chg a n 3 1 4).2.a := by
  cases b with
  | true => exact k_protect_t (p_make h (by decide))
  | false => exact k_protect_f (p_make h (by decide))
theorem p_join (h : GoodS s) : LocS 51 [.int .i64 a] s.a (.int .i64 (s.join a).1) (s.join a).2.a := by
  unfold Sy.join
  by_cases h1 : fst a
  · rw [if_pos h1]
    obtain ⟨g, rfl, hg⟩ := fst_nat h1
    simp only [Int.toNat_natCast]
    cases h2 : s.M (g * 16) with
    | true => rw [if_pos rfl]; unfold Sy.a; exact k_join_twice stA_plain h1 h2
    | false =>
      rw [if_neg (by simp)]
      by_cases h3 : okC s.K (g * 16) 16
      · rw [if_pos h3]
        cases h4 : isR s.l s.C 5 with
        | true => rw [if_pos rfl]; unfold Sy.a Sy.ref; exact k_join stA_plain h1 h2 (k_makeJ_ref (n := 16) h.hv (by decide) (by omega) (by omega) h3 h4)
        | false =>
          rw [if_neg (by simp)]; unfold Sy.a Sy.ref
          have := k_join stA_plain h1 h2 (k_makeJ_ok (n := 16) (B := s.B) (M := s.M) h.hv (by decide) (by omega) (by omega) h3 h4)
          rw [show g * 16 / 16 = g by omega]
          have e : Sy.M { K := s.K, G := updB s.G g true, B := s.B, l := s.l, C := C1 s.C 5, H := H1 s.l s.C s.H 5 } = setM s.M (g * 16) 16 true := updB_M
          rw [e]; exact this
      · rw [if_neg h3]; unfold Sy.a; exact k_join stA_plain h1 h2 (k_makeJ_down (n := 16) (by omega) (by omega) h3)
  · rw [if_neg h1]; unfold Sy.a; exact k_join_range stA_plain h1
theorem okH_M {g : Nat} : okH s.M (g * 16) 16 ↔ s.M (g * 16) = true := by
  constructor
  · intro h; exact h 0 (by decide)
  · intro h i hi
    have e : (g * 16 + i) / 16 = g * 16 / 16 := by omega
    show s.G ((g * 16 + i) / 16) = true
    rw [e]; exact h
theorem p_split (h : GoodS s) : LocS 33 [.int .i64 a] s.a (.int .i64 (s.split a).1) (s.split a).2.a := by
  unfold Sy.split
  by_cases h1 : fst a
  · rw [if_pos h1]
    obtain ⟨g, rfl, hg⟩ := fst_nat h1
    simp only [Int.toNat_natCast]
    cases h2 : s.M (g * 16) with
    | true =>
      rw [if_pos rfl]
      have h3 := okH_M.2 h2
      cases h4 : isR s.l s.C 6 with
      | true => rw [if_pos rfl]; unfold Sy.a Sy.ref; exact k_split stA_plain h1 (k_makeS_ref (n := 16) h.hv (by decide) (by omega) (by omega) h3 h4)
      | false =>
        rw [if_neg (by simp)]; unfold Sy.a Sy.ref
        have := k_split stA_plain h1 (k_makeS_ok (n := 16) (B := s.B) (M := s.M) (K := s.K) h.hv (by decide) (by omega) (by omega) h3 h4)
        rw [show g * 16 / 16 = g by omega]
        have e : Sy.M { K := s.K, G := updB s.G g false, B := s.B, l := s.l, C := C1 s.C 6, H := H1 s.l s.C s.H 6 } = setM s.M (g * 16) 16 false := updB_M
        rw [e]; exact this
    | false =>
      rw [if_neg (by simp)]; unfold Sy.a
      exact k_split stA_plain h1 (k_makeS_down (n := 16) (by omega) (by omega) fun h => by rw [okH_M.1 h] at h2; cases h2)
  · rw [if_neg h1]; unfold Sy.a; exact k_split_range stA_plain h1
end
end Go.Proofs.Ytjlbfijjfjogiaa
