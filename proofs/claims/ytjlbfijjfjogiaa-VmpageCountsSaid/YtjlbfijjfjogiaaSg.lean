/-
  Join and Split of the program.
-/
import Derived.Test.YtjlbfijjfjogiaaSf
set_option linter.unusedSimpArgs false
set_option linter.unusedVariables false
namespace Go.Pol
/-- Are these pages committed? -/
def okC (K : Nat → Int) (a n : Nat) : Prop := ∀ i, i < n → K (a + i) = 2
instance (K : Nat → Int) (a n : Nat) : Decidable (okC K a n) := by unfold okC; infer_instance
/-- Are these pages huge? -/
def okH (M : Nat → Bool) (a n : Nat) : Prop := ∀ i, i < n → M (a + i) = true
instance (M : Nat → Bool) (a n : Nat) : Decidable (okH M a n) := by unfold okH; infer_instance
end Go.Pol
namespace Go.Proofs.Ytjlbfijjfjogiaa
open Go Go.Am Go.Pol
theorem wkx_Sg {p : Prop} (h : p := by (refine weak_s (by exact oneOf_of rfl) (by exact subH_of rfl) (by intro hs; (repeat' ((try (conv => whnf)); first | with_reducible exact True.intro | with_reducible refine And.intro ?_ ?_ | (with_reducible refine WkX.mk ?_; first | exact wk_undef | exact wk_int (by first | rfl | omega | (dsimp only; omega)) | exact wk_bool rfl | exact wk_ptr rfl (by first | decide | simp | omega) | exact wk_sl rfl (by first | decide | simp | omega) (by first | rfl | omega | simp) (by first | omega | simp) (by first | omega | simp) | exact wk_own rfl (by first | decide | simp | omega) | exact wk_nil0 (by first | rfl | simp) | exact wk_slown rfl (by first | decide | omega | (simp; done)) (by first | omega | (simp; done)) (by first | rfl | omega | (simp; done) | (simp; omega)) | exact wk_plain hs (by (first | assumption | exact plain_int | exact plain_bool | exact plain_undef | exact plain_nils | exact plain_nilp | exact plain_nilf | exact plain_str | with_reducible apply plain_rl | with_reducible apply plain_rls | with_reducible apply plain_pl | with_reducible apply plain_ii | with_reducible apply plain_st | with_reducible apply plain_stE | with_reducible apply plain_zst | with_reducible apply plain_zstE | with_reducible apply plain_irl | with_reducible apply plain_mk | with_reducible apply plain_stB | with_reducible apply plain_zstB)) | (with_reducible refine wk_fn ?_ ?_ <;> repeat' (first | with_reducible exact wkl_nil | with_reducible refine wkl_cons ?_ ?_ | exact wk_ptr rfl (by first | decide | simp | omega))) | (with_reducible refine wk_agg ?_; repeat' (first | with_reducible exact wkl_nil | with_reducible refine wkl_cons ?_ ?_ | exact wk_int (by first | rfl | omega | (dsimp only; omega)) | exact wk_bool rfl)) | exact wk_yld rfl (by first | decide | simp | omega))))) (by intro hs; (try dsimp only); (repeat' (first | with_reducible exact wko_nil | refine wko_plain hs (by first | decide | omega | simp) rfl (by first | rfl) (by (first | with_reducible assumption | with_reducible apply rlA_plain _ | with_reducible apply plain_flat rlA_plain | with_reducible apply stA_plain | with_reducible apply memT_plain | with_reducible apply sys_plain stA_plain | with_reducible apply rfk_plain stA_plain | with_reducible apply sys_plain hP | with_reducible apply rfk_plain hP | with_reducible apply plain_map (fun _ => plain_int) | with_reducible apply plain_map (fun _ => plain_bool) | ((repeat' (first | exact plain_all0 | refine plain_all2 ?_ ?_ | exact plain_int | first | assumption | exact plain_int | exact plain_bool | exact plain_undef | exact plain_nils | exact plain_nilp | exact plain_nilf | exact plain_str | with_reducible apply plain_rl | with_reducible apply plain_rls | with_reducible apply plain_pl | with_reducible apply plain_ii | with_reducible apply plain_st | with_reducible apply plain_stE | with_reducible apply plain_zst | with_reducible apply plain_zstE | with_reducible apply plain_irl | with_reducible apply plain_mk | with_reducible apply plain_stB | with_reducible apply plain_zstB)); done) | ((refine plain_app ?_ ?_) <;> (first | with_reducible assumption | with_reducible apply rlA_plain _ | with_reducible apply plain_flat rlA_plain | with_reducible apply stA_plain | with_reducible apply memT_plain | with_reducible apply sys_plain stA_plain | with_reducible apply rfk_plain stA_plain | with_reducible apply sys_plain hP | with_reducible apply rfk_plain hP | with_reducible apply plain_map (fun _ => plain_int) | with_reducible apply plain_map (fun _ => plain_bool) | ((repeat' (first | exact plain_all0 | refine plain_all2 ?_ ?_ | exact plain_int | first | assumption | exact plain_int | exact plain_bool | exact plain_undef | exact plain_nils | exact plain_nilp | exact plain_nilf | exact plain_str | with_reducible apply plain_rl | with_reducible apply plain_rls | with_reducible apply plain_pl | with_reducible apply plain_ii | with_reducible apply plain_st | with_reducible apply plain_stE | with_reducible apply plain_zst | with_reducible apply plain_zstE | with_reducible apply plain_irl | with_reducible apply plain_mk | with_reducible apply plain_stB | with_reducible apply plain_zstB)); done))))) ?_ | refine wko_cells (by first | decide | omega | simp) rfl (by repeat' (first | with_reducible exact wkl_nil | with_reducible refine wkl_cons ?_ ?_ | (first | exact wk_undef | exact wk_int (by first | rfl | omega | (dsimp only; omega)) | exact wk_bool rfl | exact wk_ptr rfl (by first | decide | simp | omega) | exact wk_sl rfl (by first | decide | simp | omega) (by first | rfl | omega | simp) (by first | omega | simp) (by first | omega | simp) | exact wk_own rfl (by first | decide | simp | omega) | exact wk_nil0 (by first | rfl | simp) | exact wk_slown rfl (by first | decide | omega | (simp; done)) (by first | omega | (simp; done)) (by first | rfl | omega | (simp; done) | (simp; omega)) | exact wk_plain hs (by (first | assumption | exact plain_int | exact plain_bool | exact plain_undef | exact plain_nils | exact plain_nilp | exact plain_nilf | exact plain_str | with_reducible apply plain_rl | with_reducible apply plain_rls | with_reducible apply plain_pl | with_reducible apply plain_ii | with_reducible apply plain_st | with_reducible apply plain_stE | with_reducible apply plain_zst | with_reducible apply plain_zstE | with_reducible apply plain_irl | with_reducible apply plain_mk | with_reducible apply plain_stB | with_reducible apply plain_zstB)) | (with_reducible refine wk_fn ?_ ?_ <;> repeat' (first | with_reducible exact wkl_nil | with_reducible refine wkl_cons ?_ ?_ | exact wk_ptr rfl (by first | decide | simp | omega))) | (with_reducible refine wk_agg ?_; repeat' (first | with_reducible exact wkl_nil | with_reducible refine wkl_cons ?_ ?_ | exact wk_int (by first | rfl | omega | (dsimp only; omega)) | exact wk_bool rfl)) | exact wk_yld rfl (by first | decide | simp | omega)))) ?_ | refine wko_loop (by first | decide | omega | simp) rfl (by ((try subst hF); (try subst hF2); exact wkl_sd (wkf_sget (by (repeat' ((try (conv => whnf)); first | with_reducible exact True.intro | with_reducible refine And.intro ?_ ?_ | (with_reducible refine WkX.mk ?_; first | exact wk_undef | exact wk_int (by first | rfl | omega | (dsimp only; omega)) | exact wk_bool rfl | exact wk_ptr rfl (by first | decide | simp | omega) | exact wk_sl rfl (by first | decide | simp | omega) (by first | rfl | omega | simp) (by first | omega | simp) (by first | omega | simp) | exact wk_own rfl (by first | decide | simp | omega) | exact wk_nil0 (by first | rfl | simp) | exact wk_slown rfl (by first | decide | omega | (simp; done)) (by first | omega | (simp; done)) (by first | rfl | omega | (simp; done) | (simp; omega)) | exact wk_plain hs (by (first | assumption | exact plain_int | exact plain_bool | exact plain_undef | exact plain_nils | exact plain_nilp | exact plain_nilf | exact plain_str | with_reducible apply plain_rl | with_reducible apply plain_rls | with_reducible apply plain_pl | with_reducible apply plain_ii | with_reducible apply plain_st | with_reducible apply plain_stE | with_reducible apply plain_zst | with_reducible apply plain_zstE | with_reducible apply plain_irl | with_reducible apply plain_mk | with_reducible apply plain_stB | with_reducible apply plain_zstB)) | (with_reducible refine wk_fn ?_ ?_ <;> repeat' (first | with_reducible exact wkl_nil | with_reducible refine wkl_cons ?_ ?_ | exact wk_ptr rfl (by first | decide | simp | omega))) | (with_reducible refine wk_agg ?_; repeat' (first | with_reducible exact wkl_nil | with_reducible refine wkl_cons ?_ ?_ | exact wk_int (by first | rfl | omega | (dsimp only; omega)) | exact wk_bool rfl)) | exact wk_yld rfl (by first | decide | simp | omega)))))))) ?_ | exact wko_nil))))) : p := h
theorem wj {p q : Prop} (hq : q) (h : HidP q → p := by (intro hQz; ((repeat' ((try (conv => whnf)); first | (with_reducible first | refine run_cons ?_ | refine runq_cons ?_ | refine code_seq ?_ | refine code_reg ?_ | refine code_cond ?_ | refine run_nil ?_ | refine runq_nil ?_ | refine rund_op rfl ?_ | refine rund_nil ?_ | refine code_block ?_ | refine code_skip ?_ | refine code_exit ?_ | refine code_ret ?_ | refine code_range ?_ | refine rund_fast (by decide +kernel) ?_ | refine rund_slow (by decide +kernel) ?_ | refine br_tt ?_ | refine br_ff ?_ | refine br_n ?_ | refine br_and ?_ | refine br_or ?_ | refine br_t (by assumption) ?_ | refine br_f (by assumption) ?_ | refine eq_i64 (by omega) ?_ | refine el_tn ?_) | ((with_reducible refine br_dt ?_ ?_); focus omega) | ((with_reducible refine br_df ?_ ?_); focus omega) | ((with_reducible apply br_dq hQz) <;> (try intro hsp hQz)) | ((with_reducible refine ck_x ?_ ?_); focus (first | omega | rfl | assumption | decide | (simp only [List.length_map, List.length_cons, List.length_nil]; omega))) | (with_reducible first | refine eq_tn ?_ | refine eq_tn1 ?_ | refine eq_tn2 ?_ | refine eq_m1 ?_ | refine eq_m2 ?_ | refine eq_zm ?_ | refine eq_z ?_ | refine len_map ?_ | refine len_sl ?_ | refine len_nils ?_ | refine len_own' ?_ | refine len_isl ?_ | refine eq_u8 (by omega) ?_ | refine eq_u16 (by omega) ?_) | refine nthK_of sys_made ?_ | refine nthK_of (by with_reducible assumption) ?_ | refine eq_of (by with_reducible assumption) ?_ | refine set1K_of (by rw [sys_len]; omega) (by with_reducible assumption) ?_ | (with_reducible first | refine eq_rfl ?_ | refine ChkX.mk (by kernel_rfl) ?_ | refine code_q rfl ?_ | refine code_d (by decide +kernel) ?_ | refine end_go rfl ?_) | refine cx_locS (by assumption) rfl (by omega) ?_ | (refine cx_in hmix b47 rfl ?_; unfold c47) | (refine cx_in hmix b39 rfl ?_; unfold c39) | (refine cx_in hmix b79 rfl ?_; unfold c79) | (refine cx_in hmix b80 rfl ?_; unfold c80) | (refine cx_in hmix b71 rfl ?_; unfold c71) | (refine cx_in hmix b72 rfl ?_; unfold c72) | refine len_map ?_ | refine len_isl ?_ | refine el_of rfl rfl ?_ | refine del_own ?_ | refine del_own' rfl ?_ | refine as_go rfl ?_ | refine rd_go rfl ?_ | refine rg_end rfl ?_ | refine flat_ownX ?_ | refine EqLX.mk ?_ | ((with_reducible apply br_bq hQz) <;> (try intro hsp hQz)) | exact hQz.out)) <;> (try (conv => whnf))))) : p := h ⟨hq⟩
section
variable {K : Nat → Int} {M G : Nat → Bool} {B : Nat → Nat → Int} {l : List Rl} {C H : Nat → Int}
theorem plain_fn0 {f : Nat} : Plain (.fn f [] []) := plain_fn (by simp) (by simp)
theorem plain_3f {a n : Int} {f : Nat} : ∀ x ∈ [AV.int .i64 a, .int .i64 n, .fn f [] []], Plain x := fun x hx => by
  rcases List.mem_cons.1 hx with rfl | hx
  · exact plain_int
  · exact plain_2 plain_int plain_fn0 x hx
set_option maxHeartbeats 1600000 in
theorem k_allJ (P : List AV) (hP : ∀ x ∈ P, Plain x) (a n : Nat) (hn : a + n ≤ 1024) : LocS 40 [.int .i64 (a : Nat), .int .i64 (n : Nat), .fn 79 [] []] (sysB K M B P) (.bool (decide (okC K a n))) (sysB K M B P) := by
  refine LocS.mk (loc_x hmix b40 rfl ?_) (sys_plain hP) (sys_plain hP) plain_3f plain_bool
  unfold c40
  (refine wj ?_; repeat' (first | with_reducible refine And.intro ?_ ?_ | intro hsp))
  (refine loop_x [0, 1, 2, 3, 10] (fun (i : Nat) => [(11, .int .i64 (i : Nat))]) (fun (i : Nat) => ⟨[(0, .cells (sysB K M B P))], 1⟩) (fun (i : Nat) => i ≤ n ∧ ∀ j, j < i → K (a + j) = 2) (fun (i : Nat) => n - i) (0) [] rfl (fun _ => by first | exact Nat.zero_le _ | (dsimp only; omega)) ?_ (by ((try (conv => whnf)); exact wkx_Sg)) ?_)
  · exact ⟨Nat.zero_le _, fun j hj => by omega⟩
  rintro i ⟨hi, h0⟩
  by_cases hin : i < n
  · have ht : ((a : Int) + (i : Int)).toNat = a + i := by omega
    have hk : (sysB K M B P)[1 + ((a : Int) + (i : Int)).toNat * 66 + 0]? = some (.int .i64 (K (a + i))) := by rw [ht]; exact sys_kind (by omega)
    by_cases h1 : K (a + i) = 2
    · (refine wj ?_; repeat' (first | with_reducible refine And.intro ?_ ?_ | intro hsp))
      all_goals first | (exfalso; exact absurd h1 (by assumption)) | skip
      all_goals exact next_x (i + 1) [] ⟨by omega, fun j hj => if e : j = i then by rw [e]; exact h1 else h0 j (by omega)⟩ (by first | omega | (dsimp only; omega)) rfl (by exact wkx_Sg)
    · rw [decide_eq_false fun h => h1 (h i hin)]
      (refine wj ?_; repeat' (first | with_reducible refine And.intro ?_ ?_ | intro hsp))
      all_goals exact end_s rfl plain_bool rfl (sys_plain hP)
  · have hok : okC K a n := fun j hj => h0 j (by omega)
    rw [decide_eq_true hok]
    (refine wj ?_; repeat' (first | with_reducible refine And.intro ?_ ?_ | intro hsp))
    all_goals exact end_s rfl plain_bool rfl (sys_plain hP)
set_option maxHeartbeats 1600000 in
theorem k_eachJ (P : List AV) (hP : ∀ x ∈ P, Plain x) (a n : Nat) (hn : a + n ≤ 1024) : LocS 42 [.int .i64 (a : Nat), .int .i64 (n : Nat), .fn 80 [] []] (sysB K M B P) (.tup []) (sysB K (setM M a n true) B P) := by
  refine LocS.mk (loc_x hmix b42 rfl ?_) (sys_plain hP) (sys_plain hP) plain_3f (plain_tup fun x hx => by cases hx)
  unfold c42
  have e0 : sysB K M B P = sysB K (setM M a 0 true) B P := by rw [setM_0]
  rw [e0]
  (refine wj ?_; repeat' (first | with_reducible refine And.intro ?_ ?_ | intro hsp))
  (refine loop_x [0, 1, 2, 3, 9] (fun (i : Nat) => [(10, .int .i64 (i : Nat))]) (fun (i : Nat) => ⟨[(0, .cells (sysB K (setM M a i true) B P))], 1⟩) (fun (i : Nat) => i ≤ n) (fun (i : Nat) => n - i) (0) [] rfl (fun _ => by first | exact Nat.zero_le _ | (dsimp only; omega)) ?_ (by ((try (conv => whnf)); exact wkx_Sg)) ?_)
  · exact Nat.zero_le _
  rintro i hi
  by_cases hin : i < n
  · have ht : ((a : Int) + (i : Int)).toNat = a + i := by omega
    have hl : 1 + ((a : Int) + (i : Int)).toNat * 66 + 66 ≤ 67600 := by omega
    have hs : (sysB K (setM M a i true) B P).set (1 + ((a : Int) + (i : Int)).toNat * 66 + 1) (.bool true) = sysB K (setM M a (i + 1) true) B P := by rw [ht, sys_setHuge (by omega), setM_s]
    (refine wj ?_; repeat' (first | with_reducible refine And.intro ?_ ?_ | intro hsp))
    all_goals exact next_x (i + 1) [] (by (try dsimp only); omega) (by first | omega | (dsimp only; omega)) rfl (by exact wkx_Sg)
  · obtain rfl : i = n := by omega
    (refine wj ?_; repeat' (first | with_reducible refine And.intro ?_ ?_ | intro hsp))
    all_goals exact end_s rfl (plain_tup fun x hx => by cases hx) rfl (sys_plain hP)
set_option maxHeartbeats 1600000 in
theorem k_eachS (P : List AV) (hP : ∀ x ∈ P, Plain x) (a n : Nat) (hn : a + n ≤ 1024) : LocS 42 [.int .i64 (a : Nat), .int .i64 (n : Nat), .fn 72 [] []] (sysB K M B P) (.tup []) (sysB K (setM M a n false) B P) := by
  refine LocS.mk (loc_x hmix b42 rfl ?_) (sys_plain hP) (sys_plain hP) plain_3f (plain_tup fun x hx => by cases hx)
  unfold c42
  have e0 : sysB K M B P = sysB K (setM M a 0 false) B P := by rw [setM_0]
  rw [e0]
  (refine wj ?_; repeat' (first | with_reducible refine And.intro ?_ ?_ | intro hsp))
  (refine loop_x [0, 1, 2, 3, 9] (fun (i : Nat) => [(10, .int .i64 (i : Nat))]) (fun (i : Nat) => ⟨[(0, .cells (sysB K (setM M a i false) B P))], 1⟩) (fun (i : Nat) => i ≤ n) (fun (i : Nat) => n - i) (0) [] rfl (fun _ => by first | exact Nat.zero_le _ | (dsimp only; omega)) ?_ (by ((try (conv => whnf)); exact wkx_Sg)) ?_)
  · exact Nat.zero_le _
  rintro i hi
  by_cases hin : i < n
  · have ht : ((a : Int) + (i : Int)).toNat = a + i := by omega
    have hl : 1 + ((a : Int) + (i : Int)).toNat * 66 + 66 ≤ 67600 := by omega
    have hs : (sysB K (setM M a i false) B P).set (1 + ((a : Int) + (i : Int)).toNat * 66 + 1) (.bool false) = sysB K (setM M a (i + 1) false) B P := by rw [ht, sys_setHuge (by omega), setM_s]
    (refine wj ?_; repeat' (first | with_reducible refine And.intro ?_ ?_ | intro hsp))
    all_goals exact next_x (i + 1) [] (by (try dsimp only); omega) (by first | omega | (dsimp only; omega)) rfl (by exact wkx_Sg)
  · obtain rfl : i = n := by omega
    (refine wj ?_; repeat' (first | with_reducible refine And.intro ?_ ?_ | intro hsp))
    all_goals exact end_s rfl (plain_tup fun x hx => by cases hx) rfl (sys_plain hP)
set_option maxHeartbeats 1600000 in
theorem k_allS (P : List AV) (hP : ∀ x ∈ P, Plain x) (a n : Nat) (hn : a + n ≤ 1024) : LocS 40 [.int .i64 (a : Nat), .int .i64 (n : Nat), .fn 71 [] []] (sysB K M B P) (.bool (decide (okH M a n))) (sysB K M B P) := by
  refine LocS.mk (loc_x hmix b40 rfl ?_) (sys_plain hP) (sys_plain hP) plain_3f plain_bool
  unfold c40
  (refine wj ?_; repeat' (first | with_reducible refine And.intro ?_ ?_ | intro hsp))
  (refine loop_x [0, 1, 2, 3, 10] (fun (i : Nat) => [(11, .int .i64 (i : Nat))]) (fun (i : Nat) => ⟨[(0, .cells (sysB K M B P))], 1⟩) (fun (i : Nat) => i ≤ n ∧ ∀ j, j < i → M (a + j) = true) (fun (i : Nat) => n - i) (0) [] rfl (fun _ => by first | exact Nat.zero_le _ | (dsimp only; omega)) ?_ (by ((try (conv => whnf)); exact wkx_Sg)) ?_)
  · exact ⟨Nat.zero_le _, fun j hj => by omega⟩
  rintro i ⟨hi, h0⟩
  by_cases hin : i < n
  · have ht : ((a : Int) + (i : Int)).toNat = a + i := by omega
    have hh : (sysB K M B P)[1 + ((a : Int) + (i : Int)).toNat * 66 + 1]? = some (.bool (M (a + i))) := by rw [ht]; exact sys_huge (by omega)
    cases h1 : M (a + i) with
    | true =>
      rw [h1] at hh
      (refine wj ?_; repeat' (first | with_reducible refine And.intro ?_ ?_ | intro hsp))
      all_goals exact next_x (i + 1) [] ⟨by omega, fun j hj => if e : j = i then by rw [e]; exact h1 else h0 j (by omega)⟩ (by first | omega | (dsimp only; omega)) rfl (by exact wkx_Sg)
    | false =>
      rw [h1] at hh
      rw [decide_eq_false fun h => by have := h i hin; rw [h1] at this; cases this]
      (refine wj ?_; repeat' (first | with_reducible refine And.intro ?_ ?_ | intro hsp))
      all_goals exact end_s rfl plain_bool rfl (sys_plain hP)
  · have hok : okH M a n := fun j hj => h0 j (by omega)
    rw [decide_eq_true hok]
    (refine wj ?_; repeat' (first | with_reducible refine And.intro ?_ ?_ | intro hsp))
    all_goals exact end_s rfl plain_bool rfl (sys_plain hP)
end
end Go.Proofs.Ytjlbfijjfjogiaa
