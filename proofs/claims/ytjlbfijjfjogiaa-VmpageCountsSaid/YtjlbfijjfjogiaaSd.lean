/-
  The program's make: pages of one kind become another.
-/
import Derived.Test.YtjlbfijjfjogiaaSc
set_option linter.unusedSimpArgs false
set_option linter.unusedVariables false
namespace Go.Pol
open Go.Am
def setR (K : Nat → Int) (at_ n : Nat) (v : Int) : Nat → Int := fun p => if at_ ≤ p ∧ p < at_ + n then v else K p
def setM (M : Nat → Bool) (at_ n : Nat) (v : Bool) : Nat → Bool := fun p => if at_ ≤ p ∧ p < at_ + n then v else M p
def setP (B : Nat → Nat → Int) (at_ n : Nat) : Nat → Nat → Int := fun p => if at_ ≤ p ∧ p < at_ + n then fun _ => 0 else B p
theorem setR_0 {K : Nat → Int} {a : Nat} {v : Int} : setR K a 0 v = K := by funext p; unfold setR; rw [if_neg (by omega)]
theorem setM_0 {K : Nat → Bool} {a : Nat} {v : Bool} : setM K a 0 v = K := by funext p; unfold setM; rw [if_neg (by omega)]
theorem setP_0 {K : Nat → Nat → Int} {a : Nat} : setP K a 0 = K := by funext p; unfold setP; rw [if_neg (by omega)]
theorem setR_s {K : Nat → Int} {a i : Nat} {v : Int} : updI (setR K a i v) (a + i) v = setR K a (i + 1) v := by
  funext p; unfold setR updI
  by_cases h : p = a + i
  · rw [if_pos h, if_pos (by omega)]
  · rw [if_neg h]
    by_cases h2 : a ≤ p ∧ p < a + i
    · exact (if_pos h2).trans (if_pos (by omega)).symm
    · exact (if_neg h2).trans (if_neg (by omega)).symm
theorem setM_s {K : Nat → Bool} {a i : Nat} {v : Bool} : updB (setM K a i v) (a + i) v = setM K a (i + 1) v := by
  funext p; unfold setM updB
  by_cases h : p = a + i
  · rw [if_pos h, if_pos (by omega)]
  · rw [if_neg h]
    by_cases h2 : a ≤ p ∧ p < a + i
    · exact (if_pos h2).trans (if_pos (by omega)).symm
    · exact (if_neg h2).trans (if_neg (by omega)).symm
theorem setP_s {K : Nat → Nat → Int} {a i : Nat} : updP (setP K a i) (a + i) (fun _ => 0) = setP K a (i + 1) := by
  funext p; unfold setP updP
  by_cases h : p = a + i
  · rw [if_pos h, if_pos (by omega)]
  · rw [if_neg h]
    by_cases h2 : a ≤ p ∧ p < a + i
    · exact (if_pos h2).trans (if_pos (by omega)).symm
    · exact (if_neg h2).trans (if_neg (by omega)).symm
/-- May these pages become another kind? -/
def okR (K : Nat → Int) (M : Nat → Bool) (at_ n : Nat) (v : Int) : Prop := ∀ i, i < n → K (at_ + i) = v ∧ M (at_ + i) = false
instance (K : Nat → Int) (M : Nat → Bool) (at_ n : Nat) (v : Int) : Decidable (okR K M at_ n v) := by unfold okR; infer_instance
end Go.Pol
namespace Go.Proofs.Ytjlbfijjfjogiaa
open Go Go.Am Go.Pol
theorem wkx_Sd {p : Prop} (h : p := by (refine weak_s (by exact oneOf_of rfl) (by exact subH_of rfl) (by intro hs; (repeat' ((try (conv => whnf)); first | with_reducible exact True.intro | with_reducible refine And.intro ?_ ?_ | (with_reducible refine WkX.mk ?_; first | exact wk_undef | exact wk_int (by first | rfl | omega | (dsimp only; omega)) | exact wk_bool rfl | exact wk_ptr rfl (by first | decide | simp | omega) | exact wk_sl rfl (by first | decide | simp | omega) (by first | rfl | omega | simp) (by first | omega | simp) (by first | omega | simp) | exact wk_own rfl (by first | decide | simp | omega) | exact wk_nil0 (by first | rfl | simp) | exact wk_slown rfl (by first | decide | omega | (simp; done)) (by first | omega | (simp; done)) (by first | rfl | omega | (simp; done) | (simp; omega)) | exact wk_plain hs (by (first | assumption | exact plain_int | exact plain_bool | exact plain_undef | exact plain_nils | exact plain_nilp | exact plain_nilf | exact plain_str | with_reducible apply plain_rl | with_reducible apply plain_rls | with_reducible apply plain_pl | with_reducible apply plain_ii | with_reducible apply plain_st | with_reducible apply plain_stE | with_reducible apply plain_zst | with_reducible apply plain_zstE | with_reducible apply plain_irl | with_reducible apply plain_mk | with_reducible apply plain_stB | with_reducible apply plain_zstB)) | (with_reducible refine wk_fn ?_ ?_ <;> repeat' (first | with_reducible exact wkl_nil | with_reducible refine wkl_cons ?_ ?_ | exact wk_ptr rfl (by first | decide | simp | omega))) | (with_reducible refine wk_agg ?_; repeat' (first | with_reducible exact wkl_nil | with_reducible refine wkl_cons ?_ ?_ | exact wk_int (by first | rfl | omega | (dsimp only; omega)) | exact wk_bool rfl)) | exact wk_yld rfl (by first | decide | simp | omega))))) (by intro hs; (try dsimp only); (repeat' (first | with_reducible exact wko_nil | refine wko_plain hs (by first | decide | omega | simp) rfl (by first | rfl) (by (first | with_reducible assumption | with_reducible apply rlA_plain _ | with_reducible apply plain_flat rlA_plain | with_reducible apply stA_plain | with_reducible apply memT_plain | with_reducible apply sys_plain stA_plain | with_reducible apply rfk_plain stA_plain | with_reducible apply sys_plain hP | with_reducible apply rfk_plain hP | with_reducible apply plain_map (fun _ => plain_int) | with_reducible apply plain_map (fun _ => plain_bool) | ((repeat' (first | exact plain_all0 | refine plain_all2 ?_ ?_ | exact plain_int | first | assumption | exact plain_int | exact plain_bool | exact plain_undef | exact plain_nils | exact plain_nilp | exact plain_nilf | exact plain_str | with_reducible apply plain_rl | with_reducible apply plain_rls | with_reducible apply plain_pl | with_reducible apply plain_ii | with_reducible apply plain_st | with_reducible apply plain_stE | with_reducible apply plain_zst | with_reducible apply plain_zstE | with_reducible apply plain_irl | with_reducible apply plain_mk | with_reducible apply plain_stB | with_reducible apply plain_zstB)); done) | ((refine plain_app ?_ ?_) <;> (first | with_reducible assumption | with_reducible apply rlA_plain _ | with_reducible apply plain_flat rlA_plain | with_reducible apply stA_plain | with_reducible apply memT_plain | with_reducible apply sys_plain stA_plain | with_reducible apply rfk_plain stA_plain | with_reducible apply sys_plain hP | with_reducible apply rfk_plain hP | with_reducible apply plain_map (fun _ => plain_int) | with_reducible apply plain_map (fun _ => plain_bool) | ((repeat' (first | exact plain_all0 | refine plain_all2 ?_ ?_ | exact plain_int | first | assumption | exact plain_int | exact plain_bool | exact plain_undef | exact plain_nils | exact plain_nilp | exact plain_nilf | exact plain_str | with_reducible apply plain_rl | with_reducible apply plain_rls | with_reducible apply plain_pl | with_reducible apply plain_ii | with_reducible apply plain_st | with_reducible apply plain_stE | with_reducible apply plain_zst | with_reducible apply plain_zstE | with_reducible apply plain_irl | with_reducible apply plain_mk | with_reducible apply plain_stB | with_reducible apply plain_zstB)); done))))) ?_ | refine wko_cells (by first | decide | omega | simp) rfl (by repeat' (first | with_reducible exact wkl_nil | with_reducible refine wkl_cons ?_ ?_ | (first | exact wk_undef | exact wk_int (by first | rfl | omega | (dsimp only; omega)) | exact wk_bool rfl | exact wk_ptr rfl (by first | decide | simp | omega) | exact wk_sl rfl (by first | decide | simp | omega) (by first | rfl | omega | simp) (by first | omega | simp) (by first | omega | simp) | exact wk_own rfl (by first | decide | simp | omega) | exact wk_nil0 (by first | rfl | simp) | exact wk_slown rfl (by first | decide | omega | (simp; done)) (by first | omega | (simp; done)) (by first | rfl | omega | (simp; done) | (simp; omega)) | exact wk_plain hs (by (first | assumption | exact plain_int | exact plain_bool | exact plain_undef | exact plain_nils | exact plain_nilp | exact plain_nilf | exact plain_str | with_reducible apply plain_rl | with_reducible apply plain_rls | with_reducible apply plain_pl | with_reducible apply plain_ii | with_reducible apply plain_st | with_reducible apply plain_stE | with_reducible apply plain_zst | with_reducible apply plain_zstE | with_reducible apply plain_irl | with_reducible apply plain_mk | with_reducible apply plain_stB | with_reducible apply plain_zstB)) | (with_reducible refine wk_fn ?_ ?_ <;> repeat' (first | with_reducible exact wkl_nil | with_reducible refine wkl_cons ?_ ?_ | exact wk_ptr rfl (by first | decide | simp | omega))) | (with_reducible refine wk_agg ?_; repeat' (first | with_reducible exact wkl_nil | with_reducible refine wkl_cons ?_ ?_ | exact wk_int (by first | rfl | omega | (dsimp only; omega)) | exact wk_bool rfl)) | exact wk_yld rfl (by first | decide | simp | omega)))) ?_ | refine wko_loop (by first | decide | omega | simp) rfl (by ((try subst hF); (try subst hF2); exact wkl_sd (wkf_sget (by (repeat' ((try (conv => whnf)); first | with_reducible exact True.intro | with_reducible refine And.intro ?_ ?_ | (with_reducible refine WkX.mk ?_; first | exact wk_undef | exact wk_int (by first | rfl | omega | (dsimp only; omega)) | exact wk_bool rfl | exact wk_ptr rfl (by first | decide | simp | omega) | exact wk_sl rfl (by first | decide | simp | omega) (by first | rfl | omega | simp) (by first | omega | simp) (by first | omega | simp) | exact wk_own rfl (by first | decide | simp | omega) | exact wk_nil0 (by first | rfl | simp) | exact wk_slown rfl (by first | decide | omega | (simp; done)) (by first | omega | (simp; done)) (by first | rfl | omega | (simp; done) | (simp; omega)) | exact wk_plain hs (by (first | assumption | exact plain_int | exact plain_bool | exact plain_undef | exact plain_nils | exact plain_nilp | exact plain_nilf | exact plain_str | with_reducible apply plain_rl | with_reducible apply plain_rls | with_reducible apply plain_pl | with_reducible apply plain_ii | with_reducible apply plain_st | with_reducible apply plain_stE | with_reducible apply plain_zst | with_reducible apply plain_zstE | with_reducible apply plain_irl | with_reducible apply plain_mk | with_reducible apply plain_stB | with_reducible apply plain_zstB)) | (with_reducible refine wk_fn ?_ ?_ <;> repeat' (first | with_reducible exact wkl_nil | with_reducible refine wkl_cons ?_ ?_ | exact wk_ptr rfl (by first | decide | simp | omega))) | (with_reducible refine wk_agg ?_; repeat' (first | with_reducible exact wkl_nil | with_reducible refine wkl_cons ?_ ?_ | exact wk_int (by first | rfl | omega | (dsimp only; omega)) | exact wk_bool rfl)) | exact wk_yld rfl (by first | decide | simp | omega)))))))) ?_ | exact wko_nil))))) : p := h
theorem wm {p q : Prop} (hq : q) (h : HidP q → p := by (intro hQz; ((repeat' ((try (conv => whnf)); first | (with_reducible first | refine run_cons ?_ | refine runq_cons ?_ | refine code_seq ?_ | refine code_reg ?_ | refine code_cond ?_ | refine run_nil ?_ | refine runq_nil ?_ | refine rund_op rfl ?_ | refine rund_nil ?_ | refine code_block ?_ | refine code_skip ?_ | refine code_exit ?_ | refine code_ret ?_ | refine code_range ?_ | refine rund_fast (by decide +kernel) ?_ | refine rund_slow (by decide +kernel) ?_ | refine br_tt ?_ | refine br_ff ?_ | refine br_n ?_ | refine br_and ?_ | refine br_or ?_ | refine br_t (by assumption) ?_ | refine br_f (by assumption) ?_ | refine eq_i64 (by omega) ?_ | refine el_tn ?_) | ((with_reducible refine br_dt ?_ ?_); focus omega) | ((with_reducible refine br_df ?_ ?_); focus omega) | ((with_reducible apply br_dq hQz) <;> (try intro hsp hQz)) | ((with_reducible refine ck_x ?_ ?_); focus (first | omega | rfl | assumption | decide | (simp only [List.length_map, List.length_cons, List.length_nil]; omega))) | (with_reducible first | refine eq_tn ?_ | refine eq_tn1 ?_ | refine eq_tn2 ?_ | refine eq_m1 ?_ | refine eq_m2 ?_ | refine eq_zm ?_ | refine eq_z ?_ | refine len_map ?_ | refine len_sl ?_ | refine len_nils ?_ | refine len_own' ?_ | refine len_isl ?_ | refine eq_u8 (by omega) ?_ | refine eq_u16 (by omega) ?_) | refine nthK_of (by with_reducible assumption) ?_ | refine nthK_of sys_made ?_ | refine eq_of (by with_reducible assumption) ?_ | refine overK_cons (by first | (rw [sys_len]; simp only [List.length_cons, List.length_nil]; omega) | fail) (by assumption) ?_ | (with_reducible first | refine eq_rfl ?_ | refine ChkX.mk (by kernel_rfl) ?_ | refine code_q rfl ?_ | refine code_d (by decide +kernel) ?_ | refine end_go rfl ?_) | refine cx_locS (by assumption) rfl (by omega) ?_ | refine dcx_locS (by assumption) rfl rfl ?_ | refine cx_pureS (by assumption) ?_ | (refine cx_in hmix b47 rfl ?_; unfold c47) | (refine cx_in hmix b40 rfl ?_; unfold c40) | (refine cx_in hmix b42 rfl ?_; unfold c42) | (refine cx_in hmix b85 rfl ?_; unfold c85) | (refine cx_in hmix b86 rfl ?_; unfold c86) | refine len_map ?_ | refine len_isl ?_ | refine el_of rfl rfl ?_ | refine del_own ?_ | refine del_own' rfl ?_ | refine as_go rfl ?_ | refine rd_go rfl ?_ | refine rg_end rfl ?_ | refine flat_ownX ?_ | refine EqLX.mk ?_ | ((with_reducible apply br_bq hQz) <;> (try intro hsp hQz)) | exact hQz.out)) <;> (try (conv => whnf))))) : p := h ⟨hq⟩
section
variable {K : Nat → Int} {M G : Nat → Bool} {B : Nat → Nat → Int} {l : List Rl} {C H : Nat → Int}
theorem end_all {top : Bool} {P : List AV} (hP : ∀ x ∈ P, Plain x) {v : Int} {b : Bool} {nx : Nat} {t : List (Nat × AObj)} : EndX top Try.prog 2 ⟨(0, .cells (sysB K M B P)) :: (1, .cells [.int .i64 v]) :: t, nx⟩ (.bool b) (fun x h1 => x = .bool b ∧ h1 = ⟨[(0, .cells (sysB K M B P)), (1, .cells [.int .i64 v])], 2⟩) := by
  have hs : SubH (rn []) ⟨(0, .cells (sysB K M B P)) :: (1, .cells [.int .i64 v]) :: t, nx⟩ ⟨[(0, .cells (sysB K M B P)), (1, .cells [.int .i64 v])], 2⟩ := fun i o hi => by
    simp only [lk] at hi
    show ∃ o', lk ((0, AObj.cells (sysB K M B P)) :: (1, AObj.cells [.int .i64 v]) :: t) i = some o'
    simp only [lk]
    split at hi
    · rename_i e; exact ⟨_, if_pos e⟩
    · rename_i e0
      split at hi
      · rename_i e; exact ⟨_, by rw [if_neg e0, if_pos e]⟩
      · cases hi
  exact end_loc [] rfl (Nat.le_refl _) (oneOf_of rfl) (wk_bool rfl) (wko_plain hs (show 0 < 2 by decide) rfl rfl (sys_plain hP) (wko_plain hs (show 1 < 2 by decide) rfl rfl (plain_1 plain_int) wko_nil)) ⟨rfl, rfl⟩
set_option maxHeartbeats 1600000 in
theorem k_all (P : List AV) (hP : ∀ x ∈ P, Plain x) (v : Int) (a n : Nat) (hn : a + n ≤ 1024) : LocC Try.prog G0 40 [.ptr 0 0, .int .i64 (a : Nat), .int .i64 (n : Nat), .fn 85 [] [.ptr 1 0]] [(0, .cells (sysB K M B P)), (1, .cells [.int .i64 v])] 2 fun x h1 => x = .bool (decide (okR K M a n v)) ∧ h1 = ⟨[(0, .cells (sysB K M B P)), (1, .cells [.int .i64 v])], 2⟩ := by
  refine loc_x hmix b40 rfl ?_
  unfold c40
  (refine wm ?_; repeat' (first | with_reducible refine And.intro ?_ ?_ | intro hsp))
  (refine loop_x [0, 1, 2, 3, 10] (fun (i : Nat) => [(11, .int .i64 (i : Nat))]) (fun (i : Nat) => ⟨[(0, .cells (sysB K M B P)), (1, .cells [.int .i64 v])], 2⟩) (fun (i : Nat) => i ≤ n ∧ ∀ j, j < i → K (a + j) = v ∧ M (a + j) = false) (fun (i : Nat) => n - i) (0) [] rfl (fun _ => by first | exact Nat.zero_le _ | (dsimp only; omega)) ?_ (by ((try (conv => whnf)); exact wkx_Sd)) ?_)
  · exact ⟨Nat.zero_le _, fun j hj => by omega⟩
  rintro i ⟨hi, h0⟩
  by_cases hin : i < n
  · have ht : ((a : Int) + (i : Int)).toNat = a + i := by omega
    have hk : (sysB K M B P)[1 + ((a : Int) + (i : Int)).toNat * 66 + 0]? = some (.int .i64 (K (a + i))) := by rw [ht]; exact sys_kind (by omega)
    have hh : (sysB K M B P)[1 + ((a : Int) + (i : Int)).toNat * 66 + 1]? = some (.bool (M (a + i))) := by rw [ht]; exact sys_huge (by omega)
    by_cases h1 : K (a + i) = v
    · cases h2 : M (a + i) with
      | false =>
        rw [h2] at hh
        (refine wm ?_; repeat' (first | with_reducible refine And.intro ?_ ?_ | intro hsp))
        all_goals first | (exfalso; exact absurd h1 (by assumption)) | skip
        all_goals exact next_x (i + 1) [] ⟨by omega, fun j hj => if e : j = i then by rw [e]; exact ⟨h1, h2⟩ else h0 j (by omega)⟩ (by first | omega | (dsimp only; omega)) rfl (by exact wkx_Sd)
      | true =>
        rw [h2] at hh
        rw [decide_eq_false fun h => by have := (h i hin).2; rw [h2] at this; cases this]
        (refine wm ?_; repeat' (first | with_reducible refine And.intro ?_ ?_ | intro hsp))
        all_goals first | exact end_all hP | (exfalso; exact absurd h1 (by assumption))
    · rw [decide_eq_false fun h => h1 (h i hin).1]
      (refine wm ?_; repeat' (first | with_reducible refine And.intro ?_ ?_ | intro hsp))
      all_goals exact end_all hP
  · have hok : okR K M a n v := fun j hj => h0 j (by omega)
    rw [decide_eq_true hok]
    (refine wm ?_; repeat' (first | with_reducible refine And.intro ?_ ?_ | intro hsp))
    all_goals exact end_all hP
theorem end_each {top : Bool} {P : List AV} (hP : ∀ x ∈ P, Plain x) {v : Int} {nx : Nat} {t : List (Nat × AObj)} : EndX top Try.prog 2 ⟨(0, .cells (sysB K M B P)) :: (1, .cells [.int .i64 v]) :: t, nx⟩ (.tup []) (fun x h1 => x = .tup [] ∧ h1 = ⟨[(0, .cells (sysB K M B P)), (1, .cells [.int .i64 v])], 2⟩) := by
  have hs : SubH (rn []) ⟨(0, .cells (sysB K M B P)) :: (1, .cells [.int .i64 v]) :: t, nx⟩ ⟨[(0, .cells (sysB K M B P)), (1, .cells [.int .i64 v])], 2⟩ := fun i o hi => by
    simp only [lk] at hi
    show ∃ o', lk ((0, AObj.cells (sysB K M B P)) :: (1, AObj.cells [.int .i64 v]) :: t) i = some o'
    simp only [lk]
    split at hi
    · rename_i e; exact ⟨_, if_pos e⟩
    · rename_i e0
      split at hi
      · rename_i e; exact ⟨_, by rw [if_neg e0, if_pos e]⟩
      · cases hi
  exact end_loc [] rfl (Nat.le_refl _) (oneOf_of rfl) (wk_plain hs (plain_tup fun x hx => by cases hx)) (wko_plain hs (show 0 < 2 by decide) rfl rfl (sys_plain hP) (wko_plain hs (show 1 < 2 by decide) rfl rfl (plain_1 plain_int) wko_nil)) ⟨rfl, rfl⟩
set_option maxHeartbeats 1600000 in
theorem k_each (P : List AV) (hP : ∀ x ∈ P, Plain x) (v : Int) (a n : Nat) (hn : a + n ≤ 1024) : LocC Try.prog G0 42 [.ptr 0 0, .int .i64 (a : Nat), .int .i64 (n : Nat), .fn 86 [] [.ptr 1 0]] [(0, .cells (sysB K M B P)), (1, .cells [.int .i64 v])] 2 fun x h1 => x = .tup [] ∧ h1 = ⟨[(0, .cells (sysB (setR K a n v) (setM M a n false) (setP B a n) P)), (1, .cells [.int .i64 v])], 2⟩ := by
  refine loc_x hmix b42 rfl ?_
  unfold c42
  have e0 : sysB K M B P = sysB (setR K a 0 v) (setM M a 0 false) (setP B a 0) P := by rw [setR_0, setM_0, setP_0]
  rw [e0]
  (refine wm ?_; repeat' (first | with_reducible refine And.intro ?_ ?_ | intro hsp))
  (refine loop_x [0, 1, 2, 3, 9] (fun (i : Nat) => [(10, .int .i64 (i : Nat))]) (fun (i : Nat) => ⟨[(0, .cells (sysB (setR K a i v) (setM M a i false) (setP B a i) P)), (1, .cells [.int .i64 v])], 2⟩) (fun (i : Nat) => i ≤ n) (fun (i : Nat) => n - i) (0) [] rfl (fun _ => by first | exact Nat.zero_le _ | (dsimp only; omega)) ?_ (by ((try (conv => whnf)); exact wkx_Sd)) ?_)
  · exact Nat.zero_le _
  rintro i hi
  by_cases hin : i < n
  · have ht : ((a : Int) + (i : Int)).toNat = a + i := by omega
    have hs : over (sysB (setR K a i v) (setM M a i false) (setP B a i) P) (1 + ((a : Int) + (i : Int)).toNat * 66) (pgA v) = sysB (setR K a (i + 1) v) (setM M a (i + 1) false) (setP B a (i + 1)) P := by
      rw [ht, sys_setPage (by omega), setR_s, setM_s, setP_s]
    have hl : 1 + ((a : Int) + (i : Int)).toNat * 66 + 66 ≤ 67600 := by omega
    (refine wm ?_; repeat' (first | with_reducible refine And.intro ?_ ?_ | intro hsp))
    all_goals exact next_x (i + 1) [] (by (try dsimp only); omega) (by first | omega | (dsimp only; omega)) rfl (by exact wkx_Sd)
  · obtain rfl : i = n := by omega
    (refine wm ?_; repeat' (first | with_reducible refine And.intro ?_ ?_ | intro hsp))
    all_goals exact end_each hP
end
end Go.Proofs.Ytjlbfijjfjogiaa
