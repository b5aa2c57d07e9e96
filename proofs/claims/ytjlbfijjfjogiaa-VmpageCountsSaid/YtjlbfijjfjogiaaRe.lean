/-
  Refusal states: CheckState and Next of both.
-/
import Derived.Test.YtjlbfijjfjogiaaRd
set_option linter.unusedSimpArgs false
set_option linter.unusedVariables false
namespace Go.Pol
open Go.Am
def okK (l : List Rl) (C H : Nat → Int) (k : Nat) : Prop := 0 ≤ C k ∧ C k ≤ 1000000 ∧ ((cnt l (k : Nat) (C k).toNat : Nat) : Int) = H k
instance (l : List Rl) (C H : Nat → Int) (k : Nat) : Decidable (okK l C H k) := by unfold okK; infer_instance
def stOk (l : List Rl) (C H : Nat → Int) : Prop := ∀ k, k < 7 → okK l C H k
instance (l : List Rl) (C H : Nat → Int) : Decidable (stOk l C H) := by unfold stOk; infer_instance
/-- What CheckState says. -/
def chkS (l : List Rl) (C H : Nat → Int) : Int := if (chkP l).2 ≠ 0 then (chkP l).2 else if stOk l C H then 0 else 6
theorem chkS_ok {l : List Rl} {C H : Nat → Int} (h : chkS l C H = 0) : okL l ∧ l.length ≤ 50 ∧ stOk l C H := by
  unfold chkS at h
  split at h
  · rename_i h1; exact absurd h h1
  · rename_i h1
    have hz : (chkP l).2 = 0 := Classical.byContradiction h1
    obtain ⟨h2, h3⟩ := chk_ok (l := l) (i := (chkP l).1) (by rw [← hz])
    split at h
    · rename_i h4; exact ⟨h2, h3, h4⟩
    · cases h
theorem stA_len {l : List Rl} {C H : Nat → Int} : (stA l C H).length = 15 := rfl
theorem plain_zstB {b : Bool} {r : Int} : Plain (.tup [.agg [.nils, .int .i64 0, .int .i64 0, .int .i64 0, .int .i64 0, .int .i64 0, .int .i64 0, .int .i64 0, .int .i64 0, .int .i64 0, .int .i64 0, .int .i64 0, .int .i64 0, .int .i64 0, .int .i64 0], .bool b, .int .i64 r]) := plain_tup fun x hx => by
  simp only [List.mem_cons, List.not_mem_nil, or_false] at hx
  rcases hx with rfl | rfl | rfl
  · exact plain_zst
  · exact plain_bool
  · exact plain_int
theorem plain_stB {l : List Rl} {C H : Nat → Int} {b : Bool} {r : Int} : Plain (.tup [.agg (stA l C H), .bool b, .int .i64 r]) := plain_tup fun x hx => by
  simp only [List.mem_cons, List.not_mem_nil, or_false] at hx
  rcases hx with rfl | rfl | rfl
  · exact plain_st
  · exact plain_bool
  · exact plain_int
end Go.Pol
namespace Go.Proofs.Ytjlbfijjfjogiaa
open Go Go.Am Go.Pol
theorem wkx_Re {p : Prop} (h : p := by (refine weak_s (by exact oneOf_of rfl) (by exact subH_of rfl) (by intro hs; (repeat' ((try (conv => whnf)); first | with_reducible exact True.intro | with_reducible refine And.intro ?_ ?_ | (with_reducible refine WkX.mk ?_; first | exact wk_undef | exact wk_int (by first | rfl | omega | (dsimp only; omega)) | exact wk_bool rfl | exact wk_ptr rfl (by first | decide | simp | omega) | exact wk_sl rfl (by first | decide | simp | omega) (by first | rfl | omega | simp) (by first | omega | simp) (by first | omega | simp) | exact wk_own rfl (by first | decide | simp | omega) | exact wk_nil0 (by first | rfl | simp) | exact wk_slown rfl (by first | decide | omega | (simp; done)) (by first | omega | (simp; done)) (by first | rfl | omega | (simp; done) | (simp; omega)) | exact wk_plain hs (by (first | assumption | exact plain_int | exact plain_bool | exact plain_undef | exact plain_nils | exact plain_nilp | exact plain_nilf | exact plain_str | with_reducible apply plain_rl | with_reducible apply plain_rls | with_reducible apply plain_pl | with_reducible apply plain_ii | with_reducible apply plain_st | with_reducible apply plain_stE | with_reducible apply plain_zst | with_reducible apply plain_zstE | with_reducible apply plain_irl | with_reducible apply plain_mk)) | (with_reducible refine wk_fn ?_ ?_ <;> repeat' (first | with_reducible exact wkl_nil | with_reducible refine wkl_cons ?_ ?_ | exact wk_ptr rfl (by first | decide | simp | omega))) | (with_reducible refine wk_agg ?_; repeat' (first | with_reducible exact wkl_nil | with_reducible refine wkl_cons ?_ ?_ | exact wk_int (by first | rfl | omega | (dsimp only; omega)) | exact wk_bool rfl)) | exact wk_yld rfl (by first | decide | simp | omega))))) (by intro hs; (try dsimp only); (repeat' (first | with_reducible exact wko_nil | refine wko_plain hs (by first | decide | omega | simp) rfl (by first | rfl) (by (first | with_reducible assumption | with_reducible apply rlA_plain _ | with_reducible apply plain_flat rlA_plain | with_reducible apply stA_plain | with_reducible apply memT_plain | with_reducible apply plain_map (fun _ => plain_int) | with_reducible apply plain_map (fun _ => plain_bool) | ((repeat' (first | exact plain_all0 | refine plain_all2 ?_ ?_ | exact plain_int | first | assumption | exact plain_int | exact plain_bool | exact plain_undef | exact plain_nils | exact plain_nilp | exact plain_nilf | exact plain_str | with_reducible apply plain_rl | with_reducible apply plain_rls | with_reducible apply plain_pl | with_reducible apply plain_ii | with_reducible apply plain_st | with_reducible apply plain_stE | with_reducible apply plain_zst | with_reducible apply plain_zstE | with_reducible apply plain_irl | with_reducible apply plain_mk)); done) | ((refine plain_app ?_ ?_) <;> (first | with_reducible assumption | with_reducible apply rlA_plain _ | with_reducible apply plain_flat rlA_plain | with_reducible apply stA_plain | with_reducible apply memT_plain | with_reducible apply plain_map (fun _ => plain_int) | with_reducible apply plain_map (fun _ => plain_bool) | ((repeat' (first | exact plain_all0 | refine plain_all2 ?_ ?_ | exact plain_int | first | assumption | exact plain_int | exact plain_bool | exact plain_undef | exact plain_nils | exact plain_nilp | exact plain_nilf | exact plain_str | with_reducible apply plain_rl | with_reducible apply plain_rls | with_reducible apply plain_pl | with_reducible apply plain_ii | with_reducible apply plain_st | with_reducible apply plain_stE | with_reducible apply plain_zst | with_reducible apply plain_zstE | with_reducible apply plain_irl | with_reducible apply plain_mk)); done))))) ?_ | refine wko_cells (by first | decide | omega | simp) rfl (by repeat' (first | with_reducible exact wkl_nil | with_reducible refine wkl_cons ?_ ?_ | (first | exact wk_undef | exact wk_int (by first | rfl | omega | (dsimp only; omega)) | exact wk_bool rfl | exact wk_ptr rfl (by first | decide | simp | omega) | exact wk_sl rfl (by first | decide | simp | omega) (by first | rfl | omega | simp) (by first | omega | simp) (by first | omega | simp) | exact wk_own rfl (by first | decide | simp | omega) | exact wk_nil0 (by first | rfl | simp) | exact wk_slown rfl (by first | decide | omega | (simp; done)) (by first | omega | (simp; done)) (by first | rfl | omega | (simp; done) | (simp; omega)) | exact wk_plain hs (by (first | assumption | exact plain_int | exact plain_bool | exact plain_undef | exact plain_nils | exact plain_nilp | exact plain_nilf | exact plain_str | with_reducible apply plain_rl | with_reducible apply plain_rls | with_reducible apply plain_pl | with_reducible apply plain_ii | with_reducible apply plain_st | with_reducible apply plain_stE | with_reducible apply plain_zst | with_reducible apply plain_zstE | with_reducible apply plain_irl | with_reducible apply plain_mk)) | (with_reducible refine wk_fn ?_ ?_ <;> repeat' (first | with_reducible exact wkl_nil | with_reducible refine wkl_cons ?_ ?_ | exact wk_ptr rfl (by first | decide | simp | omega))) | (with_reducible refine wk_agg ?_; repeat' (first | with_reducible exact wkl_nil | with_reducible refine wkl_cons ?_ ?_ | exact wk_int (by first | rfl | omega | (dsimp only; omega)) | exact wk_bool rfl)) | exact wk_yld rfl (by first | decide | simp | omega)))) ?_ | refine wko_loop (by first | decide | omega | simp) rfl (by ((try subst hF); (try subst hF2); exact wkl_sd (wkf_sget (by (repeat' ((try (conv => whnf)); first | with_reducible exact True.intro | with_reducible refine And.intro ?_ ?_ | (with_reducible refine WkX.mk ?_; first | exact wk_undef | exact wk_int (by first | rfl | omega | (dsimp only; omega)) | exact wk_bool rfl | exact wk_ptr rfl (by first | decide | simp | omega) | exact wk_sl rfl (by first | decide | simp | omega) (by first | rfl | omega | simp) (by first | omega | simp) (by first | omega | simp) | exact wk_own rfl (by first | decide | simp | omega) | exact wk_nil0 (by first | rfl | simp) | exact wk_slown rfl (by first | decide | omega | (simp; done)) (by first | omega | (simp; done)) (by first | rfl | omega | (simp; done) | (simp; omega)) | exact wk_plain hs (by (first | assumption | exact plain_int | exact plain_bool | exact plain_undef | exact plain_nils | exact plain_nilp | exact plain_nilf | exact plain_str | with_reducible apply plain_rl | with_reducible apply plain_rls | with_reducible apply plain_pl | with_reducible apply plain_ii | with_reducible apply plain_st | with_reducible apply plain_stE | with_reducible apply plain_zst | with_reducible apply plain_zstE | with_reducible apply plain_irl | with_reducible apply plain_mk)) | (with_reducible refine wk_fn ?_ ?_ <;> repeat' (first | with_reducible exact wkl_nil | with_reducible refine wkl_cons ?_ ?_ | exact wk_ptr rfl (by first | decide | simp | omega))) | (with_reducible refine wk_agg ?_; repeat' (first | with_reducible exact wkl_nil | with_reducible refine wkl_cons ?_ ?_ | exact wk_int (by first | rfl | omega | (dsimp only; omega)) | exact wk_bool rfl)) | exact wk_yld rfl (by first | decide | simp | omega)))))))) ?_ | exact wko_nil))))) : p := h
section
variable {l : List Rl} {C H : Nat → Int}
theorem k_chkS (l : List Rl) (C H : Nat → Int) : PureS 37 [.agg (stA l C H)] (.int .i64 (chkS l C H)) := by
  have z := k_chk l
  by_cases he : (chkP l).2 ≠ 0
  · have e : chkS l C H = (chkP l).2 := if_pos he
    rw [e]
    generalize (chkP l).1 = i at *
    generalize (chkP l).2 = e at *
    refine PureS.mk (pure_x hmix b37 plainG ⟨plain_st, trivial⟩ plain_int rfl ?_)
    unfold c37
    (refine wx ?_; repeat' (first | with_reducible refine And.intro ?_ ?_ | intro hsp))
    all_goals exact end_int rfl
  · have e : chkS l C H = if stOk l C H then 0 else 6 := if_neg he
    have hz : (chkP l).2 = 0 := Classical.byContradiction he
    obtain ⟨hok, hlen⟩ := chk_ok (l := l) (i := (chkP l).1) (by rw [← hz])
    rw [e]
    rw [hz] at z
    generalize (chkP l).1 = i at *
    refine PureS.mk (pure_x hmix b37 plainG ⟨plain_st, trivial⟩ plain_int rfl ?_)
    unfold c37
    (refine wx ?_; repeat' (first | with_reducible refine And.intro ?_ ?_ | intro hsp))
    (refine loop_x [1, 17] (fun (k : Nat) => [(18, .int .i64 (k : Nat))]) (fun (k : Nat) => ⟨[(0, .cells (stA l C H))], 1⟩) (fun (k : Nat) => k ≤ 7 ∧ ∀ j, j < k → okK l C H j) (fun (k : Nat) => 7 - k) (0) [] rfl (fun _ => by first | exact Nat.zero_le _ | (dsimp only; omega)) ?_ (by ((try (conv => whnf)); exact wkx_Re)) ?_)
    · exact ⟨Nat.zero_le _, fun k hk => by omega⟩
    rintro k ⟨hk, h0⟩
    by_cases hk7 : k < 7
    · have hg : [AV.int .i64 (C 0), .int .i64 (C 1), .int .i64 (C 2), .int .i64 (C 3), .int .i64 (C 4), .int .i64 (C 5), .int .i64 (C 6)][k]? = some (.int .i64 (C k)) := arr7_get hk7
      have hH := st_getH (l := l) (C := C) (H := H) hk7
      by_cases hin : 0 ≤ C k ∧ C k ≤ 1000000
      · have z2 := k_hits (k := (k : Nat)) hok (C k).toNat (by omega) (by omega)
        rw [show (((C k).toNat : Nat) : Int) = C k by omega] at z2
        by_cases hs : ((cnt l (k : Nat) (C k).toNat : Nat) : Int) = H k
        · (refine wx ?_; repeat' (first | with_reducible refine And.intro ?_ ?_ | intro hsp))
          all_goals first | (exfalso; exact absurd hs (by assumption)) | skip
          all_goals exact next_x (k + 1) [] ⟨by omega, fun j hj => if e : j = k then by rw [e]; exact ⟨hin.1, hin.2, hs⟩ else h0 j (by omega)⟩ (by first | omega | (dsimp only; omega)) rfl (by exact wkx_Re)
        · rw [if_neg fun h => hs (h k hk7).2.2]
          (refine wx ?_; repeat' (first | with_reducible refine And.intro ?_ ?_ | intro hsp))
          all_goals first | exact end_int rfl | (exfalso; exact hs (by assumption))
      · rw [if_neg fun h => hin ⟨(h k hk7).1, (h k hk7).2.1⟩]
        (refine wx ?_; repeat' (first | with_reducible refine And.intro ?_ ?_ | intro hsp))
        all_goals first | exact end_int rfl | (exfalso; omega)
    · have hs : stOk l C H := fun j hj => h0 j (by omega)
      rw [if_pos hs]
      (refine wx ?_; repeat' (first | with_reducible refine And.intro ?_ ?_ | intro hsp))
      all_goals exact end_int rfl
theorem r_chkS (l : List Rl) (C H : Nat → Int) : PureS 44 [.agg (stA l C H)] (.int .i64 (chkS l C H)) := by
  have z := r_chk l
  by_cases he : (chkP l).2 ≠ 0
  · have e : chkS l C H = (chkP l).2 := if_pos he
    rw [e]
    generalize (chkP l).1 = i at *
    generalize (chkP l).2 = e at *
    refine PureS.mk (pure_x hmix b44 plainG ⟨plain_st, trivial⟩ plain_int rfl ?_)
    unfold c44
    (refine wx ?_; repeat' (first | with_reducible refine And.intro ?_ ?_ | intro hsp))
    all_goals exact end_int rfl
  · have e : chkS l C H = if stOk l C H then 0 else 6 := if_neg he
    have hz : (chkP l).2 = 0 := Classical.byContradiction he
    obtain ⟨hok, hlen⟩ := chk_ok (l := l) (i := (chkP l).1) (by rw [← hz])
    rw [e]
    rw [hz] at z
    generalize (chkP l).1 = i at *
    refine PureS.mk (pure_x hmix b44 plainG ⟨plain_st, trivial⟩ plain_int rfl ?_)
    unfold c44
    (refine wx ?_; repeat' (first | with_reducible refine And.intro ?_ ?_ | intro hsp))
    (refine loop_x [1] (fun (k : Nat) => [(5, .int .i64 (k : Nat))]) (fun (k : Nat) => ⟨[(0, .cells (stA l C H))], 1⟩) (fun (k : Nat) => k ≤ 7 ∧ ∀ j, j < k → 0 ≤ C j ∧ C j ≤ 1000000) (fun (k : Nat) => 7 - k) (0) [] rfl (fun _ => by first | exact Nat.zero_le _ | (dsimp only; omega)) ?_ (by ((try (conv => whnf)); exact wkx_Re)) ?_)
    · exact ⟨Nat.zero_le _, fun k hk => by omega⟩
    rintro k ⟨hk, h0⟩
    by_cases hk7 : k < 7
    · have hC := st_getC (l := l) (C := C) (H := H) hk7
      by_cases hin : 0 ≤ C k ∧ C k ≤ 1000000
      · (refine wr ?_; repeat' (first | with_reducible refine And.intro ?_ ?_ | intro hsp))
        all_goals first | (exfalso; omega) | skip
        all_goals exact next_x (k + 1) [] ⟨by omega, fun j hj => if e : j = k then by rw [e]; exact hin else h0 j (by omega)⟩ (by first | omega | (dsimp only; omega)) rfl (by exact wkx_Re)
      · rw [if_neg fun h => hin ⟨(h k hk7).1, (h k hk7).2.1⟩]
        (refine wr ?_; repeat' (first | with_reducible refine And.intro ?_ ?_ | intro hsp))
        all_goals first | exact end_int rfl | (exfalso; omega)
    have hall : ∀ j, j < 7 → 0 ≤ C j ∧ C j ≤ 1000000 := fun j hj => h0 j (by omega)
    (refine wr ?_; repeat' (first | with_reducible refine And.intro ?_ ?_ | intro hsp))
    (refine loop_x [1] (fun (k : Nat) => [(6, .int .i64 (k : Nat))]) (fun (k : Nat) => ⟨[(0, .cells (stA l C H))], 1⟩) (fun (k : Nat) => k ≤ 7 ∧ ∀ j, j < k → okK l C H j) (fun (k : Nat) => 7 - k) (0) [] rfl (fun _ => by first | exact Nat.zero_le _ | (dsimp only; omega)) ?_ (by ((try (conv => whnf)); exact wkx_Re)) ?_)
    · exact ⟨Nat.zero_le _, fun k hk => by omega⟩
    rintro k ⟨hk, h0⟩
    by_cases hk7 : k < 7
    · have hC := st_getC (l := l) (C := C) (H := H) hk7
      have hH := st_getH (l := l) (C := C) (H := H) hk7
      have hin := hall k hk7
      have z2 := r_hits (k := (k : Nat)) hok (C k).toNat (by omega) (by omega)
      rw [show (((C k).toNat : Nat) : Int) = C k by omega] at z2
      by_cases hs : ((cnt l (k : Nat) (C k).toNat : Nat) : Int) = H k
      · (refine wr ?_; repeat' (first | with_reducible refine And.intro ?_ ?_ | intro hsp))
        all_goals first | (exfalso; omega) | skip
        all_goals exact next_x (k + 1) [] ⟨by omega, fun j hj => if e : j = k then by rw [e]; exact ⟨hin.1, hin.2, hs⟩ else h0 j (by omega)⟩ (by first | omega | (dsimp only; omega)) rfl (by exact wkx_Re)
      · rw [if_neg fun h => hs (h k hk7).2.2]
        (refine wr ?_; repeat' (first | with_reducible refine And.intro ?_ ?_ | intro hsp))
        all_goals first | exact end_int rfl | (exfalso; omega)
    · have hs : stOk l C H := fun j hj => h0 j (by omega)
      rw [if_pos hs]
      (refine wr ?_; repeat' (first | with_reducible refine And.intro ?_ ?_ | intro hsp))
      all_goals exact end_int rfl
end
theorem wn {p q : Prop} (hq : q) (h : HidP q → p := by (intro hQz; ((repeat' ((try (conv => whnf)); first | (with_reducible first | refine run_cons ?_ | refine runq_cons ?_ | refine code_seq ?_ | refine code_reg ?_ | refine code_cond ?_ | refine run_nil ?_ | refine runq_nil ?_ | refine rund_op rfl ?_ | refine rund_nil ?_ | refine code_block ?_ | refine code_skip ?_ | refine code_exit ?_ | refine code_ret ?_ | refine code_range ?_ | refine rund_fast (by decide +kernel) ?_ | refine rund_slow (by decide +kernel) ?_ | refine br_tt ?_ | refine br_ff ?_ | refine br_n ?_ | refine br_and ?_ | refine br_or ?_ | refine br_t (by assumption) ?_ | refine br_f (by assumption) ?_ | refine eq_i64 (by omega) ?_ | refine el_tn ?_) | ((with_reducible refine br_dt ?_ ?_); focus omega) | ((with_reducible refine br_df ?_ ?_); focus omega) | ((with_reducible apply br_dq hQz) <;> (try intro hsp hQz)) | ((with_reducible refine ck_x ?_ ?_); focus (first | omega | rfl | assumption | decide | (simp only [List.length_map, List.length_cons, List.length_nil]; omega))) | (with_reducible first | refine eq_tn ?_ | refine eq_tn1 ?_ | refine eq_tn2 ?_ | refine eq_m1 ?_ | refine eq_m2 ?_ | refine eq_zm ?_ | refine eq_z ?_ | refine len_map ?_ | refine len_sl ?_ | refine len_nils ?_ | refine len_own' ?_ | refine len_isl ?_ | refine eq_u8 (by omega) ?_ | refine eq_u16 (by omega) ?_) | refine nthK_of (by with_reducible assumption) ?_ | refine eq_of (by with_reducible assumption) ?_ | refine set1K_of (by first | (rw [stA_len]; omega) | (simp; omega)) (by with_reducible assumption) ?_ | (with_reducible first | refine eq_rfl ?_ | refine ChkX.mk (by kernel_rfl) ?_ | refine code_q rfl ?_ | refine code_d (by decide +kernel) ?_ | refine end_go rfl ?_) | refine cx_pureS (by assumption) ?_ | refine dcx_pureS (by assumption) ?_ | refine qcx_pureS (by assumption) ?_ | refine cx_pureS (k_in _ _ _) ?_ | refine qcx_pureS (k_in _ _ _) ?_ | refine dcx_pureS (k_in _ _ _) ?_ | refine len_map ?_ | refine len_isl ?_ | refine el_of rfl rfl ?_ | refine del_own ?_ | refine del_own' rfl ?_ | refine as_go rfl ?_ | refine rd_go rfl ?_ | refine rg_end rfl ?_ | refine flat_ownX ?_ | refine EqLX.mk ?_ | ((with_reducible apply br_bq hQz) <;> (try intro hsp hQz)) | exact hQz.out)) <;> (try (conv => whnf))))) : p := h ⟨hq⟩
section
variable {l : List Rl} {C H : Nat → Int}
theorem k_nextS (hv : chkS l C H = 0) {k : Nat} (hk : k < 7) (hC : C k < 1000000) : PureS 92 [.agg (stA l C H), .int .i64 (k : Nat)] (.tup [.agg (stA l (updI C k (C k + 1)) (if refL l (k : Nat) (C k + 1) then updI H k (H k + 1) else H)), .bool (refL l (k : Nat) (C k + 1)), .int .i64 0]) := by
  obtain ⟨hok, hlen, hst⟩ := chkS_ok hv
  have hkk := hst k hk
  have hcl := cnt_le (l := l) (k := (k : Nat)) (C k).toNat
  obtain ⟨g1, g2, g3⟩ := hkk
  have z := k_chkS l C H
  rw [hv] at z
  have z1 := k_refused (k := (k : Nat)) (n := C k + 1) hok (by omega) (by omega)
  have hg := st_getC (l := l) (C := C) (H := H) hk
  have hg2 := st_getC (l := l) (C := updI C k (C k + 1)) (H := H) hk
  have hgu : updI C k (C k + 1) k = C k + 1 := by simp [updI]
  rw [hgu] at hg2
  have hgh := st_getH (l := l) (C := updI C k (C k + 1)) (H := H) hk
  have hs1 := st_setC (l := l) (C := C) (H := H) (v := C k + 1) hk
  have hs2 := st_setH (l := l) (C := updI C k (C k + 1)) (H := H) (v := H k + 1) hk
  have z9 := k_clone (l := l) (by omega)
  have ug := hg
  have ug2 := hg2
  have ugh := hgh
  have us1 := hs1
  have us2 := hs2
  unfold stA at ug ug2 ugh us1 us2
  cases h1 : refL l (k : Nat) (C k + 1) with
  | true =>
    rw [h1] at z1
    rw [if_pos rfl]
    refine PureS.mk (pure_x hmix b92 plainG ⟨plain_st, plain_int, trivial⟩ plain_stB rfl ?_)
    unfold c92
    (refine wn ?_; repeat' (first | with_reducible refine And.intro ?_ ?_ | intro hsp))
    all_goals exact end_plain rfl plain_stB
  | false =>
    rw [h1] at z1
    rw [if_neg (by simp)]
    refine PureS.mk (pure_x hmix b92 plainG ⟨plain_st, plain_int, trivial⟩ plain_stB rfl ?_)
    unfold c92
    (refine wn ?_; repeat' (first | with_reducible refine And.intro ?_ ?_ | intro hsp))
    all_goals exact end_plain rfl plain_stB
theorem r_nextS (hv : chkS l C H = 0) {k : Nat} (hk : k < 7) (hC : C k < 1000000) : PureS 32 [.agg (stA l C H), .int .i64 (k : Nat)] (.tup [.agg (stA l (updI C k (C k + 1)) (if refL l (k : Nat) (C k + 1) then updI H k (H k + 1) else H)), .bool (refL l (k : Nat) (C k + 1)), .int .i64 0]) := by
  obtain ⟨hok, hlen, hst⟩ := chkS_ok hv
  have hkk := hst k hk
  have hcl := cnt_le (l := l) (k := (k : Nat)) (C k).toNat
  obtain ⟨g1, g2, g3⟩ := hkk
  have z := r_chkS l C H
  rw [hv] at z
  have z1 := r_refused (k := (k : Nat)) (n := C k + 1) hok (by omega) (by omega)
  have hg := st_getC (l := l) (C := C) (H := H) hk
  have hg2 := st_getC (l := l) (C := updI C k (C k + 1)) (H := H) hk
  have hgu : updI C k (C k + 1) k = C k + 1 := by simp [updI]
  rw [hgu] at hg2
  have hgh := st_getH (l := l) (C := updI C k (C k + 1)) (H := H) hk
  have hs1 := st_setC (l := l) (C := C) (H := H) (v := C k + 1) hk
  have hs2 := st_setH (l := l) (C := updI C k (C k + 1)) (H := H) (v := H k + 1) hk
  have z9 := k_clone (l := l) (by omega)
  cases h1 : refL l (k : Nat) (C k + 1) with
  | true =>
    rw [h1] at z1
    rw [if_pos rfl]
    refine PureS.mk (pure_x hmix b32 plainG ⟨plain_st, plain_int, trivial⟩ plain_stB rfl ?_)
    unfold c32
    (refine wn ?_; repeat' (first | with_reducible refine And.intro ?_ ?_ | intro hsp))
    all_goals exact end_plain rfl plain_stB
  | false =>
    rw [h1] at z1
    rw [if_neg (by simp)]
    refine PureS.mk (pure_x hmix b32 plainG ⟨plain_st, plain_int, trivial⟩ plain_stB rfl ?_)
    unfold c32
    (refine wn ?_; repeat' (first | with_reducible refine And.intro ?_ ?_ | intro hsp))
    all_goals exact end_plain rfl plain_stB
theorem k_nextF (hv : chkS l C H = 0) {k : Nat} (hk : k < 7) (hC : C k = 1000000) : PureS 92 [.agg (stA l C H), .int .i64 (k : Nat)] (.tup [.agg [.nils, .int .i64 0, .int .i64 0, .int .i64 0, .int .i64 0, .int .i64 0, .int .i64 0, .int .i64 0, .int .i64 0, .int .i64 0, .int .i64 0, .int .i64 0, .int .i64 0, .int .i64 0, .int .i64 0], .bool false, .int .i64 3]) := by
  have z := k_chkS l C H
  rw [hv] at z
  have hg := st_getC (l := l) (C := C) (H := H) hk
  refine PureS.mk (pure_x hmix b92 plainG ⟨plain_st, plain_int, trivial⟩ plain_zstB rfl ?_)
  unfold c92
  (refine wn ?_; repeat' (first | with_reducible refine And.intro ?_ ?_ | intro hsp))
  all_goals exact end_plain rfl plain_zstB
theorem r_nextF (hv : chkS l C H = 0) {k : Nat} (hk : k < 7) (hC : C k = 1000000) : PureS 32 [.agg (stA l C H), .int .i64 (k : Nat)] (.tup [.agg [.nils, .int .i64 0, .int .i64 0, .int .i64 0, .int .i64 0, .int .i64 0, .int .i64 0, .int .i64 0, .int .i64 0, .int .i64 0, .int .i64 0, .int .i64 0, .int .i64 0, .int .i64 0, .int .i64 0], .bool false, .int .i64 3]) := by
  have z := r_chkS l C H
  rw [hv] at z
  have hg := st_getC (l := l) (C := C) (H := H) hk
  refine PureS.mk (pure_x hmix b32 plainG ⟨plain_st, plain_int, trivial⟩ plain_zstB rfl ?_)
  unfold c32
  (refine wn ?_; repeat' (first | with_reducible refine And.intro ?_ ?_ | intro hsp))
  all_goals exact end_plain rfl plain_zstB
end
end Go.Proofs.Ytjlbfijjfjogiaa
