/-
  PurgeRefused: plain facts, and the walk of the law.
-/
import Derived.Test.YtggkpagngnnjjaaTa
import Derived.Test.YtggkpagngnnjjaaSc
set_option linter.unusedSimpArgs false
set_option linter.unusedVariables false
namespace Go.Pol
open Go.Am
theorem stop_later {age keep t0 t1 : Int} {l : List (Int × Int)} {K0 K1 : Nat} (ht : t0 ≤ t1) (h0 : Stop (whyT age keep t0 l) l.length K0) (h1 : Stop (whyT age keep t1 l) l.length K1) : K0 ≤ K1 := by
  rcases Nat.lt_or_ge K1 K0 with h | h
  · have hn := h0.on K1 h
    have hl := h0.le
    rcases h1.off with e | e
    · omega
    · unfold whyT at hn e
      by_cases c1 : (nth d0 l K1).2 + age ≤ t1
      · rw [if_pos c1] at e; exact absurd e (by decide)
      · rw [if_neg c1] at e
        rw [if_neg (by omega)] at hn
        exact absurd e hn
  · exact h
theorem stop_force {n len K : Nat} (h : Stop (whyF (n : Nat) 4) len K) : (K : Int) = if (n : Int) ≤ (len : Nat) then ((n : Nat) : Int) else ((len : Nat) : Int) := by
  have hl := h.le
  have h1 : K ≤ n := by
    rcases Nat.lt_or_ge n K with e | e
    · have := h.on n e
      unfold whyF at this
      rw [if_pos (Int.le_refl _)] at this
      exact absurd rfl this
    · exact e
  rcases h.off with e | e
  · subst e
    by_cases c : (n : Int) ≤ (K : Nat)
    · rw [if_pos c]; omega
    · rw [if_neg c]
  · unfold whyF at e
    by_cases c : (n : Int) ≤ (K : Nat)
    · rw [if_pos (by omega)]; omega
    · rw [if_neg c] at e; exact absurd e (by decide)
def arr2 (a b : Int) : List AV := [.int .i64 a, .int .i64 b]
theorem plain_arr2 {a b : Int} : Plain (.agg (arr2 a b)) := plain_agg fun x hx => by
  simp only [arr2, List.mem_cons, List.not_mem_nil, or_false] at hx
  rcases hx with rfl | rfl <;> exact plain_int
theorem arr2_plain {a b : Int} : ∀ x ∈ [AV.int .i64 a, .int .i64 b], Plain x := fun x hx => by
  simp only [List.mem_cons, List.not_mem_nil, or_false] at hx
  rcases hx with rfl | rfl <;> exact plain_int
end Go.Pol
namespace Go.Proofs.Ytggkpagngnnjjaa
open Go Go.Am Go.Pol
theorem wkx_Ua {p : Prop} (h : p := by (refine weak_s (by exact oneOf_of rfl) (by exact subH_of rfl) (by intro hs; (repeat' ((try (conv => whnf)); first | with_reducible exact True.intro | with_reducible refine And.intro ?_ ?_ | (with_reducible refine WkX.mk ?_; first | exact wk_undef | exact wk_int (by first | rfl | omega | (dsimp only; omega)) | exact wk_bool rfl | exact wk_ptr rfl (by first | decide | simp | omega) | exact wk_sl rfl (by first | decide | simp | omega) (by first | rfl | omega | simp) (by first | omega | simp) (by first | omega | simp) | exact wkl_qx hs rfl (by first | decide | omega | simp) | exact wkl_px rfl (by first | decide | omega | simp) rfl (by first | decide | omega | simp) | exact wk_own rfl (by first | decide | simp | omega) | exact wk_nil0 (by first | rfl | simp) | exact wk_slown rfl (by first | decide | omega | (simp; done)) (by first | omega | (simp; done)) (by first | rfl | omega | (simp; done) | (simp; omega)) | exact wk_plain hs (by (first | assumption | exact plain_int | exact plain_bool | exact plain_undef | exact plain_nils | exact plain_nilp | exact plain_nilf | exact plain_str | with_reducible apply plain_pg | with_reducible apply plain_pgs | with_reducible apply plain_pgA | with_reducible apply plain_val | with_reducible apply plain_ints | with_reducible apply plain_none | with_reducible apply plain_stP | with_reducible apply plain_st4 | with_reducible apply plain_st5 | with_reducible apply plain_ords | with_reducible apply plain_left | with_reducible apply plain_arr2)) | (with_reducible refine wk_fn ?_ ?_ <;> repeat' (first | with_reducible exact wkl_nil | with_reducible refine wkl_cons ?_ ?_ | exact wk_ptr rfl (by first | decide | simp | omega))) | (with_reducible refine wk_agg ?_; repeat' (first | with_reducible exact wkl_nil | with_reducible refine wkl_cons ?_ ?_ | exact wk_int (by first | rfl | omega | (dsimp only; omega)) | exact wk_bool rfl)) | exact wk_yld rfl (by first | decide | simp | omega))))) (by intro hs; (try dsimp only); (repeat' (first | with_reducible exact wko_nil | refine wko_plain hs (by first | decide | omega | simp) rfl (by first | rfl) (by (first | with_reducible assumption | with_reducible apply plain_c4 | with_reducible apply arr2_plain | with_reducible apply plain_flat pgA_plain | with_reducible apply cells_plain | with_reducible apply ends_plain | with_reducible apply memI_plain _ _ | with_reducible apply pgA_plain _ | with_reducible apply qcells_plain | with_reducible apply qends_plain | with_reducible apply plain_map (fun _ => plain_int) | with_reducible apply plain_map (fun _ => plain_bool) | ((repeat' (first | exact plain_all0 | refine plain_all2 ?_ ?_ | exact plain_int | first | assumption | exact plain_int | exact plain_bool | exact plain_undef | exact plain_nils | exact plain_nilp | exact plain_nilf | exact plain_str | with_reducible apply plain_pg | with_reducible apply plain_pgs | with_reducible apply plain_pgA | with_reducible apply plain_val | with_reducible apply plain_ints | with_reducible apply plain_none | with_reducible apply plain_stP | with_reducible apply plain_st4 | with_reducible apply plain_st5 | with_reducible apply plain_ords | with_reducible apply plain_left | with_reducible apply plain_arr2)); done) | ((refine plain_app ?_ ?_) <;> (first | with_reducible assumption | with_reducible apply plain_c4 | with_reducible apply arr2_plain | with_reducible apply plain_flat pgA_plain | with_reducible apply cells_plain | with_reducible apply ends_plain | with_reducible apply memI_plain _ _ | with_reducible apply pgA_plain _ | with_reducible apply qcells_plain | with_reducible apply qends_plain | with_reducible apply plain_map (fun _ => plain_int) | with_reducible apply plain_map (fun _ => plain_bool) | ((repeat' (first | exact plain_all0 | refine plain_all2 ?_ ?_ | exact plain_int | first | assumption | exact plain_int | exact plain_bool | exact plain_undef | exact plain_nils | exact plain_nilp | exact plain_nilf | exact plain_str | with_reducible apply plain_pg | with_reducible apply plain_pgs | with_reducible apply plain_pgA | with_reducible apply plain_val | with_reducible apply plain_ints | with_reducible apply plain_none | with_reducible apply plain_stP | with_reducible apply plain_st4 | with_reducible apply plain_st5 | with_reducible apply plain_ords | with_reducible apply plain_left | with_reducible apply plain_arr2)); done))))) ?_ | refine wko_cells (by first | decide | omega | simp) rfl (by repeat' (first | with_reducible exact wkl_nil | with_reducible refine wkl_cons ?_ ?_ | (first | exact wk_undef | exact wk_int (by first | rfl | omega | (dsimp only; omega)) | exact wk_bool rfl | exact wk_ptr rfl (by first | decide | simp | omega) | exact wk_sl rfl (by first | decide | simp | omega) (by first | rfl | omega | simp) (by first | omega | simp) (by first | omega | simp) | exact wkl_qx hs rfl (by first | decide | omega | simp) | exact wkl_px rfl (by first | decide | omega | simp) rfl (by first | decide | omega | simp) | exact wk_own rfl (by first | decide | simp | omega) | exact wk_nil0 (by first | rfl | simp) | exact wk_slown rfl (by first | decide | omega | (simp; done)) (by first | omega | (simp; done)) (by first | rfl | omega | (simp; done) | (simp; omega)) | exact wk_plain hs (by (first | assumption | exact plain_int | exact plain_bool | exact plain_undef | exact plain_nils | exact plain_nilp | exact plain_nilf | exact plain_str | with_reducible apply plain_pg | with_reducible apply plain_pgs | with_reducible apply plain_pgA | with_reducible apply plain_val | with_reducible apply plain_ints | with_reducible apply plain_none | with_reducible apply plain_stP | with_reducible apply plain_st4 | with_reducible apply plain_st5 | with_reducible apply plain_ords | with_reducible apply plain_left | with_reducible apply plain_arr2)) | (with_reducible refine wk_fn ?_ ?_ <;> repeat' (first | with_reducible exact wkl_nil | with_reducible refine wkl_cons ?_ ?_ | exact wk_ptr rfl (by first | decide | simp | omega))) | (with_reducible refine wk_agg ?_; repeat' (first | with_reducible exact wkl_nil | with_reducible refine wkl_cons ?_ ?_ | exact wk_int (by first | rfl | omega | (dsimp only; omega)) | exact wk_bool rfl)) | exact wk_yld rfl (by first | decide | simp | omega)))) ?_ | refine wko_loop (by first | decide | omega | simp) rfl (by ((try subst hF); (try subst hF2); exact wkl_sd (wkf_sget (by (repeat' ((try (conv => whnf)); first | with_reducible exact True.intro | with_reducible refine And.intro ?_ ?_ | (with_reducible refine WkX.mk ?_; first | exact wk_undef | exact wk_int (by first | rfl | omega | (dsimp only; omega)) | exact wk_bool rfl | exact wk_ptr rfl (by first | decide | simp | omega) | exact wk_sl rfl (by first | decide | simp | omega) (by first | rfl | omega | simp) (by first | omega | simp) (by first | omega | simp) | exact wkl_qx hs rfl (by first | decide | omega | simp) | exact wkl_px rfl (by first | decide | omega | simp) rfl (by first | decide | omega | simp) | exact wk_own rfl (by first | decide | simp | omega) | exact wk_nil0 (by first | rfl | simp) | exact wk_slown rfl (by first | decide | omega | (simp; done)) (by first | omega | (simp; done)) (by first | rfl | omega | (simp; done) | (simp; omega)) | exact wk_plain hs (by (first | assumption | exact plain_int | exact plain_bool | exact plain_undef | exact plain_nils | exact plain_nilp | exact plain_nilf | exact plain_str | with_reducible apply plain_pg | with_reducible apply plain_pgs | with_reducible apply plain_pgA | with_reducible apply plain_val | with_reducible apply plain_ints | with_reducible apply plain_none | with_reducible apply plain_stP | with_reducible apply plain_st4 | with_reducible apply plain_st5 | with_reducible apply plain_ords | with_reducible apply plain_left | with_reducible apply plain_arr2)) | (with_reducible refine wk_fn ?_ ?_ <;> repeat' (first | with_reducible exact wkl_nil | with_reducible refine wkl_cons ?_ ?_ | exact wk_ptr rfl (by first | decide | simp | omega))) | (with_reducible refine wk_agg ?_; repeat' (first | with_reducible exact wkl_nil | with_reducible refine wkl_cons ?_ ?_ | exact wk_int (by first | rfl | omega | (dsimp only; omega)) | exact wk_bool rfl)) | exact wk_yld rfl (by first | decide | simp | omega)))))))) ?_ | exact wko_nil))))) : p := h
/-- So many refusals more. -/
def refN (r : Int) : Nat → Int
  | 0 => r
  | i + 1 => refUp (refN r i)
theorem refN_far {r : Int} {i : Nat} (h : ¬ refN r i < 1000000000000) : ∀ d, refN r (i + d) = refN r i
  | 0 => rfl
  | d + 1 => by
    show refUp (refN r (i + d)) = _
    rw [refN_far h d]
    exact if_neg h
theorem refN_ge {r : Int} : ∀ i, r ≤ refN r i
  | 0 => Int.le_refl _
  | i + 1 => by
    have := refN_ge (r := r) i
    show r ≤ refUp (refN r i)
    unfold refUp
    split <;> omega
section
variable {age ref keep t0 t1 r : Int} {l : List (Int × Int)} {n : Nat}
theorem refused_no (h : Chk age ref keep l r) (hf : 200 < l.length ∨ r ≠ 0 ∨ t0 < 0 ∨ t1 < t0 ∨ 1000000000000 < t1) : PureC Try.prog G0 6 [stP age ref keep l, .agg (arr2 t0 t1), .int .u8 (n : Nat)] (.bool true) := by
  have zk := PureS.mk k_awake
  refine pure_x hmix b6 plainG ⟨plain_stP, plain_arr2, plain_int, trivial⟩ plain_bool rfl ?_
  unfold c6 stP arr2
  by_cases h2 : 200 < l.length
  · ((repeat' ((try (conv => whnf)); first | (with_reducible first | refine run_cons ?_ | refine runq_cons ?_ | refine code_seq ?_ | refine code_reg ?_ | refine code_cond ?_ | refine run_nil ?_ | refine runq_nil ?_ | refine rund_op rfl ?_ | refine rund_nil ?_ | refine code_block ?_ | refine code_skip ?_ | refine code_exit ?_ | refine code_ret ?_ | refine code_range ?_ | refine rund_fast (by decide +kernel) ?_ | refine rund_slow (by decide +kernel) ?_ | refine br_tt ?_ | refine br_ff ?_ | refine br_n ?_ | refine br_and ?_ | refine br_or ?_ | refine br_t (by assumption) ?_ | refine br_f (by assumption) ?_ | refine eq_i64 (by omega) ?_ | refine el_tn ?_) | (with_reducible refine br_d ?_ ?_ <;> intro hsp <;> first | (exfalso; omega) | skip) | ((with_reducible refine ck_x ?_ ?_); focus (first | omega | rfl | assumption | decide | (simp only [List.length_map, List.length_cons, List.length_nil]; omega))) | (with_reducible first | refine eq_tn ?_ | refine eq_tn1 ?_ | refine eq_tn2 ?_ | refine eq_m1 ?_ | refine eq_m2 ?_ | refine eq_zm ?_ | refine eq_z ?_ | refine len_map ?_ | refine len_sl ?_ | refine len_nils ?_ | refine len_own' ?_ | refine len_isl ?_ | refine eq_u8 (by omega) ?_ | refine eq_u16 (by omega) ?_) | (with_reducible first | refine eq_rfl ?_ | refine ChkX.mk (by kernel_rfl) ?_ | refine code_q rfl ?_ | refine code_d (by decide +kernel) ?_ | refine end_go rfl ?_) | refine cx_pureS zk ?_ | refine dcx_pureS zk ?_ | refine len_map ?_ | refine len_isl ?_ | refine el_of rfl rfl ?_ | refine del_own ?_ | refine del_own' rfl ?_ | refine as_go rfl ?_ | refine rd_go rfl ?_ | refine rg_end rfl ?_ | refine flat_ownX ?_ | (with_reducible refine br_b ?_ ?_ <;> intro hsp))) <;> (try (conv => whnf)))
    all_goals exact end_bool rfl
  · have zc := PureS.mk (r_check h (by omega))
    unfold stP at zc
    ((repeat' ((try (conv => whnf)); first | (with_reducible first | refine run_cons ?_ | refine runq_cons ?_ | refine code_seq ?_ | refine code_reg ?_ | refine code_cond ?_ | refine run_nil ?_ | refine runq_nil ?_ | refine rund_op rfl ?_ | refine rund_nil ?_ | refine code_block ?_ | refine code_skip ?_ | refine code_exit ?_ | refine code_ret ?_ | refine code_range ?_ | refine rund_fast (by decide +kernel) ?_ | refine rund_slow (by decide +kernel) ?_ | refine br_tt ?_ | refine br_ff ?_ | refine br_n ?_ | refine br_and ?_ | refine br_or ?_ | refine br_t (by assumption) ?_ | refine br_f (by assumption) ?_ | refine eq_i64 (by omega) ?_ | refine el_tn ?_) | (with_reducible refine br_d ?_ ?_ <;> intro hsp <;> first | (exfalso; omega) | skip) | ((with_reducible refine ck_x ?_ ?_); focus (first | omega | rfl | assumption | decide | (simp only [List.length_map, List.length_cons, List.length_nil]; omega))) | (with_reducible first | refine eq_tn ?_ | refine eq_tn1 ?_ | refine eq_tn2 ?_ | refine eq_m1 ?_ | refine eq_m2 ?_ | refine eq_zm ?_ | refine eq_z ?_ | refine len_map ?_ | refine len_sl ?_ | refine len_nils ?_ | refine len_own' ?_ | refine len_isl ?_ | refine eq_u8 (by omega) ?_ | refine eq_u16 (by omega) ?_) | (with_reducible first | refine eq_rfl ?_ | refine ChkX.mk (by kernel_rfl) ?_ | refine code_q rfl ?_ | refine code_d (by decide +kernel) ?_ | refine end_go rfl ?_) | refine cx_pureS zc ?_ | refine dcx_pureS zc ?_ | refine cx_pureS zk ?_ | refine dcx_pureS zk ?_ | refine len_map ?_ | refine len_isl ?_ | refine el_of rfl rfl ?_ | refine del_own ?_ | refine del_own' rfl ?_ | refine as_go rfl ?_ | refine rd_go rfl ?_ | refine rg_end rfl ?_ | refine flat_ownX ?_ | (with_reducible refine br_b ?_ ?_ <;> intro hsp))) <;> (try (conv => whnf)))
    all_goals first | exact end_bool rfl | (exfalso; omega)
set_option maxHeartbeats 1600000 in
set_option maxRecDepth 20000 in
theorem refused_good (h : Chk age ref keep l 0) (hl : l.length ≤ 200) (ht : 0 ≤ t0 ∧ t0 ≤ t1 ∧ t1 ≤ 1000000000000) (hn : n < 256) : PureC Try.prog G0 6 [stP age ref keep l, .agg (arr2 t0 t1), .int .u8 (n : Nat)] (.bool true) := by
  obtain ⟨⟨ub1, ub2, ub3, ub4, ub5⟩, hP1, hP2, hP3⟩ := h.all
  have zk := PureS.mk k_awake
  have zc := PureS.mk (r_check h (by omega))
  have hld := fun {nx : Nat} {l1 : List (Nat × AObj)} {K : AV → Hp → Prop} => cx_qload (nx := nx) (l := l1) (K := K) h (by omega)
  obtain ⟨K, hK⟩ := stop_ex (whyT age keep t0 l) l.length
  obtain ⟨K1, hK1⟩ := stop_ex (whyT age keep t1 l) l.length
  obtain ⟨KF, hKF⟩ := stop_ex (whyF (n : Nat) 4) l.length
  have hKK := stop_later ht.2.1 hK hK1
  have hKl := hK.le
  have hK1l := hK1.le
  have hKFl := hKF.le
  have hKFe := stop_force hKF
  have hOl : ((ordL l (whyT age keep t0 l)).take K).length = K := by rw [List.length_take, ordL_len]; omega
  have hOn : ∀ i, i < K → (nth d0 ((ordL l (whyT age keep t0 l)).take K) i).1 = (nth d0 l i).1 := fun i hi => by rw [nth_take hi, ordL_nth (by omega)]
  have hO1l : ((ordL l (whyT age keep t1 l)).take K1).length = K1 := by rw [List.length_take, ordL_len]; omega
  have hOFl : ((ordL l (whyF (n : Nat) 4)).take KF).length = KF := by rw [List.length_take, ordL_len]; omega
  have hOFn : ∀ i, i < KF → nth d0 ((ordL l (whyF (n : Nat) 4)).take KF) i = ((nth d0 l i).1, 4) := fun i hi => by
    rw [nth_take hi, ordL_nth (by omega)]
    have := hKF.on i hi
    unfold whyF at this ⊢
    split
    · rename_i e; rw [if_pos e] at this; exact absurd rfl this
    · rfl
  have zf := PureS.mk (k_left (age := age) (ref := ref) (keep := keep) (l := l) (o := (ordL l (whyF (n : Nat) 4)).take KF) (fun i hi => ⟨by omega, by rw [hOFn i (by omega)]⟩) (by omega) (by omega))
  have zs := PureS.mk (k_sameOrd ((ordL l (whyT age keep t0 l)).take K) (by omega))
  unfold stP at zc hld zf
  rw [hOFl] at zf
  refine pure_x hmix b6 plainG ⟨plain_stP, plain_arr2, plain_int, trivial⟩ plain_bool rfl ?_
  unfold c6 stP arr2
  ((repeat' ((try (conv => whnf)); first | (with_reducible first | refine run_cons ?_ | refine runq_cons ?_ | refine code_seq ?_ | refine code_reg ?_ | refine code_cond ?_ | refine run_nil ?_ | refine runq_nil ?_ | refine rund_op rfl ?_ | refine rund_nil ?_ | refine code_block ?_ | refine code_skip ?_ | refine code_exit ?_ | refine code_ret ?_ | refine code_range ?_ | refine rund_fast (by decide +kernel) ?_ | refine rund_slow (by decide +kernel) ?_ | refine br_tt ?_ | refine br_ff ?_ | refine br_n ?_ | refine br_and ?_ | refine br_or ?_ | refine br_t (by assumption) ?_ | refine br_f (by assumption) ?_ | refine eq_i64 (by omega) ?_ | refine el_tn ?_) | (with_reducible refine br_d ?_ ?_ <;> intro hsp <;> first | (exfalso; omega) | skip) | ((with_reducible refine ck_x ?_ ?_); focus (first | omega | rfl | assumption | decide | (simp only [List.length_map, List.length_cons, List.length_nil]; omega))) | (with_reducible first | refine eq_tn ?_ | refine eq_tn1 ?_ | refine eq_tn2 ?_ | refine eq_m1 ?_ | refine eq_m2 ?_ | refine eq_zm ?_ | refine eq_z ?_ | refine len_map ?_ | refine len_sl ?_ | refine len_nils ?_ | refine len_own' ?_ | refine len_isl ?_ | refine eq_u8 (by omega) ?_ | refine eq_u16 (by omega) ?_) | (with_reducible first | refine eq_rfl ?_ | refine ChkX.mk (by kernel_rfl) ?_ | refine code_q rfl ?_ | refine code_d (by decide +kernel) ?_ | refine end_go rfl ?_) | refine cx_pureS zc ?_ | refine dcx_pureS zc ?_ | refine hld ?_ | refine len_map ?_ | refine len_isl ?_ | refine el_of rfl rfl ?_ | refine del_own ?_ | refine del_own' rfl ?_ | refine as_go rfl ?_ | refine rd_go rfl ?_ | refine rg_end rfl ?_ | refine flat_ownX ?_ | (with_reducible refine br_b ?_ ?_ <;> intro hsp))) <;> (try (conv => whnf)))
  intro x hg e1 e2 e3 e4
  have qt := q_tick hg (now := t0) (by omega) (K := K) (by rw [e1, e3, e4]; exact hK)
  rw [e1, e3, e4] at qt
  have hRl : (l.drop KF).length = l.length - KF := List.length_drop
  ((repeat' ((try (conv => whnf)); first | (with_reducible first | refine run_cons ?_ | refine runq_cons ?_ | refine code_seq ?_ | refine code_reg ?_ | refine code_cond ?_ | refine run_nil ?_ | refine runq_nil ?_ | refine rund_op rfl ?_ | refine rund_nil ?_ | refine code_block ?_ | refine code_skip ?_ | refine code_exit ?_ | refine code_ret ?_ | refine code_range ?_ | refine rund_fast (by decide +kernel) ?_ | refine rund_slow (by decide +kernel) ?_ | refine br_tt ?_ | refine br_ff ?_ | refine br_n ?_ | refine br_and ?_ | refine br_or ?_ | refine br_t (by assumption) ?_ | refine br_f (by assumption) ?_ | refine eq_i64 (by omega) ?_ | refine el_tn ?_) | (with_reducible refine br_d ?_ ?_ <;> intro hsp <;> first | (exfalso; omega) | skip) | ((with_reducible refine ck_x ?_ ?_); focus (first | omega | rfl | assumption | decide | (simp only [List.length_map, List.length_cons, List.length_nil]; omega))) | (with_reducible first | refine eq_tn ?_ | refine eq_tn1 ?_ | refine eq_tn2 ?_ | refine eq_m1 ?_ | refine eq_m2 ?_ | refine eq_zm ?_ | refine eq_z ?_ | refine len_map ?_ | refine len_sl ?_ | refine len_nils ?_ | refine len_own' ?_ | refine len_isl ?_ | refine eq_u8 (by omega) ?_ | refine eq_u16 (by omega) ?_) | (with_reducible first | refine eq_rfl ?_ | refine ChkX.mk (by kernel_rfl) ?_ | refine code_q rfl ?_ | refine code_d (by decide +kernel) ?_ | refine end_go rfl ?_) | refine cx_que qt rfl rfl rfl rfl (by decide) (by simp [plain_int]) plain_ords rfl ?_ | refine len_map ?_ | refine len_isl ?_ | refine el_of rfl rfl ?_ | refine del_own ?_ | refine del_own' rfl ?_ | refine as_go rfl ?_ | refine rd_go rfl ?_ | refine rg_end rfl ?_ | refine flat_ownX ?_ | (with_reducible refine br_b ?_ ?_ <;> intro hsp))) <;> (try (conv => whnf)))
  generalize hO : (ordL l (whyT age keep t0 l)).take K = O at *
  generalize hO1 : (ordL l (whyT age keep t1 l)).take K1 = O1 at *
  generalize hOF : (ordL l (whyF (n : Nat) 4)).take KF = OF at *
  generalize hR : l.drop KF = R at *
  (refine loop_x [2, 3, 4, 7, 8, 9] (fun (q : Nat × QD) => [(10, .int .i64 (q.1 : Nat))]) (fun (q : Nat × QD) => ⟨[(0, .cells [.int .i64 age, .int .i64 ref, .int .i64 keep, .isl (l.map pgA)]), (1, .cells [.int .i64 t0, .int .i64 t1]), (2, .cells (q.2.que 3)), (3, .cells (q.2.pool 4 5)), (4, .cells q.2.cells), (5, .cells q.2.ends)], 6⟩) (fun (q : Nat × QD) => q.1 ≤ K ∧ GQ q.2 ∧ q.2.age = age ∧ q.2.ref = refN ref q.1 ∧ q.2.keep = keep ∧ q.2.pages = l) (fun (q : Nat × QD) => K - q.1) ((0, x)) [] rfl (fun _ => by first | exact Nat.zero_le _ | (dsimp only; omega)) ?_ (by ((try (conv => whnf)); exact wkx_Ua)) ?_)
  · exact ⟨Nat.zero_le _, hg, e1, e2, e3, e4⟩
  rintro ⟨i, x1⟩ ⟨hi, hg1, f1, f2, f3, f4⟩
  dsimp only at hi hg1 f1 f2 f3 f4 ⊢
  by_cases hik : i < K
  · have hil : i < l.length := by omega
    have hio : i < O.length := by omega
    have hdr : x1.pages = l.take i ++ nth d0 l i :: l.drop (i + 1) := by rw [f4, nth_get hil, ← List.drop_eq_getElem_cons hil, List.take_append_drop]
    have hdn := q_refuse hg1 hdr
    have hao : nth d0 O i = ((nth d0 l i).1, (nth d0 O i).2) := Prod.ext (hOn i hik) rfl
    ((repeat' ((try (conv => whnf)); first | (with_reducible first | refine run_cons ?_ | refine runq_cons ?_ | refine code_seq ?_ | refine code_reg ?_ | refine code_cond ?_ | refine run_nil ?_ | refine runq_nil ?_ | refine rund_op rfl ?_ | refine rund_nil ?_ | refine code_block ?_ | refine code_skip ?_ | refine code_exit ?_ | refine code_ret ?_ | refine code_range ?_ | refine rund_fast (by decide +kernel) ?_ | refine rund_slow (by decide +kernel) ?_ | refine br_tt ?_ | refine br_ff ?_ | refine br_n ?_ | refine br_and ?_ | refine br_or ?_ | refine br_t (by assumption) ?_ | refine br_f (by assumption) ?_ | refine eq_i64 (by omega) ?_ | refine el_tn ?_) | (with_reducible refine br_d ?_ ?_ <;> intro hsp <;> first | (exfalso; omega) | skip) | ((with_reducible refine ck_x ?_ ?_); focus (first | omega | rfl | assumption | decide | (simp only [List.length_map, List.length_cons, List.length_nil]; omega))) | (with_reducible first | refine eq_tn ?_ | refine eq_tn1 ?_ | refine eq_tn2 ?_ | refine eq_m1 ?_ | refine eq_m2 ?_ | refine eq_zm ?_ | refine eq_z ?_ | refine len_map ?_ | refine len_sl ?_ | refine len_nils ?_ | refine len_own' ?_ | refine len_isl ?_ | refine eq_u8 (by omega) ?_ | refine eq_u16 (by omega) ?_) | refine el_mapE pg_len hio hao ?_ | (with_reducible first | refine eq_rfl ?_ | refine ChkX.mk (by kernel_rfl) ?_ | refine code_q rfl ?_ | refine code_d (by decide +kernel) ?_ | refine end_go rfl ?_) | refine cx_que hdn rfl rfl rfl rfl (by decide) (by simp [plain_int, plain_bool]) plain_int rfl ?_ | refine len_map ?_ | refine len_isl ?_ | refine el_of rfl rfl ?_ | refine del_own ?_ | refine del_own' rfl ?_ | refine as_go rfl ?_ | refine rd_go rfl ?_ | refine rg_end rfl ?_ | refine flat_ownX ?_ | (with_reducible refine br_b ?_ ?_ <;> intro hsp))) <;> (try (conv => whnf)))
    all_goals first | exact absurd rfl hsp | skip
    all_goals exact next_x (i + 1, { x1 with ref := refUp x1.ref }) [] ⟨by dsimp only; omega, GQ.up hg1, f1, by dsimp only; rw [f2]; rfl, f3, f4⟩ (by first | omega | (dsimp only; omega)) rfl (by exact wkx_Ua)
  have hiK : i = K := by omega
  subst hiK
  have qt0 := q_tick hg1 (now := t0) (by omega) (K := i) (by rw [f1, f3, f4]; exact hK)
  have qt1 := q_tick hg1 (now := t1) (by omega) (K := K1) (by rw [f1, f3, f4]; exact hK1)
  have qf := q_force4 hg1 (n := (n : Nat)) (by omega) (K := KF) (by rw [f4]; exact hKF)
  rw [f1, f3, f4] at qt0 qt1
  rw [f4] at qf
  rw [hO] at qt0
  rw [hO1] at qt1
  rw [hOF] at qf
  ((repeat' ((try (conv => whnf)); first | (with_reducible first | refine run_cons ?_ | refine runq_cons ?_ | refine code_seq ?_ | refine code_reg ?_ | refine code_cond ?_ | refine run_nil ?_ | refine runq_nil ?_ | refine rund_op rfl ?_ | refine rund_nil ?_ | refine code_block ?_ | refine code_skip ?_ | refine code_exit ?_ | refine code_ret ?_ | refine code_range ?_ | refine rund_fast (by decide +kernel) ?_ | refine rund_slow (by decide +kernel) ?_ | refine br_tt ?_ | refine br_ff ?_ | refine br_n ?_ | refine br_and ?_ | refine br_or ?_ | refine br_t (by assumption) ?_ | refine br_f (by assumption) ?_ | refine eq_i64 (by omega) ?_ | refine el_tn ?_) | (with_reducible refine br_d ?_ ?_ <;> intro hsp <;> first | (exfalso; omega) | skip) | ((with_reducible refine ck_x ?_ ?_); focus (first | omega | rfl | assumption | decide | (simp only [List.length_map, List.length_cons, List.length_nil]; omega))) | (with_reducible first | refine eq_tn ?_ | refine eq_tn1 ?_ | refine eq_tn2 ?_ | refine eq_m1 ?_ | refine eq_m2 ?_ | refine eq_zm ?_ | refine eq_z ?_ | refine len_map ?_ | refine len_sl ?_ | refine len_nils ?_ | refine len_own' ?_ | refine len_isl ?_ | refine eq_u8 (by omega) ?_ | refine eq_u16 (by omega) ?_) | (with_reducible first | refine eq_rfl ?_ | refine ChkX.mk (by kernel_rfl) ?_ | refine code_q rfl ?_ | refine code_d (by decide +kernel) ?_ | refine end_go rfl ?_) | refine cx_que qt0 rfl rfl rfl rfl (by decide) (by simp [plain_int]) plain_ords rfl ?_ | refine cx_que qt1 rfl rfl rfl rfl (by decide) (by simp [plain_int]) plain_ords rfl ?_ | refine cx_que qf rfl rfl rfl rfl (by decide) (by simp [plain_int]) plain_ords rfl ?_ | refine cx_pureS zf ?_ | refine cx_pureS zs ?_ | refine len_map ?_ | refine len_isl ?_ | refine el_of rfl rfl ?_ | refine del_own ?_ | refine del_own' rfl ?_ | refine as_go rfl ?_ | refine rd_go rfl ?_ | refine rg_end rfl ?_ | refine flat_ownX ?_ | (with_reducible refine br_b ?_ ?_ <;> intro hsp))) <;> (try (conv => whnf)))
  (refine loop_x [3, 7, 9, 15, 16] (fun (q : Nat × QD) => [(18, .int .i64 (q.1 : Nat))]) (fun (q : Nat × QD) => ⟨[(0, .cells [.int .i64 age, .int .i64 ref, .int .i64 keep, .isl (l.map pgA)]), (2, .cells (q.2.que 3)), (3, .cells (q.2.pool 4 5)), (4, .cells q.2.cells), (5, .cells q.2.ends)], 6⟩) (fun (q : Nat × QD) => q.1 ≤ KF ∧ GQ q.2 ∧ q.2.age = age ∧ q.2.ref = refN ref i ∧ q.2.keep = keep ∧ q.2.pages = l.drop q.1) (fun (q : Nat × QD) => KF - q.1) ((0, x1)) [] rfl (fun _ => by first | exact Nat.zero_le _ | (dsimp only; omega)) ?_ (by ((try (conv => whnf)); exact wkx_Ua)) ?_)
  · exact ⟨Nat.zero_le _, hg1, f1, f2, f3, by rw [f4]; rfl⟩
  clear qt qt0 qt1 qf hg1 f1 f2 f3 f4
  rintro ⟨j, x2⟩ ⟨hj, hg1, f1, f2, f3, f4⟩
  dsimp only at hj hg1 f1 f2 f3 f4 ⊢
  by_cases hjk : j < KF
  · have hjl : j < l.length := by omega
    have hjo : j < OF.length := by omega
    have hdr : l.drop j = [] ++ nth d0 l j :: l.drop (j + 1) := by rw [nth_get hjl]; exact List.drop_eq_getElem_cons hjl
    rw [hdr] at f4
    have hao := hOFn j hjk
    obtain ⟨x3, hg2, r1, r2, r3, r4, hdn⟩ := q_done hg1 f4
    ((repeat' ((try (conv => whnf)); first | (with_reducible first | refine run_cons ?_ | refine runq_cons ?_ | refine code_seq ?_ | refine code_reg ?_ | refine code_cond ?_ | refine run_nil ?_ | refine runq_nil ?_ | refine rund_op rfl ?_ | refine rund_nil ?_ | refine code_block ?_ | refine code_skip ?_ | refine code_exit ?_ | refine code_ret ?_ | refine code_range ?_ | refine rund_fast (by decide +kernel) ?_ | refine rund_slow (by decide +kernel) ?_ | refine br_tt ?_ | refine br_ff ?_ | refine br_n ?_ | refine br_and ?_ | refine br_or ?_ | refine br_t (by assumption) ?_ | refine br_f (by assumption) ?_ | refine eq_i64 (by omega) ?_ | refine el_tn ?_) | (with_reducible refine br_d ?_ ?_ <;> intro hsp <;> first | (exfalso; omega) | skip) | ((with_reducible refine ck_x ?_ ?_); focus (first | omega | rfl | assumption | decide | (simp only [List.length_map, List.length_cons, List.length_nil]; omega))) | (with_reducible first | refine eq_tn ?_ | refine eq_tn1 ?_ | refine eq_tn2 ?_ | refine eq_m1 ?_ | refine eq_m2 ?_ | refine eq_zm ?_ | refine eq_z ?_ | refine len_map ?_ | refine len_sl ?_ | refine len_nils ?_ | refine len_own' ?_ | refine len_isl ?_ | refine eq_u8 (by omega) ?_ | refine eq_u16 (by omega) ?_) | refine el_mapE pg_len hjo hao ?_ | (with_reducible first | refine eq_rfl ?_ | refine ChkX.mk (by kernel_rfl) ?_ | refine code_q rfl ?_ | refine code_d (by decide +kernel) ?_ | refine end_go rfl ?_) | refine cx_que hdn rfl rfl rfl rfl (by decide) (by simp [plain_int, plain_bool]) plain_int rfl ?_ | refine len_map ?_ | refine len_isl ?_ | refine el_of rfl rfl ?_ | refine del_own ?_ | refine del_own' rfl ?_ | refine as_go rfl ?_ | refine rd_go rfl ?_ | refine rg_end rfl ?_ | refine flat_ownX ?_ | (with_reducible refine br_b ?_ ?_ <;> intro hsp))) <;> (try (conv => whnf)))
    all_goals first | exact absurd rfl hsp | skip
    all_goals exact next_x (j + 1, x3) [] ⟨by dsimp only; omega, hg2, r1.trans f1, r2.trans f2, r3.trans f3, r4⟩ (by first | omega | (dsimp only; omega)) rfl (by exact wkx_Ua)
  have hjK : j = KF := by omega
  subst hjK
  rw [hR] at f4
  ((repeat' ((try (conv => whnf)); first | (with_reducible first | refine run_cons ?_ | refine runq_cons ?_ | refine code_seq ?_ | refine code_reg ?_ | refine code_cond ?_ | refine run_nil ?_ | refine runq_nil ?_ | refine rund_op rfl ?_ | refine rund_nil ?_ | refine code_block ?_ | refine code_skip ?_ | refine code_exit ?_ | refine code_ret ?_ | refine code_range ?_ | refine rund_fast (by decide +kernel) ?_ | refine rund_slow (by decide +kernel) ?_ | refine br_tt ?_ | refine br_ff ?_ | refine br_n ?_ | refine br_and ?_ | refine br_or ?_ | refine br_t (by assumption) ?_ | refine br_f (by assumption) ?_ | refine eq_i64 (by omega) ?_ | refine el_tn ?_) | (with_reducible refine br_d ?_ ?_ <;> intro hsp <;> first | (exfalso; omega) | skip) | ((with_reducible refine ck_x ?_ ?_); focus (first | omega | rfl | assumption | decide | (simp only [List.length_map, List.length_cons, List.length_nil]; omega))) | (with_reducible first | refine eq_tn ?_ | refine eq_tn1 ?_ | refine eq_tn2 ?_ | refine eq_m1 ?_ | refine eq_m2 ?_ | refine eq_zm ?_ | refine eq_z ?_ | refine len_map ?_ | refine len_sl ?_ | refine len_nils ?_ | refine len_own' ?_ | refine len_isl ?_ | refine eq_u8 (by omega) ?_ | refine eq_u16 (by omega) ?_) | (with_reducible first | refine eq_rfl ?_ | refine ChkX.mk (by kernel_rfl) ?_ | refine code_q rfl ?_ | refine code_d (by decide +kernel) ?_ | refine end_go rfl ?_) | refine len_map ?_ | refine len_isl ?_ | refine el_of rfl rfl ?_ | refine del_own ?_ | refine del_own' rfl ?_ | refine as_go rfl ?_ | refine rd_go rfl ?_ | refine rg_end rfl ?_ | refine flat_ownX ?_ | (with_reducible refine br_b ?_ ?_ <;> intro hsp))) <;> (try (conv => whnf)))
  (refine loop_x [3, 7, 9, 16] (fun (k : Nat) => [(19, .int .i64 (refN ref k)), (20, .int .i64 (k : Nat))]) (fun (k : Nat) => ⟨[(0, .cells [.int .i64 age, .int .i64 ref, .int .i64 keep, .isl (l.map pgA)]), (2, .cells (x2.que 3)), (3, .cells (x2.pool 4 5)), (4, .cells x2.cells), (5, .cells x2.ends)], 6⟩) (fun (k : Nat) => k ≤ i) (fun (k : Nat) => i - k) (0) [] rfl (fun _ => by first | exact Nat.zero_le _ | (dsimp only; omega)) ?_ (by ((try (conv => whnf)); (rw [show refN ref 0 = ref from rfl]); exact wkx_Ua)) ?_)
  · exact Nat.zero_le _
  intro k hk
  by_cases hke : k < i ∧ refN ref k < 1000000000000
  · have hrg := refN_ge (r := ref) k
    have hup : refN ref (k + 1) = refN ref k + 1 := if_pos hke.2
    obtain ⟨hke1, hke2⟩ := hke
    ((repeat' ((try (conv => whnf)); first | (with_reducible first | refine run_cons ?_ | refine runq_cons ?_ | refine code_seq ?_ | refine code_reg ?_ | refine code_cond ?_ | refine run_nil ?_ | refine runq_nil ?_ | refine rund_op rfl ?_ | refine rund_nil ?_ | refine code_block ?_ | refine code_skip ?_ | refine code_exit ?_ | refine code_ret ?_ | refine code_range ?_ | refine rund_fast (by decide +kernel) ?_ | refine rund_slow (by decide +kernel) ?_ | refine br_tt ?_ | refine br_ff ?_ | refine br_n ?_ | refine br_and ?_ | refine br_or ?_ | refine br_t (by assumption) ?_ | refine br_f (by assumption) ?_ | refine eq_i64 (by omega) ?_ | refine el_tn ?_) | (with_reducible refine br_d ?_ ?_ <;> intro hsp <;> first | (exfalso; omega) | skip) | ((with_reducible refine ck_x ?_ ?_); focus (first | omega | rfl | assumption | decide | (simp only [List.length_map, List.length_cons, List.length_nil]; omega))) | (with_reducible first | refine eq_tn ?_ | refine eq_tn1 ?_ | refine eq_tn2 ?_ | refine eq_m1 ?_ | refine eq_m2 ?_ | refine eq_zm ?_ | refine eq_z ?_ | refine len_map ?_ | refine len_sl ?_ | refine len_nils ?_ | refine len_own' ?_ | refine len_isl ?_ | refine eq_u8 (by omega) ?_ | refine eq_u16 (by omega) ?_) | (with_reducible first | refine eq_rfl ?_ | refine ChkX.mk (by kernel_rfl) ?_ | refine code_q rfl ?_ | refine code_d (by decide +kernel) ?_ | refine end_go rfl ?_) | refine len_map ?_ | refine len_isl ?_ | refine el_of rfl rfl ?_ | refine del_own ?_ | refine del_own' rfl ?_ | refine as_go rfl ?_ | refine rd_go rfl ?_ | refine rg_end rfl ?_ | refine flat_ownX ?_ | (with_reducible refine br_b ?_ ?_ <;> intro hsp))) <;> (try (conv => whnf)))
    all_goals exact next_x (k + 1) [] (by (try dsimp only); omega) (by first | omega | (dsimp only; omega)) rfl (by ((try dsimp only); rw [hup]); exact wkx_Ua)
  have hre : refN ref k = refN ref i := by
    by_cases e : k = i
    · rw [e]
    · have h1 : ¬ refN ref k < 1000000000000 := fun h2 => hke ⟨by omega, h2⟩
      have := refN_far h1 (i - k)
      rw [show k + (i - k) = i by omega] at this
      exact this.symm
  have qs := q_save hg1
  rw [f1, f2, f3, f4] at qs
  have z4 := PureS.mk (k_samePu age (refN ref i) keep R (by omega))
  unfold stP at z4 qs
  rw [hre]
  have hke2 : ¬ (k < i ∧ refN ref i < 1000000000000) := fun e => hke (by rw [hre]; exact e)
  by_cases hki : k < i
  · have hke3 : ¬ refN ref i < 1000000000000 := fun e => hke2 ⟨hki, e⟩
    ((repeat' ((try (conv => whnf)); first | (with_reducible first | refine run_cons ?_ | refine runq_cons ?_ | refine code_seq ?_ | refine code_reg ?_ | refine code_cond ?_ | refine run_nil ?_ | refine runq_nil ?_ | refine rund_op rfl ?_ | refine rund_nil ?_ | refine code_block ?_ | refine code_skip ?_ | refine code_exit ?_ | refine code_ret ?_ | refine code_range ?_ | refine rund_fast (by decide +kernel) ?_ | refine rund_slow (by decide +kernel) ?_ | refine br_tt ?_ | refine br_ff ?_ | refine br_n ?_ | refine br_and ?_ | refine br_or ?_ | refine br_t (by assumption) ?_ | refine br_f (by assumption) ?_ | refine eq_i64 (by omega) ?_ | refine el_tn ?_) | (with_reducible refine br_d ?_ ?_ <;> intro hsp <;> first | (exfalso; omega) | skip) | ((with_reducible refine ck_x ?_ ?_); focus (first | omega | rfl | assumption | decide | (simp only [List.length_map, List.length_cons, List.length_nil]; omega))) | (with_reducible first | refine eq_tn ?_ | refine eq_tn1 ?_ | refine eq_tn2 ?_ | refine eq_m1 ?_ | refine eq_m2 ?_ | refine eq_zm ?_ | refine eq_z ?_ | refine len_map ?_ | refine len_sl ?_ | refine len_nils ?_ | refine len_own' ?_ | refine len_isl ?_ | refine eq_u8 (by omega) ?_ | refine eq_u16 (by omega) ?_) | (with_reducible first | refine eq_rfl ?_ | refine ChkX.mk (by kernel_rfl) ?_ | refine code_d (by decide +kernel) ?_ | refine end_go rfl ?_) | refine dcx_que qs rfl rfl rfl rfl (by simp) plain_stP rfl rfl ?_ | refine cx_que qs rfl rfl rfl rfl (by decide) (by simp) plain_stP rfl ?_ | refine cx_pureS zk ?_ | refine dcx_pureS zk ?_ | refine dcx_pureS z4 ?_ | refine cx_pureS z4 ?_ | refine len_map ?_ | refine len_isl ?_ | refine el_of rfl rfl ?_ | refine del_own ?_ | refine del_own' rfl ?_ | refine as_go rfl ?_ | refine rd_go rfl ?_ | refine rg_end rfl ?_ | refine flat_ownX ?_ | (with_reducible refine br_b ?_ ?_ <;> intro hsp))) <;> (try (conv => whnf)))
    all_goals exact end_bool rfl
  · ((repeat' ((try (conv => whnf)); first | (with_reducible first | refine run_cons ?_ | refine runq_cons ?_ | refine code_seq ?_ | refine code_reg ?_ | refine code_cond ?_ | refine run_nil ?_ | refine runq_nil ?_ | refine rund_op rfl ?_ | refine rund_nil ?_ | refine code_block ?_ | refine code_skip ?_ | refine code_exit ?_ | refine code_ret ?_ | refine code_range ?_ | refine rund_fast (by decide +kernel) ?_ | refine rund_slow (by decide +kernel) ?_ | refine br_tt ?_ | refine br_ff ?_ | refine br_n ?_ | refine br_and ?_ | refine br_or ?_ | refine br_t (by assumption) ?_ | refine br_f (by assumption) ?_ | refine eq_i64 (by omega) ?_ | refine el_tn ?_) | (with_reducible refine br_d ?_ ?_ <;> intro hsp <;> first | (exfalso; omega) | skip) | ((with_reducible refine ck_x ?_ ?_); focus (first | omega | rfl | assumption | decide | (simp only [List.length_map, List.length_cons, List.length_nil]; omega))) | (with_reducible first | refine eq_tn ?_ | refine eq_tn1 ?_ | refine eq_tn2 ?_ | refine eq_m1 ?_ | refine eq_m2 ?_ | refine eq_zm ?_ | refine eq_z ?_ | refine len_map ?_ | refine len_sl ?_ | refine len_nils ?_ | refine len_own' ?_ | refine len_isl ?_ | refine eq_u8 (by omega) ?_ | refine eq_u16 (by omega) ?_) | (with_reducible first | refine eq_rfl ?_ | refine ChkX.mk (by kernel_rfl) ?_ | refine code_d (by decide +kernel) ?_ | refine end_go rfl ?_) | refine dcx_que qs rfl rfl rfl rfl (by simp) plain_stP rfl rfl ?_ | refine cx_que qs rfl rfl rfl rfl (by decide) (by simp) plain_stP rfl ?_ | refine cx_pureS zk ?_ | refine dcx_pureS zk ?_ | refine dcx_pureS z4 ?_ | refine cx_pureS z4 ?_ | refine len_map ?_ | refine len_isl ?_ | refine el_of rfl rfl ?_ | refine del_own ?_ | refine del_own' rfl ?_ | refine as_go rfl ?_ | refine rd_go rfl ?_ | refine rg_end rfl ?_ | refine flat_ownX ?_ | (with_reducible refine br_b ?_ ?_ <;> intro hsp))) <;> (try (conv => whnf)))
    all_goals exact end_bool rfl
end
end Go.Proofs.Ytggkpagngnnjjaa
