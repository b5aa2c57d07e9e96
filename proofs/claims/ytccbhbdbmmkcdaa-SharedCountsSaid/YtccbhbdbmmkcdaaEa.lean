/-
  The law of counts.
-/
import Derived.Test.YtccbhbdbmmkcdaaAmWt
import Derived.Test.YtccbhbdbmmkcdaaShE
set_option linter.unusedSimpArgs false
set_option linter.unusedVariables false
namespace Go.Pol
open Go.Am
/-- The counts of the first frames, together. -/
def sumC (L : List Vw) (n : Nat) : Nat := (L.filter fun v => decide (v.2.2.1 < n)).length
theorem sumC_s (L : List Vw) (n : Nat) : sumC L (n + 1) = sumC L n + cntF L n := by
  unfold sumC cntF
  induction L with
  | nil => rfl
  | cons v L ih =>
    simp only [List.filter_cons]
    rcases Nat.lt_trichotomy v.2.2.1 n with h | h | h
    · rw [if_pos (by simp; omega), if_pos (by simpa using h), if_neg (by simp; omega)]; simp only [List.length_cons]; omega
    · rw [if_pos (by simp; omega), if_neg (by simp; omega), if_pos (by simpa using h)]; simp only [List.length_cons]; omega
    · rw [if_neg (by simp; omega), if_neg (by simp; omega), if_neg (by simp; omega)]; exact ih
theorem sumC_0 (L : List Vw) : sumC L 0 = 0 := by unfold sumC; rw [List.length_eq_zero_iff, List.filter_eq_nil_iff]; intro v _; simp
theorem cnt_0 (f : Nat) : cntF [] f = 0 := rfl
theorem sumC_le (L : List Vw) (n : Nat) : sumC L n ≤ L.length := List.length_filter_le ..
theorem sumC_all {L : List Vw} (h : ∀ v ∈ L, v.2.2.1 < 1024) : sumC L 1024 = L.length := by
  unfold sumC; congr 1; rw [List.filter_eq_self]; intro v hv; simpa using h v hv
theorem cnt_take {L : List Vw} {i : Nat} (f : Nat) (hi : i < L.length) : cntF (L.take (i + 1)) f = cntF (L.take i) f + if (nth dV L i).2.2.1 = f then 1 else 0 := by
  rw [take_nth (d := dV) hi, cnt_app, cnt_cons]; rfl
theorem cnt_leL (L : List Vw) (f : Nat) : cntF L f ≤ L.length := List.length_filter_le ..
end Go.Pol
namespace Go.Proofs.Ytccbhbdbmmkcdaa.Sh
open Go Go.Am Go.Pol
theorem wkx_Ea {p : Prop} (h : p := by (refine weak_s (by exact oneOf_of rfl) (by exact subH_of rfl) (by intro hs; (repeat' ((try (conv => whnf)); first | with_reducible exact True.intro | with_reducible refine And.intro ?_ ?_ | (with_reducible refine WkX.mk ?_; first | exact wk_undef | exact wk_int (by first | rfl | omega | (dsimp only; omega)) | exact wk_bool rfl | exact wk_ptr rfl (by first | decide | simp | omega) | exact wk_sl rfl (by first | decide | simp | omega) (by first | rfl | omega | simp) (by first | omega | simp) (by first | omega | simp) | exact wk_own rfl (by first | decide | simp | omega) | exact wk_nil0 (by first | rfl | simp) | exact wk_slown rfl (by first | decide | omega | (simp; done)) (by first | omega | (simp; done)) (by first | rfl | omega | (simp; done) | (simp; omega)) | exact wk_plain hs (by (first | assumption | exact plain_int | exact plain_bool | exact plain_undef | exact plain_nils | exact plain_nilp | exact plain_nilf | exact plain_str | with_reducible apply plain_int | with_reducible apply plain_bool | with_reducible apply plain_vwC | with_reducible apply plain_vwE | with_reducible apply plain_vs | with_reducible apply plain_vsA)) | (with_reducible refine wk_fn ?_ ?_ <;> repeat' (first | with_reducible exact wkl_nil | with_reducible refine wkl_cons ?_ ?_ | exact wk_ptr rfl (by first | decide | simp | omega))) | (with_reducible refine wk_agg ?_; repeat' (first | with_reducible exact wkl_nil | with_reducible refine wkl_cons ?_ ?_ | exact wk_int (by first | rfl | omega | (dsimp only; omega)) | exact wk_bool rfl)) | exact wk_yld rfl (by first | decide | simp | omega))))) (by intro hs; (try dsimp only); (repeat' (first | with_reducible exact wko_nil | refine wko_tab hs (by first | decide | omega | simp) rfl rfl (by first | decide | omega | simp) rfl (by first | decide | omega | simp) ?_ | refine wko_maps hs (by first | decide | omega | simp) rfl rfl key_plain ?_ | refine wko_plain hs (by first | decide | omega | simp) rfl (by first | rfl) (by (first | with_reducible assumption | with_reducible apply cells_plain | with_reducible apply ends_plain | with_reducible apply cnt_plain | with_reducible apply memI_plain _ _ | with_reducible apply vw_plain | with_reducible apply plain_flat vw_plain' | with_reducible apply nat_plain | with_reducible apply a_plain | with_reducible apply plain_flat nat1_plain | with_reducible apply plain_map (fun _ => plain_int) | with_reducible apply plain_map (fun _ => plain_bool) | ((repeat' (first | exact plain_all0 | refine plain_all2 ?_ ?_ | exact plain_int | first | assumption | exact plain_int | exact plain_bool | exact plain_undef | exact plain_nils | exact plain_nilp | exact plain_nilf | exact plain_str | with_reducible apply plain_int | with_reducible apply plain_bool | with_reducible apply plain_vwC | with_reducible apply plain_vwE | with_reducible apply plain_vs | with_reducible apply plain_vsA)); done) | ((refine plain_app ?_ ?_) <;> (first | with_reducible assumption | with_reducible apply cells_plain | with_reducible apply ends_plain | with_reducible apply cnt_plain | with_reducible apply memI_plain _ _ | with_reducible apply vw_plain | with_reducible apply plain_flat vw_plain' | with_reducible apply nat_plain | with_reducible apply a_plain | with_reducible apply plain_flat nat1_plain | with_reducible apply plain_map (fun _ => plain_int) | with_reducible apply plain_map (fun _ => plain_bool) | ((repeat' (first | exact plain_all0 | refine plain_all2 ?_ ?_ | exact plain_int | first | assumption | exact plain_int | exact plain_bool | exact plain_undef | exact plain_nils | exact plain_nilp | exact plain_nilf | exact plain_str | with_reducible apply plain_int | with_reducible apply plain_bool | with_reducible apply plain_vwC | with_reducible apply plain_vwE | with_reducible apply plain_vs | with_reducible apply plain_vsA)); done))))) ?_ | refine wko_cells (by first | decide | omega | simp) rfl (by repeat' (first | with_reducible exact wkl_nil | with_reducible refine wkl_cons ?_ ?_ | (first | exact wk_undef | exact wk_int (by first | rfl | omega | (dsimp only; omega)) | exact wk_bool rfl | exact wk_ptr rfl (by first | decide | simp | omega) | exact wk_sl rfl (by first | decide | simp | omega) (by first | rfl | omega | simp) (by first | omega | simp) (by first | omega | simp) | exact wk_own rfl (by first | decide | simp | omega) | exact wk_nil0 (by first | rfl | simp) | exact wk_slown rfl (by first | decide | omega | (simp; done)) (by first | omega | (simp; done)) (by first | rfl | omega | (simp; done) | (simp; omega)) | exact wk_plain hs (by (first | assumption | exact plain_int | exact plain_bool | exact plain_undef | exact plain_nils | exact plain_nilp | exact plain_nilf | exact plain_str | with_reducible apply plain_int | with_reducible apply plain_bool | with_reducible apply plain_vwC | with_reducible apply plain_vwE | with_reducible apply plain_vs | with_reducible apply plain_vsA)) | (with_reducible refine wk_fn ?_ ?_ <;> repeat' (first | with_reducible exact wkl_nil | with_reducible refine wkl_cons ?_ ?_ | exact wk_ptr rfl (by first | decide | simp | omega))) | (with_reducible refine wk_agg ?_; repeat' (first | with_reducible exact wkl_nil | with_reducible refine wkl_cons ?_ ?_ | exact wk_int (by first | rfl | omega | (dsimp only; omega)) | exact wk_bool rfl)) | exact wk_yld rfl (by first | decide | simp | omega)))) ?_ | refine wko_loop (by first | decide | omega | simp) rfl (by ((try subst hF); (try subst hF2); exact wkl_sd (wkf_sget (by (repeat' ((try (conv => whnf)); first | with_reducible exact True.intro | with_reducible refine And.intro ?_ ?_ | (with_reducible refine WkX.mk ?_; first | exact wk_undef | exact wk_int (by first | rfl | omega | (dsimp only; omega)) | exact wk_bool rfl | exact wk_ptr rfl (by first | decide | simp | omega) | exact wk_sl rfl (by first | decide | simp | omega) (by first | rfl | omega | simp) (by first | omega | simp) (by first | omega | simp) | exact wk_own rfl (by first | decide | simp | omega) | exact wk_nil0 (by first | rfl | simp) | exact wk_slown rfl (by first | decide | omega | (simp; done)) (by first | omega | (simp; done)) (by first | rfl | omega | (simp; done) | (simp; omega)) | exact wk_plain hs (by (first | assumption | exact plain_int | exact plain_bool | exact plain_undef | exact plain_nils | exact plain_nilp | exact plain_nilf | exact plain_str | with_reducible apply plain_int | with_reducible apply plain_bool | with_reducible apply plain_vwC | with_reducible apply plain_vwE | with_reducible apply plain_vs | with_reducible apply plain_vsA)) | (with_reducible refine wk_fn ?_ ?_ <;> repeat' (first | with_reducible exact wkl_nil | with_reducible refine wkl_cons ?_ ?_ | exact wk_ptr rfl (by first | decide | simp | omega))) | (with_reducible refine wk_agg ?_; repeat' (first | with_reducible exact wkl_nil | with_reducible refine wkl_cons ?_ ?_ | exact wk_int (by first | rfl | omega | (dsimp only; omega)) | exact wk_bool rfl)) | exact wk_yld rfl (by first | decide | simp | omega)))))))) ?_ | exact wko_nil))))) : p := h
theorem wx_Ea {p q : Prop} (hq : q) (h : HidP q → p := by (intro hQz; ((repeat' ((try (conv => whnf)); first | (with_reducible first | refine run_cons ?_ | refine runq_cons ?_ | refine code_seq ?_ | refine code_reg ?_ | refine code_cond ?_ | refine run_nil ?_ | refine runq_nil ?_ | refine rund_op rfl ?_ | refine rund_nil ?_ | refine code_block ?_ | refine code_skip ?_ | refine code_exit ?_ | refine code_ret ?_ | refine code_range ?_ | refine rund_fast (by decide +kernel) ?_ | refine rund_slow (by decide +kernel) ?_ | refine br_tt ?_ | refine br_ff ?_ | refine br_n ?_ | refine br_and ?_ | refine br_or ?_ | refine br_t (by assumption) ?_ | refine br_f (by assumption) ?_ | refine eq_i64 (by omega) ?_ | refine el_tn ?_) | ((with_reducible refine br_dt ?_ ?_); focus omega) | ((with_reducible refine br_df ?_ ?_); focus omega) | ((with_reducible apply br_dq hQz) <;> (try intro hsp hQz)) | ((with_reducible refine ck_x ?_ ?_); focus (first | omega | rfl | assumption | decide | (simp only [List.length_map, List.length_cons, List.length_nil]; omega))) | (with_reducible first | refine eq_tn ?_ | refine eq_tn1 ?_ | refine eq_tn2 ?_ | refine eq_m1 ?_ | refine eq_m2 ?_ | refine eq_zm ?_ | refine eq_z ?_ | refine len_map ?_ | refine len_sl ?_ | refine len_nils ?_ | refine len_own' ?_ | refine len_isl ?_ | refine eq_u8 (by omega) ?_ | refine eq_u16 (by omega) ?_) | refine el_mapE (d := dV) vw_len (by first | assumption | omega) (by with_reducible assumption) ?_ | (with_reducible first | refine eq_rfl ?_ | refine ChkX.mk (by kernel_rfl) ?_ | refine code_q rfl ?_ | refine code_d (by decide +kernel) ?_ | refine end_go rfl ?_) | refine cx_pureS (by assumption) ?_ | refine cx_Rd (by assumption) ?_ | refine cx_tab (by assumption) rfl rfl rfl rfl rfl (by decide) rfl ?_ | refine len_map ?_ | refine len_isl ?_ | refine el_of rfl rfl ?_ | refine del_own ?_ | refine del_own' rfl ?_ | refine as_go rfl ?_ | refine rd_go rfl ?_ | refine rg_end rfl ?_ | refine flat_ownX ?_ | refine EqLX.mk ?_ | ((with_reducible apply br_bq hQz) <;> (try intro hsp hQz)) | exact hQz.out)) <;> (try (conv => whnf))))) : p := h ⟨hq⟩
section
variable {L : List Vw} {R : List Rw}
theorem law_no {i e : Int} (h : ChkR R i e) (hn : e ≠ 0 ∨ 60 < R.length) : PureS 3 [.agg [.isl (R.map rwC)]] (.bool true) := by
  refine PureS.mk (pure_x hmix b3 plainG ⟨plain_rsA, trivial⟩ plain_bool rfl ?_)
  unfold c3
  have hr := l_ready_no h hn
  have ha := k_awake
  (refine wx_Ea ?_; repeat' (first | with_reducible refine And.intro ?_ ?_ | intro hsp))
  all_goals exact end_bool rfl
set_option maxHeartbeats 1600000 in
theorem law_ok (hs : srt L) (hl : L.length ≤ 60) (ho : ∀ v ∈ L, v.1 < 64 ∧ v.2.1 < 1024 ∧ v.2.2.1 < 1024) : PureS 3 [.agg [.isl (L.map vwC)]] (.bool true) := by
  obtain ⟨t, s, ht, _, hr⟩ := l_ready_any hs hl ho
  refine PureS.mk (pure_x hmix b3 plainG ⟨plain_vsA, trivial⟩ plain_bool rfl ?_)
  unfold c3
  have ha := k_awake
  (refine wx_Ea ?_; repeat' (first | with_reducible refine And.intro ?_ ?_ | intro hsp))
  (refine loop_x [1, 3] (fun (f : Nat) => [(5, .int .i64 (sumC L f : Nat)), (6, .int .i64 (f : Nat))]) (fun (f : Nat) => ⟨[(0, .cells [.isl (L.map vwC)])] ++ tabN t 1 2 3 4 5, 6⟩) (fun (f : Nat) => f ≤ 1024) (fun (f : Nat) => 1024 - f) (0) [] rfl (fun _ => by first | exact Nat.zero_le _ | (dsimp only; omega)) ?_ (by ((try (conv => whnf)); (rw [sumC_0]); exact wkx_Ea)) ?_)
  · exact Nat.zero_le _
  intro f hf
  have hsl := sumC_le L f
  by_cases hf2 : f < 1024
  · have hc := t_Count (t := t) hf2
    rw [ht.cnt] at hc
    have h1 := sumC_s L f
    have h2 := cnt_leL L f
    generalize cntF L f = n at *
    (refine wx_Ea ?_; repeat' (first | with_reducible refine And.intro ?_ ?_ | intro hsp))
    all_goals exact next_x (f + 1) [] (by (try dsimp only); omega) (by first | omega | (dsimp only; omega)) rfl (by exact wkx_Ea)
  · obtain rfl : f = 1024 := by omega
    have hall := sumC_all fun v hv => (ho v hv).2.2
    rw [hall]
    (refine wx_Ea ?_; repeat' (first | with_reducible refine And.intro ?_ ?_ | intro hsp))
    (refine loop_x [1, 3, 5] (fun (i : Nat) => [(9, .int .i64 (i : Nat))]) (fun (i : Nat) => ⟨[(0, .cells [.isl (L.map vwC)])] ++ tabN t 1 2 3 4 5, 6⟩) (fun (i : Nat) => i ≤ L.length) (fun (i : Nat) => L.length - i) (0) [] rfl (fun _ => by first | exact Nat.zero_le _ | (dsimp only; omega)) ?_ (by ((try (conv => whnf)); exact wkx_Ea)) ?_)
    · exact Nat.zero_le _
    intro i hi
    by_cases hil : i < L.length
    · have hok := ho _ (nth_mem (d := dV) hil)
      have hc := t_Count (t := t) hok.2.2
      rw [ht.cnt] at hc
      generalize hx : nth dV L i = v at *
      (refine wx_Ea ?_; repeat' (first | with_reducible refine And.intro ?_ ?_ | intro hsp))
      (refine loop_x [1, 3, 5, 9, 10, 11] (fun (k : Nat) => [(12, .int .i64 (cntF (L.take k) v.2.2.1 : Nat)), (13, .int .i64 (k : Nat))]) (fun (k : Nat) => ⟨[(0, .cells [.isl (L.map vwC)])] ++ tabN t 1 2 3 4 5, 6⟩) (fun (k : Nat) => k ≤ L.length) (fun (k : Nat) => L.length - k) (0) [] rfl (fun _ => by first | exact Nat.zero_le _ | (dsimp only; omega)) ?_ (by ((try (conv => whnf)); (rw [List.take_zero, cnt_0]); exact wkx_Ea)) ?_)
      · exact Nat.zero_le _
      intro k hk
      have hcl := cnt_leL (L.take k) v.2.2.1
      rw [List.length_take] at hcl
      by_cases hkl : k < L.length
      · have hct := cnt_take v.2.2.1 hkl
        generalize hy : nth dV L k = u at *
        by_cases he : u.2.2.1 = v.2.2.1
        · rw [if_pos he] at hct
          (refine wx_Ea ?_; repeat' (first | with_reducible refine And.intro ?_ ?_ | intro hsp))
          all_goals exact next_x (k + 1) [] (by (try dsimp only); omega) (by first | omega | (dsimp only; omega)) rfl (by exact wkx_Ea)
        · rw [if_neg he] at hct
          (refine wx_Ea ?_; repeat' (first | with_reducible refine And.intro ?_ ?_ | intro hsp))
          all_goals exact next_x (k + 1) [] (by (try dsimp only); omega) (by first | omega | (dsimp only; omega)) rfl (by exact wkx_Ea)
      · rw [List.take_of_length_le (by omega)]
        (refine wx_Ea ?_; repeat' (first | with_reducible refine And.intro ?_ ?_ | intro hsp))
        all_goals exact next_x (i + 1) [] (by (try dsimp only); omega) (by first | omega | (dsimp only; omega)) rfl (by exact wkx_Ea)
    · obtain rfl : i = L.length := by omega
      (refine wx_Ea ?_; repeat' (first | with_reducible refine And.intro ?_ ?_ | intro hsp))
      all_goals exact end_bool rfl
theorem law_counts (R : List Rw) : PureS 3 [.agg [.isl (R.map rwC)]] (.bool true) := by
  obtain ⟨i, e, h⟩ := chk_ex R
  by_cases hn : e ≠ 0 ∨ 60 < R.length
  · exact law_no h hn
  · have he : e = 0 := Classical.byContradiction fun hc => hn (.inl hc)
    subst he
    obtain ⟨L, hR, h1, _, h3⟩ := chk_views h
    have hlen : R.length ≤ 60 := Nat.le_of_not_lt fun hc => hn (.inr hc)
    subst hR
    rw [rw_map]
    exact law_ok h1 (by rw [List.length_map] at hlen; exact hlen) h3
end
end Go.Proofs.Ytccbhbdbmmkcdaa.Sh
