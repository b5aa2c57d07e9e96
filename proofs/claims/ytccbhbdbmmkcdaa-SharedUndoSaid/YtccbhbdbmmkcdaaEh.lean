/-
  The law of undo.
-/
import Derived.Test.YtccbhbdbmmkcdaaAmWt
import Derived.Test.YtccbhbdbmmkcdaaEd
import Derived.Test.YtccbhbdbmmkcdaaEa
import Derived.Test.YtccbhbdbmmkcdaaYp
import Derived.Test.YtccbhbdbmmkcdaaYl
set_option linter.unusedSimpArgs false
set_option linter.unusedVariables false
namespace Go.Pol
theorem noA_len (L : List Vw) (a : Nat) : (noA a L).length + (ofA a L).length = L.length := by
  unfold noA ofA
  induction L with
  | nil => rfl
  | cons v L ih =>
    simp only [List.filter_cons]
    by_cases h : v.1 = a
    · rw [if_neg (by simp [h]), if_pos (by simp [h])]; simp only [List.length_cons]; omega
    · rw [if_pos (by simp [h]), if_neg (by simp [h])]; simp only [List.length_cons]; omega
end Go.Pol
namespace Go.Proofs.Ytccbhbdbmmkcdaa.Sh
open Go Go.Am Go.Pol
theorem wkx_Eh {p : Prop} (h : p := by (refine weak_s (by exact oneOf_of rfl) (by exact subH_of rfl) (by intro hs; (repeat' ((try (conv => whnf)); first | with_reducible exact True.intro | with_reducible refine And.intro ?_ ?_ | (with_reducible refine WkX.mk ?_; first | exact wk_undef | exact wk_int (by first | rfl | omega | (dsimp only; omega)) | exact wk_bool rfl | exact wk_ptr rfl (by first | decide | simp | omega) | exact wk_map rfl (by first | decide | simp | omega) | exact wk_sl rfl (by first | decide | simp | omega) (by first | rfl | omega | simp) (by first | omega | simp) (by first | omega | simp) | exact wk_bool (by simp) | exact wk_own rfl (by first | decide | simp | omega) | exact wk_nil0 (by first | rfl | simp) | exact wk_slown rfl (by first | decide | omega | (simp; done)) (by first | omega | (simp; done)) (by first | rfl | omega | (simp; done) | (simp; omega)) | exact wk_plain hs (by (first | assumption | exact plain_int | exact plain_bool | exact plain_undef | exact plain_nils | exact plain_nilp | exact plain_nilf | exact plain_str | with_reducible apply plain_int | with_reducible apply plain_bool | with_reducible apply plain_vwC | with_reducible apply plain_vwE | with_reducible apply plain_vs | with_reducible apply plain_vsA | with_reducible apply plain_is | with_reducible apply plain_rsA | with_reducible apply plain_ns | with_reducible apply plain_t2 | with_reducible apply plain_t3 | with_reducible apply plain_tn | with_reducible apply plain_rwE)) | (with_reducible refine wk_fn ?_ ?_ <;> repeat' (first | with_reducible exact wkl_nil | with_reducible refine wkl_cons ?_ ?_ | exact wk_ptr rfl (by first | decide | simp | omega))) | (with_reducible refine wk_agg ?_; repeat' (first | with_reducible exact wkl_nil | with_reducible refine wkl_cons ?_ ?_ | exact wk_int (by first | rfl | omega | (dsimp only; omega)) | exact wk_bool rfl)) | exact wk_yld rfl (by first | decide | simp | omega) | (with_reducible refine wk_tup ?_; repeat' (first | with_reducible exact wkl_nil | with_reducible refine wkl_cons ?_ ?_ | exact wk_int (by first | rfl | omega | (dsimp only; omega)) | exact wk_bool rfl | exact wk_ptr rfl (by first | decide | simp | omega))))))) (by intro hs; (try dsimp only); (repeat' (first | with_reducible exact wko_nil | refine wko_tab hs (by first | decide | omega | simp) rfl rfl (by first | decide | omega | simp) rfl (by first | decide | omega | simp) ?_ | refine wko_maps hs (by first | decide | omega | simp) rfl rfl key_plain ?_ | refine wko_plain hs (by first | decide | omega | simp) rfl (by first | rfl) (by (first | with_reducible assumption | with_reducible apply cells_plain | with_reducible apply ends_plain | with_reducible apply cnt_plain | with_reducible apply memI_plain _ _ | with_reducible apply vw_plain | with_reducible apply rw_plain | with_reducible apply plain_flat vw_plain' | with_reducible apply nat_plain | with_reducible apply a_plain | with_reducible apply plain_flat nat1_plain | with_reducible apply plain_flat int1_plain | with_reducible apply plain_map (fun _ => plain_int) | with_reducible apply plain_map (fun _ => plain_bool) | ((repeat' (first | exact plain_all0 | refine plain_all2 ?_ ?_ | exact plain_int | first | assumption | exact plain_int | exact plain_bool | exact plain_undef | exact plain_nils | exact plain_nilp | exact plain_nilf | exact plain_str | with_reducible apply plain_int | with_reducible apply plain_bool | with_reducible apply plain_vwC | with_reducible apply plain_vwE | with_reducible apply plain_vs | with_reducible apply plain_vsA | with_reducible apply plain_is | with_reducible apply plain_rsA | with_reducible apply plain_ns | with_reducible apply plain_t2 | with_reducible apply plain_t3 | with_reducible apply plain_tn | with_reducible apply plain_rwE)); done) | ((refine plain_app ?_ ?_) <;> (first | with_reducible assumption | with_reducible apply cells_plain | with_reducible apply ends_plain | with_reducible apply cnt_plain | with_reducible apply memI_plain _ _ | with_reducible apply vw_plain | with_reducible apply rw_plain | with_reducible apply plain_flat vw_plain' | with_reducible apply nat_plain | with_reducible apply a_plain | with_reducible apply plain_flat nat1_plain | with_reducible apply plain_flat int1_plain | with_reducible apply plain_map (fun _ => plain_int) | with_reducible apply plain_map (fun _ => plain_bool) | ((repeat' (first | exact plain_all0 | refine plain_all2 ?_ ?_ | exact plain_int | first | assumption | exact plain_int | exact plain_bool | exact plain_undef | exact plain_nils | exact plain_nilp | exact plain_nilf | exact plain_str | with_reducible apply plain_int | with_reducible apply plain_bool | with_reducible apply plain_vwC | with_reducible apply plain_vwE | with_reducible apply plain_vs | with_reducible apply plain_vsA | with_reducible apply plain_is | with_reducible apply plain_rsA | with_reducible apply plain_ns | with_reducible apply plain_t2 | with_reducible apply plain_t3 | with_reducible apply plain_tn | with_reducible apply plain_rwE)); done))))) ?_ | refine wko_cells (by first | decide | omega | simp) rfl (by repeat' (first | with_reducible exact wkl_nil | with_reducible refine wkl_cons ?_ ?_ | (first | exact wk_undef | exact wk_int (by first | rfl | omega | (dsimp only; omega)) | exact wk_bool rfl | exact wk_ptr rfl (by first | decide | simp | omega) | exact wk_map rfl (by first | decide | simp | omega) | exact wk_sl rfl (by first | decide | simp | omega) (by first | rfl | omega | simp) (by first | omega | simp) (by first | omega | simp) | exact wk_bool (by simp) | exact wk_own rfl (by first | decide | simp | omega) | exact wk_nil0 (by first | rfl | simp) | exact wk_slown rfl (by first | decide | omega | (simp; done)) (by first | omega | (simp; done)) (by first | rfl | omega | (simp; done) | (simp; omega)) | exact wk_plain hs (by (first | assumption | exact plain_int | exact plain_bool | exact plain_undef | exact plain_nils | exact plain_nilp | exact plain_nilf | exact plain_str | with_reducible apply plain_int | with_reducible apply plain_bool | with_reducible apply plain_vwC | with_reducible apply plain_vwE | with_reducible apply plain_vs | with_reducible apply plain_vsA | with_reducible apply plain_is | with_reducible apply plain_rsA | with_reducible apply plain_ns | with_reducible apply plain_t2 | with_reducible apply plain_t3 | with_reducible apply plain_tn | with_reducible apply plain_rwE)) | (with_reducible refine wk_fn ?_ ?_ <;> repeat' (first | with_reducible exact wkl_nil | with_reducible refine wkl_cons ?_ ?_ | exact wk_ptr rfl (by first | decide | simp | omega))) | (with_reducible refine wk_agg ?_; repeat' (first | with_reducible exact wkl_nil | with_reducible refine wkl_cons ?_ ?_ | exact wk_int (by first | rfl | omega | (dsimp only; omega)) | exact wk_bool rfl)) | exact wk_yld rfl (by first | decide | simp | omega) | (with_reducible refine wk_tup ?_; repeat' (first | with_reducible exact wkl_nil | with_reducible refine wkl_cons ?_ ?_ | exact wk_int (by first | rfl | omega | (dsimp only; omega)) | exact wk_bool rfl | exact wk_ptr rfl (by first | decide | simp | omega)))))) ?_ | refine wko_loop (by first | decide | omega | simp) rfl (by ((try subst hF); (try subst hF2); exact wkl_sd (wkf_sget (by (repeat' ((try (conv => whnf)); first | with_reducible exact True.intro | with_reducible refine And.intro ?_ ?_ | (with_reducible refine WkX.mk ?_; first | exact wk_undef | exact wk_int (by first | rfl | omega | (dsimp only; omega)) | exact wk_bool rfl | exact wk_ptr rfl (by first | decide | simp | omega) | exact wk_map rfl (by first | decide | simp | omega) | exact wk_sl rfl (by first | decide | simp | omega) (by first | rfl | omega | simp) (by first | omega | simp) (by first | omega | simp) | exact wk_bool (by simp) | exact wk_own rfl (by first | decide | simp | omega) | exact wk_nil0 (by first | rfl | simp) | exact wk_slown rfl (by first | decide | omega | (simp; done)) (by first | omega | (simp; done)) (by first | rfl | omega | (simp; done) | (simp; omega)) | exact wk_plain hs (by (first | assumption | exact plain_int | exact plain_bool | exact plain_undef | exact plain_nils | exact plain_nilp | exact plain_nilf | exact plain_str | with_reducible apply plain_int | with_reducible apply plain_bool | with_reducible apply plain_vwC | with_reducible apply plain_vwE | with_reducible apply plain_vs | with_reducible apply plain_vsA | with_reducible apply plain_is | with_reducible apply plain_rsA | with_reducible apply plain_ns | with_reducible apply plain_t2 | with_reducible apply plain_t3 | with_reducible apply plain_tn | with_reducible apply plain_rwE)) | (with_reducible refine wk_fn ?_ ?_ <;> repeat' (first | with_reducible exact wkl_nil | with_reducible refine wkl_cons ?_ ?_ | exact wk_ptr rfl (by first | decide | simp | omega))) | (with_reducible refine wk_agg ?_; repeat' (first | with_reducible exact wkl_nil | with_reducible refine wkl_cons ?_ ?_ | exact wk_int (by first | rfl | omega | (dsimp only; omega)) | exact wk_bool rfl)) | exact wk_yld rfl (by first | decide | simp | omega) | (with_reducible refine wk_tup ?_; repeat' (first | with_reducible exact wkl_nil | with_reducible refine wkl_cons ?_ ?_ | exact wk_int (by first | rfl | omega | (dsimp only; omega)) | exact wk_bool rfl | exact wk_ptr rfl (by first | decide | simp | omega)))))))))) ?_ | exact wko_nil))))) : p := h
theorem wx_Eh {p q : Prop} (hq : q) (h : HidP q → p := by (intro hQz; ((repeat' ((try (conv => whnf)); first | (with_reducible first | refine run_cons ?_ | refine runq_cons ?_ | refine code_seq ?_ | refine code_reg ?_ | refine code_cond ?_ | refine run_nil ?_ | refine runq_nil ?_ | refine rund_op rfl ?_ | refine rund_nil ?_ | refine code_block ?_ | refine code_skip ?_ | refine code_exit ?_ | refine code_ret ?_ | refine code_range ?_ | refine rund_fast (by decide +kernel) ?_ | refine rund_slow (by decide +kernel) ?_ | refine br_tt ?_ | refine br_ff ?_ | refine br_n ?_ | refine br_and ?_ | refine br_or ?_ | refine br_t (by assumption) ?_ | refine br_f (by assumption) ?_ | refine eq_i64 (by omega) ?_ | refine el_tn ?_) | ((with_reducible refine br_dt ?_ ?_); focus omega) | ((with_reducible refine br_df ?_ ?_); focus omega) | ((with_reducible apply br_dq hQz) <;> (try intro hsp hQz)) | ((with_reducible refine ck_x ?_ ?_); focus (first | omega | rfl | assumption | decide | (simp only [List.length_map, List.length_cons, List.length_nil]; omega))) | (with_reducible first | refine eq_tn ?_ | refine eq_tn1 ?_ | refine eq_tn2 ?_ | refine eq_m1 ?_ | refine eq_m2 ?_ | refine eq_zm ?_ | refine eq_z ?_ | refine len_map ?_ | refine len_sl ?_ | refine len_nils ?_ | refine len_own' ?_ | refine len_isl ?_ | refine eq_u8 (by omega) ?_ | refine eq_u16 (by omega) ?_) | (with_reducible first | refine eq_rfl ?_ | refine ChkX.mk (by kernel_rfl) ?_ | refine code_q rfl ?_ | refine code_d (by decide +kernel) ?_ | refine end_go rfl ?_) | refine cx_pureS (by assumption) ?_ | refine cx_pool hen rfl rfl rfl (by decide) (by first | (simp [plain_int, plain_bool]; done) | fail) plain_t2 rfl ?_ | refine len_map ?_ | refine len_isl ?_ | refine el_of rfl rfl ?_ | refine del_own ?_ | refine del_own' rfl ?_ | refine as_go rfl ?_ | refine rd_go rfl ?_ | refine rg_end rfl ?_ | refine flat_ownX ?_ | refine EqLX.mk ?_ | ((with_reducible apply br_bq hQz) <;> (try intro hsp hQz)) | exact hQz.out)) <;> (try (conv => whnf))))) : p := h ⟨hq⟩
theorem wx_Ehn {p q : Prop} (hq : q) (h : HidP q → p := by (intro hQz; ((repeat' ((try (conv => whnf)); first | (with_reducible first | refine run_cons ?_ | refine runq_cons ?_ | refine code_seq ?_ | refine code_reg ?_ | refine code_cond ?_ | refine run_nil ?_ | refine runq_nil ?_ | refine rund_op rfl ?_ | refine rund_nil ?_ | refine code_block ?_ | refine code_skip ?_ | refine code_exit ?_ | refine code_ret ?_ | refine code_range ?_ | refine rund_fast (by decide +kernel) ?_ | refine rund_slow (by decide +kernel) ?_ | refine br_tt ?_ | refine br_ff ?_ | refine br_n ?_ | refine br_and ?_ | refine br_or ?_ | refine br_t (by assumption) ?_ | refine br_f (by assumption) ?_ | refine eq_i64 (by omega) ?_ | refine el_tn ?_) | ((with_reducible refine br_dt ?_ ?_); focus omega) | ((with_reducible refine br_df ?_ ?_); focus omega) | ((with_reducible apply br_dq hQz) <;> (try intro hsp hQz)) | ((with_reducible refine ck_x ?_ ?_); focus (first | omega | rfl | assumption | decide | (simp only [List.length_map, List.length_cons, List.length_nil]; omega))) | (with_reducible first | refine eq_tn ?_ | refine eq_tn1 ?_ | refine eq_tn2 ?_ | refine eq_m1 ?_ | refine eq_m2 ?_ | refine eq_zm ?_ | refine eq_z ?_ | refine len_map ?_ | refine len_sl ?_ | refine len_nils ?_ | refine len_own' ?_ | refine len_isl ?_ | refine eq_u8 (by omega) ?_ | refine eq_u16 (by omega) ?_) | refine eq_of (by with_reducible assumption) ?_ | refine el_vw (by first | assumption | omega) (by with_reducible assumption) ?_ | refine nthK_of (gc2 hx) ?_ | refine dropK_of (by rw [cells_len]; omega) rfl (takeK_of (by rw [List.length_drop, cells_len]; omega) hcell ?_) | (with_reducible first | refine eq_rfl ?_ | refine ChkX.mk (by kernel_rfl) ?_ | refine code_d (by decide +kernel) ?_ | refine end_go rfl ?_) | (refine cx_in hmix b28 rfl ?_; unfold c28) | refine cx_Rd (by assumption) ?_ | refine cx_pureS (by assumption) ?_ | refine cx_tab (by assumption) rfl rfl rfl rfl rfl (by decide) rfl ?_ | refine dcx_pureS (by assumption) ?_ | refine dcx_tab (by assumption) rfl rfl rfl rfl rfl rfl rfl ?_ | (refine cx_in hmix b37 rfl ?_; unfold c37) | (refine cx_in hmix b52 rfl ?_; unfold c52) | (refine cx_in hmix b72 rfl ?_; unfold c72) | refine cx_yldE hmix rfl hF2 hA2 hB2 rfl ?_ | refine cx_yldE hmix rfl hF hA hB rfl ?_ | refine cx_tab d2 rfl rfl rfl rfl rfl (by decide) rfl ?_ | refine cx_tab d4 rfl rfl rfl rfl rfl (by decide) rfl ?_ | refine cx_tab d5 rfl rfl rfl rfl rfl (by decide) rfl ?_ | refine dcx_tab d4 rfl rfl rfl rfl rfl rfl rfl ?_ | refine dcx_tab d5 rfl rfl rfl rfl rfl rfl rfl ?_ | refine len_map ?_ | refine len_isl ?_ | refine el_of rfl rfl ?_ | refine del_own ?_ | refine del_own' rfl ?_ | refine as_go rfl ?_ | refine rd_go rfl ?_ | refine rg_end rfl ?_ | refine flat_ownX ?_ | refine EqLX.mk ?_ | ((with_reducible apply br_bq hQz) <;> (try intro hsp hQz)) | exact hQz.out)) <;> (try (conv => whnf))))) : p := h ⟨hq⟩
section
variable {L : List Vw} {R : List Rw} {v : Rw}
theorem plain_rwC : Plain (.agg (rwC v)) := plain_agg rw_plain
theorem undo_no {i e : Int} (x : Nat) (h : ChkR R i e) (hn : e ≠ 0 ∨ 60 < R.length) : PureS 7 [.agg [.isl (R.map rwC)], .agg (rwC v), .int .u8 (x : Nat)] (.bool true) := by
  refine PureS.mk (pure_x hmix b7 plainG ⟨plain_rsA, plain_rwC, plain_int, trivial⟩ plain_bool rfl ?_)
  unfold c7
  have hr := l_ready_no h hn
  have ha := k_awake
  unfold rwC
  (refine wx_Eh ?_; repeat' (first | with_reducible refine And.intro ?_ ?_ | intro hsp))
  all_goals exact end_bool rfl
/-- The views of an arena are taken one by one. -/
theorem undo_step {t : TS} {a k : Nat} {Q0 : List Nat} {U0 : Nat → Vw} {x : TS} (hL : Go.Pol.srt L) (hU : Q0.map U0 = ofA a L) (hk : k < (ofA a L).length) (h1 : TOk (lessV L (ofA a L) k) x) (h2 : x.Q a = Q0.drop k) (h3 : x.U = U0) :
    ∃ y, (TOk (lessV L (ofA a L) (k + 1)) y ∧ y.Q a = Q0.drop (k + 1) ∧ y.U = U0) ∧ ∃ m : Nat, LocT 27 [.int .i64 ((nth dV (ofA a L) k).1 : Nat), .int .i64 ((nth dV (ofA a L) k).2.1 : Nat)] x (.tup [.int .i64 ((nth dV (ofA a L) k).2.2.1 : Nat), .int .i64 (m : Nat), .int .i64 0]) y := by
  have hQl : Q0.length = (ofA a L).length := by rw [← hU, List.length_map]
  have hkq : k < Q0.length := by omega
  have hdr : Q0.drop k = nth 0 Q0 k :: Q0.drop (k + 1) := by rw [nth_get hkq, List.drop_eq_getElem_cons hkq]
  have hua : (nth dV (ofA a L) k).1 = a := (mem_ofA.1 (nth_mem hk)).2
  have hxU : x.U (nth 0 Q0 k) = nth dV (ofA a L) k := by
    rw [h3, nth_get hkq, nth_get hk]
    have : (Q0.map U0)[k]'(by rw [List.length_map]; exact hkq) = (ofA a L)[k] := by simp only [hU]
    rw [List.getElem_map] at this; exact this
  have hxm : nth 0 Q0 k ∈ x.Q (nth dV (ofA a L) k).1 := by rw [hua, h2, hdr]; exact List.mem_cons_self ..
  obtain ⟨y, A, B, X, Y, e1, e2, e3, e4, e5, e6⟩ := t_Unmap h1 hxm hxU
  refine ⟨y, ⟨?_, ?_, by rw [e5, h3]⟩, _, e6⟩
  · rw [less_s hL hk e1]; exact e2
  · rw [e4, hua, updQ_at]
    rw [hua, h2, hdr] at e3
    cases X with
    | nil => exact (List.cons.inj e3).2.symm
    | cons z X =>
      have hnd := h1.pool.inv.st.nd a
      rw [h2, hdr, e3] at hnd
      have h4 := (List.cons.inj e3).1
      subst h4
      exact absurd (List.mem_append_right X (List.mem_cons_self ..)) (List.nodup_cons.1 hnd).1
theorem undo_chain {t : TS} (h : TOk L t) (a : Nat) : ∃ T : Nat → TS, T 0 = t ∧ (∀ k, k ≤ (ofA a L).length → TOk (lessV L (ofA a L) k) (T k) ∧ (T k).Q a = (t.Q a).drop k ∧ (T k).U = t.U) ∧ ∀ k, k < (ofA a L).length → ∃ m : Nat, LocT 27 [.int .i64 ((nth dV (ofA a L) k).1 : Nat), .int .i64 ((nth dV (ofA a L) k).2.1 : Nat)] (T k) (.tup [.int .i64 ((nth dV (ofA a L) k).2.2.1 : Nat), .int .i64 (m : Nat), .int .i64 0]) (T (k + 1)) :=
  chain (n := (ofA a L).length) (P := fun k (x : TS) => TOk (lessV L (ofA a L) k) x ∧ x.Q a = (t.Q a).drop k ∧ x.U = t.U)
    (S := fun k (x y : TS) => ∃ m : Nat, LocT 27 [.int .i64 ((nth dV (ofA a L) k).1 : Nat), .int .i64 ((nth dV (ofA a L) k).2.1 : Nat)] x (.tup [.int .i64 ((nth dV (ofA a L) k).2.2.1 : Nat), .int .i64 (m : Nat), .int .i64 0]) y)
    t ⟨by rw [less_0]; exact h, by rw [List.drop_zero], rfl⟩ (fun k x hk hx => undo_step (t := t) h.srt (h.lst a) hk hx.1 hx.2.1 hx.2.2)
set_option maxHeartbeats 1600000 in
set_option maxRecDepth 20000 in
theorem undo_bad (x : Nat) (hx2 : x < 256) (hs : srt L) (hl : L.length ≤ 60) (ho : ∀ v ∈ L, v.1 < 64 ∧ v.2.1 < 1024 ∧ v.2.2.1 < 1024) (hv : ¬ okW v) : PureS 7 [.agg [.isl (L.map vwC)], .agg (rwC v), .int .u8 (x : Nat)] (.bool true) := by
  obtain ⟨t, s, ht, hsy, hr⟩ := l_ready_any hs hl ho
  refine PureS.mk (pure_x hmix b7 plainG ⟨plain_vsA, plain_rwC, plain_int, trivial⟩ plain_bool rfl ?_)
  unfold c7
  have ha := k_awake
  have q1 := m64 (t := x)
  have ha4 : x % 64 < 64 := Nat.mod_lt _ (by omega)
  generalize x % 64 = a at *
  have q3 := q_of (L := L) (a : Int) (by omega)
  rw [ofI_nat] at q3
  have hsave := t_Save ht
  have hsame := q_same (L := L) (by omega)
  have hen := p_end ht.pool.inv ht.pool.n_pos (show a < t.m by rw [ht.hm]; exact ha4) true
  rw [if_pos rfl, orErr_hd] at hen
  obtain ⟨T, hT0, hT, hst⟩ := undo_chain ht a
  have hlq := ht.lenQ a
  have d1 := t_Map_no (t := t) v.1 v.2.1 v.2.2.1 v.2.2.2 hv
  unfold rwC
  have hn60 : (ofA a L).length ≤ 60 := Nat.le_trans (List.length_filter_le ..) hl
  generalize hn1 : (ofA a L).length = n1 at *
  (refine wx_Ehn ?_; repeat' (first | with_reducible refine And.intro ?_ ?_ | intro hsp))
  all_goals try (exfalso; simp at hsp; done)
  refine range_x hmix b51 rfl trivial ?_
  intro frl asl bdl hF hA hB
  unfold c51
  (refine wx_Ehn ?_; repeat' (first | with_reducible refine And.intro ?_ ?_ | intro hsp))
  refine range_x hmix b71 rfl trivial ?_
  intro frl2 asl2 bdl2 hF2 hA2 hB2
  unfold c71
  (refine wx_Eh ?_; repeat' (first | with_reducible refine And.intro ?_ ?_ | intro hsp))
  rw [← hlq]
  clear hen
  (refine loop_x [0, 1, 2, 3] (fun (k : Nat) => [(5, .int .i64 (if n1 = 0 then 0 else hd ((t.Q a).drop k))), (6, .int .i64 (if n1 = 0 then 4 else 0))]) (fun (k : Nat) => ⟨tabN (T k) 3 4 5 6 7 ++ [(0, .cells [.isl (L.map vwC)]), (2, .cells [.bool false]), (8, .cells s.a), (9, .cells [.ptr 3 0]), (16, .cells [.isl ((ofA a L).map vwC)]), (17, .cells [.int .i64 (k : Nat)]), (18, .cells [.ptr 3 0]), (19, .cells [.int .i64 (a : Nat)]), (20, .loop .ready none frl [84] asl bdl), (21, .cells [.yld 20]), (27, .cells [.ptr 4 0]), (28, .cells [.int .i64 (a : Nat)]), (29, .cells [.bool false]), (30, .loop .ready none frl2 [15, 16] asl2 bdl2)], 31⟩) (fun (k : Nat) => k ≤ n1) (fun (k : Nat) => n1 - k) (0) [] rfl (fun _ => by first | exact Nat.zero_le _ | (dsimp only; omega)) ?_ (by ((try (conv => whnf)); (rw [hT0]); exact wkx_Eh)) ?_)
  · exact Nat.zero_le _
  intro k hk
  by_cases hkl : k < n1
  · obtain ⟨f1, f2, f3⟩ := hT k hk
    obtain ⟨m, d2⟩ := hst k hkl
    have hkq : 0 < ((T k).Q a).length := by rw [f2, List.length_drop]; omega
    obtain ⟨hx, hd0, hnx, hnv, hm, hcell⟩ := f1.at_ hkq
    have e0 : nth 0 ((T k).Q a) 0 = nth 0 (t.Q a) k := by rw [f2]; unfold nth; rw [List.getElem?_drop, Nat.add_zero]
    have hkO : k < (ofA a L).length := by omega
    have hxU : (T k).U (nth 0 (t.Q a) k) = nth dV (ofA a L) k := by
      have h9 := (ht.at_ (show k < (t.Q a).length by omega)).2.2.2.1
      rw [f3, h9]
    rw [e0] at hx hd0 hnx hcell
    rw [hxU] at hcell
    rw [f2, List.drop_zero] at hd0
    rw [f2, List.drop_drop, show k + (0 + 1) = k + 1 by omega] at hnx
    have hok := ho _ (mem_ofA.1 (nth_mem (d := dV) hkO)).1
    rw [if_neg (show ¬ n1 = 0 by omega), if_neg (show ¬ n1 = 0 by omega), hd0]
    have hnx0 : ¬ n1 = 0 := by omega
    have hn2 : (T k).n = 2000 := f1.hn
    clear hnv hm f1 f2 f3 hd0 hkq e0 hxU
    generalize hu : nth dV (ofA a L) k = u at *
    generalize nth 0 (t.Q a) k = y at *
    obtain ⟨ua, uk, uf, uw⟩ := u
    unfold vwC at hcell
    dsimp only at d2 hok hcell
    (refine wx_Ehn ?_; repeat' (first | with_reducible refine And.intro ?_ ?_ | intro hsp))
    all_goals first | (exfalso; simp at hsp; done) | exact next_x (k + 1) [] (by (try dsimp only); omega) (by first | omega | (dsimp only; omega)) rfl (by ((try dsimp only); rw [if_neg hnx0]); exact wkx_Eh)
  · obtain rfl : k = n1 := by omega
    have hd1 : hd ((t.Q a).drop k) = -1 := by rw [List.drop_of_length_le (by omega)]; rfl
    rw [hd1]
    obtain ⟨f1, _, _⟩ := hT k (Nat.le_refl _)
    rw [← hn1, less_all, hn1] at f1
    have d4 := t_walked f1 ha4
    rw [show ofA a (noA a L) = [] by unfold ofA noA; rw [List.filter_filter, List.filter_eq_nil_iff]; intro v _; simp] at d4
    have d5 := t_Save f1
    have hle := noA_len L a
    by_cases hz : k = 0
    · rw [if_pos hz, if_pos hz]
      (refine wx_Ehn ?_; repeat' (first | with_reducible refine And.intro ?_ ?_ | intro hsp))
      all_goals first | exact end_bool rfl | exact absurd rfl hsp | (exfalso; simp at hsp; done)
    · rw [if_neg hz, if_neg hz]
      (refine wx_Ehn ?_; repeat' (first | with_reducible refine And.intro ?_ ?_ | intro hsp))
      all_goals first | exact end_bool rfl | exact absurd rfl hsp | (exfalso; simp at hsp; done)
set_option maxHeartbeats 1600000 in
set_option maxRecDepth 20000 in
theorem undo_twice (x : Nat) (hx2 : x < 256) (hs : srt L) (hl : L.length ≤ 60) (ho : ∀ v ∈ L, v.1 < 64 ∧ v.2.1 < 1024 ∧ v.2.2.1 < 1024) {w : Vw} (hw : w.1 < 64 ∧ w.2.1 < 1024 ∧ w.2.2.1 < 1024) {u : Vw} (hu : u ∈ L) (hat : atV (w.1, w.2.1) u) : PureS 7 [.agg [.isl (L.map vwC)], .agg [.int .i64 (w.1 : Nat), .int .i64 (w.2.1 : Nat), .int .i64 (w.2.2.1 : Nat), .bool w.2.2.2], .int .u8 (x : Nat)] (.bool true) := by
  obtain ⟨t, s, ht, hsy, hr⟩ := l_ready_any hs hl ho
  refine PureS.mk (pure_x hmix b7 plainG ⟨plain_vsA, plain_vwE, plain_int, trivial⟩ plain_bool rfl ?_)
  unfold c7
  have ha := k_awake
  have q1 := m64 (t := x)
  have ha4 : x % 64 < 64 := Nat.mod_lt _ (by omega)
  generalize x % 64 = a at *
  have q3 := q_of (L := L) (a : Int) (by omega)
  rw [ofI_nat] at q3
  have hsave := t_Save ht
  have hsame := q_same (L := L) (by omega)
  have hen := p_end ht.pool.inv ht.pool.n_pos (show a < t.m by rw [ht.hm]; exact ha4) true
  rw [if_pos rfl, orErr_hd] at hen
  obtain ⟨T, hT0, hT, hst⟩ := undo_chain ht a
  have hlq := ht.lenQ a
  have d1 := t_Map_twice ht (v := w) hw hu hat
  unfold vwC at d1
  have hn60 : (ofA a L).length ≤ 60 := Nat.le_trans (List.length_filter_le ..) hl
  generalize hn1 : (ofA a L).length = n1 at *
  (refine wx_Ehn ?_; repeat' (first | with_reducible refine And.intro ?_ ?_ | intro hsp))
  all_goals try (exfalso; simp at hsp; done)
  refine range_x hmix b51 rfl trivial ?_
  intro frl asl bdl hF hA hB
  unfold c51
  (refine wx_Ehn ?_; repeat' (first | with_reducible refine And.intro ?_ ?_ | intro hsp))
  refine range_x hmix b71 rfl trivial ?_
  intro frl2 asl2 bdl2 hF2 hA2 hB2
  unfold c71
  (refine wx_Eh ?_; repeat' (first | with_reducible refine And.intro ?_ ?_ | intro hsp))
  rw [← hlq]
  clear hen
  (refine loop_x [0, 1, 2, 3] (fun (k : Nat) => [(5, .int .i64 (if n1 = 0 then 0 else hd ((t.Q a).drop k))), (6, .int .i64 (if n1 = 0 then 4 else 0))]) (fun (k : Nat) => ⟨tabN (T k) 3 4 5 6 7 ++ [(0, .cells [.isl (L.map vwC)]), (2, .cells [.bool false]), (8, .cells s.a), (9, .cells [.ptr 3 0]), (16, .cells [.isl ((ofA a L).map vwC)]), (17, .cells [.int .i64 (k : Nat)]), (18, .cells [.ptr 3 0]), (19, .cells [.int .i64 (a : Nat)]), (20, .loop .ready none frl [84] asl bdl), (21, .cells [.yld 20]), (27, .cells [.ptr 4 0]), (28, .cells [.int .i64 (a : Nat)]), (29, .cells [.bool false]), (30, .loop .ready none frl2 [15, 16] asl2 bdl2)], 31⟩) (fun (k : Nat) => k ≤ n1) (fun (k : Nat) => n1 - k) (0) [] rfl (fun _ => by first | exact Nat.zero_le _ | (dsimp only; omega)) ?_ (by ((try (conv => whnf)); (rw [hT0]); exact wkx_Eh)) ?_)
  · exact Nat.zero_le _
  intro k hk
  by_cases hkl : k < n1
  · obtain ⟨f1, f2, f3⟩ := hT k hk
    obtain ⟨m, d2⟩ := hst k hkl
    have hkq : 0 < ((T k).Q a).length := by rw [f2, List.length_drop]; omega
    obtain ⟨hx, hd0, hnx, hnv, hm, hcell⟩ := f1.at_ hkq
    have e0 : nth 0 ((T k).Q a) 0 = nth 0 (t.Q a) k := by rw [f2]; unfold nth; rw [List.getElem?_drop, Nat.add_zero]
    have hkO : k < (ofA a L).length := by omega
    have hxU : (T k).U (nth 0 (t.Q a) k) = nth dV (ofA a L) k := by
      have h9 := (ht.at_ (show k < (t.Q a).length by omega)).2.2.2.1
      rw [f3, h9]
    rw [e0] at hx hd0 hnx hcell
    rw [hxU] at hcell
    rw [f2, List.drop_zero] at hd0
    rw [f2, List.drop_drop, show k + (0 + 1) = k + 1 by omega] at hnx
    have hok := ho _ (mem_ofA.1 (nth_mem (d := dV) hkO)).1
    rw [if_neg (show ¬ n1 = 0 by omega), if_neg (show ¬ n1 = 0 by omega), hd0]
    have hnx0 : ¬ n1 = 0 := by omega
    have hn2 : (T k).n = 2000 := f1.hn
    clear hnv hm f1 f2 f3 hd0 hkq e0 hxU
    generalize hu : nth dV (ofA a L) k = u at *
    generalize nth 0 (t.Q a) k = y at *
    obtain ⟨ua, uk, uf, uw⟩ := u
    unfold vwC at hcell
    dsimp only at d2 hok hcell
    (refine wx_Ehn ?_; repeat' (first | with_reducible refine And.intro ?_ ?_ | intro hsp))
    all_goals first | (exfalso; simp at hsp; done) | exact next_x (k + 1) [] (by (try dsimp only); omega) (by first | omega | (dsimp only; omega)) rfl (by ((try dsimp only); rw [if_neg hnx0]); exact wkx_Eh)
  · obtain rfl : k = n1 := by omega
    have hd1 : hd ((t.Q a).drop k) = -1 := by rw [List.drop_of_length_le (by omega)]; rfl
    rw [hd1]
    obtain ⟨f1, _, _⟩ := hT k (Nat.le_refl _)
    rw [← hn1, less_all, hn1] at f1
    have d4 := t_walked f1 ha4
    rw [show ofA a (noA a L) = [] by unfold ofA noA; rw [List.filter_filter, List.filter_eq_nil_iff]; intro v _; simp] at d4
    have d5 := t_Save f1
    have hle := noA_len L a
    by_cases hz : k = 0
    · rw [if_pos hz, if_pos hz]
      (refine wx_Ehn ?_; repeat' (first | with_reducible refine And.intro ?_ ?_ | intro hsp))
      all_goals first | exact end_bool rfl | exact absurd rfl hsp | (exfalso; simp at hsp; done)
    · rw [if_neg hz, if_neg hz]
      (refine wx_Ehn ?_; repeat' (first | with_reducible refine And.intro ?_ ?_ | intro hsp))
      all_goals first | exact end_bool rfl | exact absurd rfl hsp | (exfalso; simp at hsp; done)
set_option maxHeartbeats 1600000 in
set_option maxRecDepth 20000 in
theorem undo_new (x : Nat) (hx2 : x < 256) (hs : srt L) (hl : L.length ≤ 60) (ho : ∀ v ∈ L, v.1 < 64 ∧ v.2.1 < 1024 ∧ v.2.2.1 < 1024) {w : Vw} (hw : w.1 < 64 ∧ w.2.1 < 1024 ∧ w.2.2.1 < 1024) (hnew : ∀ u ∈ L, ¬ atV (w.1, w.2.1) u) : PureS 7 [.agg [.isl (L.map vwC)], .agg [.int .i64 (w.1 : Nat), .int .i64 (w.2.1 : Nat), .int .i64 (w.2.2.1 : Nat), .bool w.2.2.2], .int .u8 (x : Nat)] (.bool true) := by
  obtain ⟨t0, s, ht0, hsy, hr⟩ := l_ready_any hs hl ho
  obtain ⟨t1, ht1, d1⟩ := t_Map ht0 (v := w) hw hnew (by omega)
  have d2 := t_Count (t := t1) hw.2.2
  rw [ht1.cnt, cnt_ins, if_pos rfl] at d2
  obtain ⟨sl, hsl, hul⟩ := ht1.slot (mem_ins.2 (.inl rfl))
  obtain ⟨t, A, B, X, Y, hAB, ht, _, _, _, d3⟩ := t_Unmap ht1 hsl hul
  have hLL : A ++ B = L := by
    obtain ⟨X2, Y2, e1, e2, e3, e4⟩ := insV_split w L
    have h1 := ht1.srt
    have h2 := h1
    rw [hAB] at h1
    rw [e2] at h2
    have h3 := cut_mid h1
    rw [← hAB, e2, cut_mid h2, ← e1] at h3
    exact h3.symm
  rw [hLL] at ht d3
  have hcl := cnt_leL L w.2.2.1
  refine PureS.mk (pure_x hmix b7 plainG ⟨plain_vsA, plain_vwE, plain_int, trivial⟩ plain_bool rfl ?_)
  unfold c7
  have ha := k_awake
  have q1 := m64 (t := x)
  have ha4 : x % 64 < 64 := Nat.mod_lt _ (by omega)
  generalize x % 64 = a at *
  have q3 := q_of (L := L) (a : Int) (by omega)
  rw [ofI_nat] at q3
  have hsave := t_Save ht
  have hsame := q_same (L := L) (by omega)
  have hen := p_end ht.pool.inv ht.pool.n_pos (show a < t.m by rw [ht.hm]; exact ha4) true
  rw [if_pos rfl, orErr_hd] at hen
  obtain ⟨T, hT0, hT, hst⟩ := undo_chain ht a
  have hlq := ht.lenQ a
  unfold vwC at d1
  generalize cntF L w.2.2.1 = cn at *
  have hn60 : (ofA a L).length ≤ 60 := Nat.le_trans (List.length_filter_le ..) hl
  generalize hn1 : (ofA a L).length = n1 at *
  (refine wx_Ehn ?_; repeat' (first | with_reducible refine And.intro ?_ ?_ | intro hsp))
  all_goals try (exfalso; simp at hsp; done)
  refine range_x hmix b51 rfl trivial ?_
  intro frl asl bdl hF hA hB
  unfold c51
  (refine wx_Ehn ?_; repeat' (first | with_reducible refine And.intro ?_ ?_ | intro hsp))
  refine range_x hmix b71 rfl trivial ?_
  intro frl2 asl2 bdl2 hF2 hA2 hB2
  unfold c71
  (refine wx_Eh ?_; repeat' (first | with_reducible refine And.intro ?_ ?_ | intro hsp))
  rw [← hlq]
  clear hen
  (refine loop_x [0, 1, 2, 3] (fun (k : Nat) => [(5, .int .i64 (if n1 = 0 then 0 else hd ((t.Q a).drop k))), (6, .int .i64 (if n1 = 0 then 4 else 0))]) (fun (k : Nat) => ⟨tabN (T k) 3 4 5 6 7 ++ [(0, .cells [.isl (L.map vwC)]), (2, .cells [.bool false]), (8, .cells s.a), (9, .cells [.ptr 3 0]), (16, .cells [.isl ((ofA a L).map vwC)]), (17, .cells [.int .i64 (k : Nat)]), (18, .cells [.ptr 3 0]), (19, .cells [.int .i64 (a : Nat)]), (20, .loop .ready none frl [84] asl bdl), (21, .cells [.yld 20]), (27, .cells [.ptr 4 0]), (28, .cells [.int .i64 (a : Nat)]), (29, .cells [.bool false]), (30, .loop .ready none frl2 [15, 16] asl2 bdl2)], 31⟩) (fun (k : Nat) => k ≤ n1) (fun (k : Nat) => n1 - k) (0) [] rfl (fun _ => by first | exact Nat.zero_le _ | (dsimp only; omega)) ?_ (by ((try (conv => whnf)); (rw [hT0]); exact wkx_Eh)) ?_)
  · exact Nat.zero_le _
  intro k hk
  by_cases hkl : k < n1
  · obtain ⟨f1, f2, f3⟩ := hT k hk
    obtain ⟨m, d2⟩ := hst k hkl
    have hkq : 0 < ((T k).Q a).length := by rw [f2, List.length_drop]; omega
    obtain ⟨hx, hd0, hnx, hnv, hm, hcell⟩ := f1.at_ hkq
    have e0 : nth 0 ((T k).Q a) 0 = nth 0 (t.Q a) k := by rw [f2]; unfold nth; rw [List.getElem?_drop, Nat.add_zero]
    have hkO : k < (ofA a L).length := by omega
    have hxU : (T k).U (nth 0 (t.Q a) k) = nth dV (ofA a L) k := by
      have h9 := (ht.at_ (show k < (t.Q a).length by omega)).2.2.2.1
      rw [f3, h9]
    rw [e0] at hx hd0 hnx hcell
    rw [hxU] at hcell
    rw [f2, List.drop_zero] at hd0
    rw [f2, List.drop_drop, show k + (0 + 1) = k + 1 by omega] at hnx
    have hok := ho _ (mem_ofA.1 (nth_mem (d := dV) hkO)).1
    rw [if_neg (show ¬ n1 = 0 by omega), if_neg (show ¬ n1 = 0 by omega), hd0]
    have hnx0 : ¬ n1 = 0 := by omega
    have hn2 : (T k).n = 2000 := f1.hn
    clear hnv hm f1 f2 f3 hd0 hkq e0 hxU
    generalize hu : nth dV (ofA a L) k = u at *
    generalize nth 0 (t.Q a) k = y at *
    obtain ⟨ua, uk, uf, uw⟩ := u
    unfold vwC at hcell
    dsimp only at d2 hok hcell
    (refine wx_Ehn ?_; repeat' (first | with_reducible refine And.intro ?_ ?_ | intro hsp))
    all_goals first | (exfalso; simp at hsp; done) | exact next_x (k + 1) [] (by (try dsimp only); omega) (by first | omega | (dsimp only; omega)) rfl (by ((try dsimp only); rw [if_neg hnx0]); exact wkx_Eh)
  · obtain rfl : k = n1 := by omega
    have hd1 : hd ((t.Q a).drop k) = -1 := by rw [List.drop_of_length_le (by omega)]; rfl
    rw [hd1]
    obtain ⟨f1, _, _⟩ := hT k (Nat.le_refl _)
    rw [← hn1, less_all, hn1] at f1
    have d4 := t_walked f1 ha4
    rw [show ofA a (noA a L) = [] by unfold ofA noA; rw [List.filter_filter, List.filter_eq_nil_iff]; intro v _; simp] at d4
    have d5 := t_Save f1
    have hle := noA_len L a
    by_cases hz : k = 0
    · rw [if_pos hz, if_pos hz]
      (refine wx_Ehn ?_; repeat' (first | with_reducible refine And.intro ?_ ?_ | intro hsp))
      all_goals first | exact end_bool rfl | exact absurd rfl hsp | (exfalso; simp at hsp; done)
    · rw [if_neg hz, if_neg hz]
      (refine wx_Ehn ?_; repeat' (first | with_reducible refine And.intro ?_ ?_ | intro hsp))
      all_goals first | exact end_bool rfl | exact absurd rfl hsp | (exfalso; simp at hsp; done)
theorem law_undo (R : List Rw) (v : Rw) (x : Nat) (hx2 : x < 256) : PureS 7 [.agg [.isl (R.map rwC)], .agg (rwC v), .int .u8 (x : Nat)] (.bool true) := by
  obtain ⟨i, e, h⟩ := chk_ex R
  by_cases hn : e ≠ 0 ∨ 60 < R.length
  · exact undo_no x h hn
  · have he : e = 0 := Classical.byContradiction fun hc => hn (.inl hc)
    subst he
    obtain ⟨L, hR, h1, _, h3⟩ := chk_views h
    have hlen : R.length ≤ 60 := Nat.le_of_not_lt fun hc => hn (.inr hc)
    subst hR
    rw [rw_map]
    rw [List.length_map] at hlen
    by_cases hv : okW v
    · obtain ⟨w, rfl, hw⟩ : ∃ w : Vw, v = rwV w ∧ (w.1 < 64 ∧ w.2.1 < 1024 ∧ w.2.2.1 < 1024) := by
        obtain ⟨⟨h4, h5⟩, ⟨h6, h7⟩, h8, h9⟩ := hv
        refine ⟨(v.1.toNat, v.2.1.toNat, v.2.2.1.toNat, v.2.2.2), Prod.ext ?_ (Prod.ext ?_ (Prod.ext ?_ rfl)), ?_, ?_, ?_⟩
        · show v.1 = ((v.1.toNat : Nat) : Int); omega
        · show v.2.1 = ((v.2.1.toNat : Nat) : Int); omega
        · show v.2.2.1 = ((v.2.2.1.toNat : Nat) : Int); omega
        · show v.1.toNat < 64; omega
        · show v.2.1.toNat < 1024; omega
        · show v.2.2.1.toNat < 1024; omega
      by_cases hat : ∃ u ∈ L, atV (w.1, w.2.1) u
      · obtain ⟨u, hu, hat⟩ := hat
        exact undo_twice x hx2 h1 hlen h3 hw hu hat
      · exact undo_new x hx2 h1 hlen h3 hw fun u hu ha => hat ⟨u, hu, ha⟩
    · exact undo_bad x hx2 h1 hlen h3 hv
end
end Go.Proofs.Ytccbhbdbmmkcdaa.Sh
