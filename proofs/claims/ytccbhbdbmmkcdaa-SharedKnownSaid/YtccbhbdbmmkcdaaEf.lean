/-
  The law of what is known.
-/
import Derived.Test.YtccbhbdbmmkcdaaAmWt
import Derived.Test.YtccbhbdbmmkcdaaYp
import Derived.Test.YtccbhbdbmmkcdaaEd
set_option linter.unusedSimpArgs false
set_option linter.unusedVariables false
namespace Go.Proofs.Ytccbhbdbmmkcdaa.Sh
open Go Go.Am Go.Pol
theorem wkx_Ef {p : Prop} (h : p := by (refine weak_s (by exact oneOf_of rfl) (by exact subH_of rfl) (by intro hs; (repeat' ((try (conv => whnf)); first | with_reducible exact True.intro | with_reducible refine And.intro ?_ ?_ | (with_reducible refine WkX.mk ?_; first | exact wk_undef | exact wk_int (by first | rfl | omega | (dsimp only; omega)) | exact wk_bool rfl | exact wk_ptr rfl (by first | decide | simp | omega) | exact wk_map rfl (by first | decide | simp | omega) | exact wk_sl rfl (by first | decide | simp | omega) (by first | rfl | omega | simp) (by first | omega | simp) (by first | omega | simp) | exact wk_own rfl (by first | decide | simp | omega) | exact wk_nil0 (by first | rfl | simp) | exact wk_slown rfl (by first | decide | omega | (simp; done)) (by first | omega | (simp; done)) (by first | rfl | omega | (simp; done) | (simp; omega)) | exact wk_plain hs (by (first | assumption | exact plain_int | exact plain_bool | exact plain_undef | exact plain_nils | exact plain_nilp | exact plain_nilf | exact plain_str | with_reducible apply plain_int | with_reducible apply plain_bool | with_reducible apply plain_vwC | with_reducible apply plain_vwE | with_reducible apply plain_vs | with_reducible apply plain_vsA | with_reducible apply plain_ns | with_reducible apply plain_t2 | with_reducible apply plain_t3 | with_reducible apply plain_tn | with_reducible apply plain_tvE | with_reducible apply plain_tui)) | (with_reducible refine wk_fn ?_ ?_ <;> repeat' (first | with_reducible exact wkl_nil | with_reducible refine wkl_cons ?_ ?_ | exact wk_ptr rfl (by first | decide | simp | omega))) | (with_reducible refine wk_agg ?_; repeat' (first | with_reducible exact wkl_nil | with_reducible refine wkl_cons ?_ ?_ | exact wk_int (by first | rfl | omega | (dsimp only; omega)) | exact wk_bool rfl)) | exact wk_yld rfl (by first | decide | simp | omega))))) (by intro hs; (try dsimp only); (repeat' (first | with_reducible exact wko_nil | refine wko_tab hs (by first | decide | omega | simp) rfl rfl (by first | decide | omega | simp) rfl (by first | decide | omega | simp) ?_ | refine wko_maps hs (by first | decide | omega | simp) rfl rfl key_plain ?_ | refine wko_plain hs (by first | decide | omega | simp) rfl (by first | rfl) (by (first | with_reducible assumption | with_reducible apply cells_plain | with_reducible apply ends_plain | with_reducible apply cnt_plain | with_reducible apply memI_plain _ _ | with_reducible apply vw_plain | with_reducible apply plain_flat vw_plain' | with_reducible apply nat_plain | with_reducible apply a_plain | with_reducible apply plain_flat nat1_plain | with_reducible apply plain_map (fun _ => plain_int) | with_reducible apply plain_map (fun _ => plain_bool) | ((repeat' (first | exact plain_all0 | refine plain_all2 ?_ ?_ | exact plain_int | first | assumption | exact plain_int | exact plain_bool | exact plain_undef | exact plain_nils | exact plain_nilp | exact plain_nilf | exact plain_str | with_reducible apply plain_int | with_reducible apply plain_bool | with_reducible apply plain_vwC | with_reducible apply plain_vwE | with_reducible apply plain_vs | with_reducible apply plain_vsA | with_reducible apply plain_ns | with_reducible apply plain_t2 | with_reducible apply plain_t3 | with_reducible apply plain_tn | with_reducible apply plain_tvE | with_reducible apply plain_tui)); done) | ((refine plain_app ?_ ?_) <;> (first | with_reducible assumption | with_reducible apply cells_plain | with_reducible apply ends_plain | with_reducible apply cnt_plain | with_reducible apply memI_plain _ _ | with_reducible apply vw_plain | with_reducible apply plain_flat vw_plain' | with_reducible apply nat_plain | with_reducible apply a_plain | with_reducible apply plain_flat nat1_plain | with_reducible apply plain_map (fun _ => plain_int) | with_reducible apply plain_map (fun _ => plain_bool) | ((repeat' (first | exact plain_all0 | refine plain_all2 ?_ ?_ | exact plain_int | first | assumption | exact plain_int | exact plain_bool | exact plain_undef | exact plain_nils | exact plain_nilp | exact plain_nilf | exact plain_str | with_reducible apply plain_int | with_reducible apply plain_bool | with_reducible apply plain_vwC | with_reducible apply plain_vwE | with_reducible apply plain_vs | with_reducible apply plain_vsA | with_reducible apply plain_ns | with_reducible apply plain_t2 | with_reducible apply plain_t3 | with_reducible apply plain_tn | with_reducible apply plain_tvE | with_reducible apply plain_tui)); done))))) ?_ | refine wko_cells (by first | decide | omega | simp) rfl (by repeat' (first | with_reducible exact wkl_nil | with_reducible refine wkl_cons ?_ ?_ | (first | exact wk_undef | exact wk_int (by first | rfl | omega | (dsimp only; omega)) | exact wk_bool rfl | exact wk_ptr rfl (by first | decide | simp | omega) | exact wk_map rfl (by first | decide | simp | omega) | exact wk_sl rfl (by first | decide | simp | omega) (by first | rfl | omega | simp) (by first | omega | simp) (by first | omega | simp) | exact wk_own rfl (by first | decide | simp | omega) | exact wk_nil0 (by first | rfl | simp) | exact wk_slown rfl (by first | decide | omega | (simp; done)) (by first | omega | (simp; done)) (by first | rfl | omega | (simp; done) | (simp; omega)) | exact wk_plain hs (by (first | assumption | exact plain_int | exact plain_bool | exact plain_undef | exact plain_nils | exact plain_nilp | exact plain_nilf | exact plain_str | with_reducible apply plain_int | with_reducible apply plain_bool | with_reducible apply plain_vwC | with_reducible apply plain_vwE | with_reducible apply plain_vs | with_reducible apply plain_vsA | with_reducible apply plain_ns | with_reducible apply plain_t2 | with_reducible apply plain_t3 | with_reducible apply plain_tn | with_reducible apply plain_tvE | with_reducible apply plain_tui)) | (with_reducible refine wk_fn ?_ ?_ <;> repeat' (first | with_reducible exact wkl_nil | with_reducible refine wkl_cons ?_ ?_ | exact wk_ptr rfl (by first | decide | simp | omega))) | (with_reducible refine wk_agg ?_; repeat' (first | with_reducible exact wkl_nil | with_reducible refine wkl_cons ?_ ?_ | exact wk_int (by first | rfl | omega | (dsimp only; omega)) | exact wk_bool rfl)) | exact wk_yld rfl (by first | decide | simp | omega)))) ?_ | refine wko_loop (by first | decide | omega | simp) rfl (by ((try subst hF); (try subst hF2); exact wkl_sd (wkf_sget (by (repeat' ((try (conv => whnf)); first | with_reducible exact True.intro | with_reducible refine And.intro ?_ ?_ | (with_reducible refine WkX.mk ?_; first | exact wk_undef | exact wk_int (by first | rfl | omega | (dsimp only; omega)) | exact wk_bool rfl | exact wk_ptr rfl (by first | decide | simp | omega) | exact wk_map rfl (by first | decide | simp | omega) | exact wk_sl rfl (by first | decide | simp | omega) (by first | rfl | omega | simp) (by first | omega | simp) (by first | omega | simp) | exact wk_own rfl (by first | decide | simp | omega) | exact wk_nil0 (by first | rfl | simp) | exact wk_slown rfl (by first | decide | omega | (simp; done)) (by first | omega | (simp; done)) (by first | rfl | omega | (simp; done) | (simp; omega)) | exact wk_plain hs (by (first | assumption | exact plain_int | exact plain_bool | exact plain_undef | exact plain_nils | exact plain_nilp | exact plain_nilf | exact plain_str | with_reducible apply plain_int | with_reducible apply plain_bool | with_reducible apply plain_vwC | with_reducible apply plain_vwE | with_reducible apply plain_vs | with_reducible apply plain_vsA | with_reducible apply plain_ns | with_reducible apply plain_t2 | with_reducible apply plain_t3 | with_reducible apply plain_tn | with_reducible apply plain_tvE | with_reducible apply plain_tui)) | (with_reducible refine wk_fn ?_ ?_ <;> repeat' (first | with_reducible exact wkl_nil | with_reducible refine wkl_cons ?_ ?_ | exact wk_ptr rfl (by first | decide | simp | omega))) | (with_reducible refine wk_agg ?_; repeat' (first | with_reducible exact wkl_nil | with_reducible refine wkl_cons ?_ ?_ | exact wk_int (by first | rfl | omega | (dsimp only; omega)) | exact wk_bool rfl)) | exact wk_yld rfl (by first | decide | simp | omega)))))))) ?_ | exact wko_nil))))) : p := h
theorem wx_Efn {p q : Prop} (hq : q) (h : HidP q → p := by (intro hQz; ((repeat' ((try (conv => whnf)); first | (with_reducible first | refine run_cons ?_ | refine runq_cons ?_ | refine code_seq ?_ | refine code_reg ?_ | refine code_cond ?_ | refine run_nil ?_ | refine runq_nil ?_ | refine rund_op rfl ?_ | refine rund_nil ?_ | refine code_block ?_ | refine code_skip ?_ | refine code_exit ?_ | refine code_ret ?_ | refine code_range ?_ | refine rund_fast (by decide +kernel) ?_ | refine rund_slow (by decide +kernel) ?_ | refine br_tt ?_ | refine br_ff ?_ | refine br_n ?_ | refine br_and ?_ | refine br_or ?_ | refine br_t (by assumption) ?_ | refine br_f (by assumption) ?_ | refine eq_i64 (by omega) ?_ | refine el_tn ?_) | ((with_reducible refine br_dt ?_ ?_); focus omega) | ((with_reducible refine br_df ?_ ?_); focus omega) | ((with_reducible apply br_dq hQz) <;> (try intro hsp hQz)) | ((with_reducible refine ck_x ?_ ?_); focus (first | omega | rfl | assumption | decide | (simp only [List.length_map, List.length_cons, List.length_nil]; omega))) | (with_reducible first | refine eq_tn ?_ | refine eq_tn1 ?_ | refine eq_tn2 ?_ | refine eq_m1 ?_ | refine eq_m2 ?_ | refine eq_zm ?_ | refine eq_z ?_ | refine len_map ?_ | refine len_sl ?_ | refine len_nils ?_ | refine len_own' ?_ | refine len_isl ?_ | refine eq_u8 (by omega) ?_ | refine eq_u16 (by omega) ?_) | refine el_mapE (d := 0) (x := 3) nat1_len (by decide) rfl ?_ | (with_reducible first | refine eq_rfl ?_ | refine ChkX.mk (by kernel_rfl) ?_ | refine code_d (by decide +kernel) ?_ | refine end_go rfl ?_) | refine cx_pureS (by assumption) ?_ | refine dcx_pureS (by assumption) ?_ | refine len_map ?_ | refine len_isl ?_ | refine el_of rfl rfl ?_ | refine del_own ?_ | refine del_own' rfl ?_ | refine as_go rfl ?_ | refine rd_go rfl ?_ | refine rg_end rfl ?_ | refine flat_ownX ?_ | refine EqLX.mk ?_ | ((with_reducible apply br_bq hQz) <;> (try intro hsp hQz)) | exact hQz.out)) <;> (try (conv => whnf))))) : p := h ⟨hq⟩
theorem wx_Ef {p q : Prop} (hq : q) (h : HidP q → p := by (intro hQz; ((repeat' ((try (conv => whnf)); first | (with_reducible first | refine run_cons ?_ | refine runq_cons ?_ | refine code_seq ?_ | refine code_reg ?_ | refine code_cond ?_ | refine run_nil ?_ | refine runq_nil ?_ | refine rund_op rfl ?_ | refine rund_nil ?_ | refine code_block ?_ | refine code_skip ?_ | refine code_exit ?_ | refine code_ret ?_ | refine code_range ?_ | refine rund_fast (by decide +kernel) ?_ | refine rund_slow (by decide +kernel) ?_ | refine br_tt ?_ | refine br_ff ?_ | refine br_n ?_ | refine br_and ?_ | refine br_or ?_ | refine br_t (by assumption) ?_ | refine br_f (by assumption) ?_ | refine eq_i64 (by omega) ?_ | refine el_tn ?_) | ((with_reducible refine br_dt ?_ ?_); focus omega) | ((with_reducible refine br_df ?_ ?_); focus omega) | ((with_reducible apply br_dq hQz) <;> (try intro hsp hQz)) | ((with_reducible refine ck_x ?_ ?_); focus (first | omega | rfl | assumption | decide | (simp only [List.length_map, List.length_cons, List.length_nil]; omega))) | (with_reducible first | refine eq_tn ?_ | refine eq_tn1 ?_ | refine eq_tn2 ?_ | refine eq_m1 ?_ | refine eq_m2 ?_ | refine eq_zm ?_ | refine eq_z ?_ | refine len_map ?_ | refine len_sl ?_ | refine len_nils ?_ | refine len_own' ?_ | refine len_isl ?_ | refine eq_u8 (by omega) ?_ | refine eq_u16 (by omega) ?_) | (with_reducible first | refine eq_rfl ?_ | refine ChkX.mk (by kernel_rfl) ?_ | refine code_q rfl ?_ | refine code_d (by decide +kernel) ?_ | refine end_go rfl ?_) | (refine cx_in hmix b21 rfl ?_; unfold c21) | (refine cx_in hmix b32 rfl ?_; unfold c32) | (refine cx_in hmix b35 rfl ?_; unfold c35) | refine cx_SN (by assumption) rfl (by decide) ?_ | refine cx_NT (by assumption) ?_ | refine cx_tab (by assumption) rfl rfl rfl rfl rfl (by decide) rfl ?_ | refine cx_locS (by assumption) rfl (by decide) ?_ | refine cx_pureS (by assumption) ?_ | refine len_map ?_ | refine len_isl ?_ | refine el_of rfl rfl ?_ | refine del_own ?_ | refine del_own' rfl ?_ | refine as_go rfl ?_ | refine rd_go rfl ?_ | refine rg_end rfl ?_ | refine flat_ownX ?_ | refine EqLX.mk ?_ | ((with_reducible apply br_bq hQz) <;> (try intro hsp hQz)) | exact hQz.out)) <;> (try (conv => whnf))))) : p := h ⟨hq⟩
theorem frk_ext {L O M N : List Vw} {b k : Nat} (hM : Frk L O b k M) (h1 : Go.Pol.srt M) (h2 : Go.Pol.srt N) (h : ∀ v, v ∈ N ↔ (v ∈ L ∧ v ∉ O.take k) ∨ ∃ u, u ∈ O.take k ∧ (v = roV u ∨ v = cpV b u)) : M = N := srt_ext h1 h2 fun v => by rw [hM.mem, h]
set_option maxHeartbeats 1600000 in
set_option maxRecDepth 20000 in
theorem law_known : PureS 8 [] (.bool true) := by
  have ha := k_awake
  obtain ⟨s0, ⟨hs0, hz0⟩, hsys⟩ := l_system0 [3, 4] (by decide) (by decide)
  have hsys' : LocSN 29 [.int .i64 3, .int .i64 4] 2 s0.a := hsys
  have hnew := n_New
  have h0 := tok_0
  generalize T0 = t0 at hnew h0
  obtain ⟨t1, h1, d1⟩ := t_Map h0 (v := (1, 0, 3, true)) (by decide) (fun u hu => by cases hu) (by decide)
  have h1' : TOk [(1, 0, 3, true)] t1 := h1
  obtain ⟨t2, h2, d2⟩ := t_Map h1' (v := (2, 5, 3, false)) (by decide) (fun u hu => by obtain rfl := List.mem_singleton.1 hu; decide) (by decide)
  have h2' : TOk [(1, 0, 3, true), (2, 5, 3, false)] t2 := h2
  have d1' : LocT 26 [.agg [.int .i64 1, .int .i64 0, .int .i64 3, .bool true]] t0 (.int .i64 0) t1 := d1
  have d2' : LocT 26 [.agg [.int .i64 2, .int .i64 5, .int .i64 3, .bool false]] t1 (.int .i64 0) t2 := d2
  have w1 : LocT 44 [.int .i64 1, .int .i64 10, .bool true] t2 (.tup [.int .i64 202, .int .i64 0]) t2 := t_where h2' (v := (1, 0, 3, true)) (by simp) (at_ := 10) (by decide) rfl (fun _ => rfl)
  obtain ⟨s1, e1, g1, b1⟩ := sy_write hs0 (p := 3) (j := 10) (by decide) (by simp) (by decide) (b := 7) (by decide)
  have p1 := p_write (s := s0) (a := ((3 * 64 + 10 : Nat) : Int)) (b := 7)
  rw [e1] at p1
  have p1' : LocS 36 [.int .i64 202, .int .u8 7] s0.a (.int .i64 0) s1.a := p1
  obtain ⟨t3, M, h3, hM, d3⟩ := t_Fork h2' (a := 1) (b := 6) (by decide) (by decide) (by decide) rfl (by decide)
  have eM : M = [(1, 0, 3, false), (2, 5, 3, false), (6, 0, 3, false)] := by
    refine frk_ext hM h3.srt (by decide) fun v => ?_
    rw [show (ofA 1 [(1, 0, 3, true), (2, 5, 3, false)] : List Vw).take (ofA 1 [(1, 0, 3, true), (2, 5, 3, false)]).length = [(1, 0, 3, true)] from rfl]
    simp only [List.mem_cons, List.not_mem_nil, or_false]
    constructor
    · rintro (rfl | rfl | rfl)
      · exact .inr ⟨_, rfl, .inl rfl⟩
      · exact .inl ⟨.inr rfl, by decide⟩
      · exact .inr ⟨_, rfl, .inr rfl⟩
    · rintro (⟨h4 | h4, h5⟩ | ⟨u, rfl, h4 | h4⟩)
      · exact absurd h4 h5
      · exact .inr (.inl h4)
      · exact .inl h4
      · exact .inr (.inr h4)
  subst eM
  have d3' : LocT 31 [.int .i64 1, .int .i64 6] t2 (.tup [.int .i64 1, .int .i64 0]) t3 := d3
  have w2 : LocT 44 [.int .i64 1, .int .i64 10, .bool true] t3 (.tup [.int .i64 0, .int .i64 220]) t3 := t_where_ro h3 (v := (1, 0, 3, false)) (by simp) (at_ := 10) (by decide) rfl rfl
  have d4 : LocT 22 [.int .i64 1, .int .i64 0, .int .i64 3] t3 (.int .i64 8) t3 := t_Split_twice h3 (v := (1, 0, 3, false)) (by simp) (f := 3) (by decide) (by decide)
  obtain ⟨sl, hsl, hul⟩ := h3.slot (v := (1, 0, 3, false)) (by simp)
  obtain ⟨t4, A, B, hAB, h4, d5⟩ := t_Split h3 hsl hul (f := 4) (by decide) (by decide)
  have hsr := h3.srt
  rw [hAB] at hsr
  have e4 := chg_mid (f := frV 4) hsr
  rw [← hAB] at e4
  rw [← e4] at h4
  have h4' : TOk [(1, 0, 4, true), (2, 5, 3, false), (6, 0, 3, false)] t4 := h4
  have d5' : LocT 22 [.int .i64 1, .int .i64 0, .int .i64 4] t3 (.int .i64 0) t4 := d5
  have w3 : LocT 44 [.int .i64 1, .int .i64 10, .bool false] t4 (.tup [.int .i64 266, .int .i64 0]) t4 := t_where h4' (v := (1, 0, 4, true)) (by simp) (at_ := 10) (by decide) rfl (fun h => by cases h)
  have r1 := sy_read g1 (p := 4) (j := 10) (by decide) (by simp) (by decide)
  rw [b1, if_neg (by decide), hz0] at r1
  have p2 := p_read (s := s1) (a := ((4 * 64 + 10 : Nat) : Int))
  rw [r1] at p2
  have p2' : LocS 57 [.int .i64 266] s1.a (.tup [.int .u8 0, .int .i64 0]) s1.a := p2
  obtain ⟨sl2, hsl2, hul2⟩ := h4'.slot (v := (2, 5, 3, false)) (by simp)
  obtain ⟨t5, A2, B2, X2, Y2, hAB2, h5, _, _, _, d6⟩ := t_Unmap h4' hsl2 hul2
  have hsr2 := h4'.srt
  rw [hAB2] at hsr2
  have e5 := cut_mid hsr2
  rw [← hAB2] at e5
  rw [← e5] at h5 d6
  have h5' : TOk [(1, 0, 4, true), (6, 0, 3, false)] t5 := h5
  have d6' : LocT 27 [.int .i64 2, .int .i64 5] t4 (.tup [.int .i64 3, .int .i64 1, .int .i64 0]) t5 := d6
  obtain ⟨t6, h6, d7⟩ := t_Drop h5' (a := 6) (by decide)
  have e6 : goneL [(1, 0, 4, true), (6, 0, 3, false)] 6 = [3] := by decide +kernel
  rw [e6] at d7
  have h6' : TOk [(1, 0, 4, true)] t6 := h6
  have d7' : LocT 33 [.int .i64 6] t5 (.tup [.isl (([3] : List Nat).map nat1), .int .i64 0]) t6 := d7
  have w4 : LocT 44 [.int .i64 1, .int .i64 64, .bool false] t6 (.tup [.int .i64 0, .int .i64 220]) t6 := t_where_none h6' (a := 1) (at_ := 64) (by decide) (by decide) (by decide) false
  have d8 : LocT 34 [.int .i64 1, .int .i64 1] t6 (.tup [.agg [.int .i64 0, .int .i64 0, .int .i64 0, .bool false], .int .i64 4]) t6 := t_Find_none h6' (a := 1) (k := 1) (by decide) (by decide) (by decide)
  clear hsys d1 d2 p1 d3 d5 p2 d6 d7
  refine PureS.mk (pure_x hmix b8 plainG trivial plain_bool rfl ?_)
  unfold c8
  (refine wx_Ef ?_; repeat' (first | with_reducible refine And.intro ?_ ?_ | intro hsp))
  · (refine loop_x [0, 1] (fun (i : Nat) => [(5, .int .i64 (i : Nat))]) (fun (i : Nat) => ⟨[(8, .cells [.int .i64 3])], 9⟩) (fun (i : Nat) => i ≤ 1) (fun (i : Nat) => 1 - i) (0) [] rfl (fun _ => by first | exact Nat.zero_le _ | (dsimp only; omega)) ?_ (by ((try (conv => whnf)); exact wkx_Ef)) ?_)
    · exact Nat.zero_le _
    intro i hi
    by_cases hi1 : i < 1
    · obtain rfl : i = 0 := by omega
      (refine wx_Efn ?_; repeat' (first | with_reducible refine And.intro ?_ ?_ | intro hsp))
      all_goals exact next_x 1 [] (by (try dsimp only); omega) (by first | omega | (dsimp only; omega)) rfl (by exact wkx_Ef)
    · obtain rfl : i = 1 := by omega
      (refine wx_Efn ?_; repeat' (first | with_reducible refine And.intro ?_ ?_ | intro hsp))
      all_goals exact end_bool rfl
  · exact absurd rfl hsp
end Go.Proofs.Ytccbhbdbmmkcdaa.Sh
