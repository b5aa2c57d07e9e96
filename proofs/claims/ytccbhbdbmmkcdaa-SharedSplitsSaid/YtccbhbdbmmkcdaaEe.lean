/-
  The law of splits.
-/
import Derived.Test.YtccbhbdbmmkcdaaAmWt
import Derived.Test.YtccbhbdbmmkcdaaEd
set_option linter.unusedSimpArgs false
set_option linter.unusedVariables false
namespace Go.Proofs.Ytccbhbdbmmkcdaa.Sh
open Go Go.Am Go.Pol
theorem wkx_Ee {p : Prop} (h : p := by (refine weak_s (by exact oneOf_of rfl) (by exact subH_of rfl) (by intro hs; (repeat' ((try (conv => whnf)); first | with_reducible exact True.intro | with_reducible refine And.intro ?_ ?_ | (with_reducible refine WkX.mk ?_; first | exact wk_undef | exact wk_int (by first | rfl | omega | (dsimp only; omega)) | exact wk_bool rfl | exact wk_ptr rfl (by first | decide | simp | omega) | exact wk_map rfl (by first | decide | simp | omega) | exact wk_sl rfl (by first | decide | simp | omega) (by first | rfl | omega | simp) (by first | omega | simp) (by first | omega | simp) | exact wk_own rfl (by first | decide | simp | omega) | exact wk_nil0 (by first | rfl | simp) | exact wk_slown rfl (by first | decide | omega | (simp; done)) (by first | omega | (simp; done)) (by first | rfl | omega | (simp; done) | (simp; omega)) | exact wk_plain hs (by (first | assumption | exact plain_int | exact plain_bool | exact plain_undef | exact plain_nils | exact plain_nilp | exact plain_nilf | exact plain_str | with_reducible apply plain_int | with_reducible apply plain_bool | with_reducible apply plain_vwC | with_reducible apply plain_vwE | with_reducible apply plain_vs | with_reducible apply plain_vsA | with_reducible apply plain_is | with_reducible apply plain_rsA | with_reducible apply plain_2u)) | (with_reducible refine wk_fn ?_ ?_ <;> repeat' (first | with_reducible exact wkl_nil | with_reducible refine wkl_cons ?_ ?_ | exact wk_ptr rfl (by first | decide | simp | omega))) | (with_reducible refine wk_agg ?_; repeat' (first | with_reducible exact wkl_nil | with_reducible refine wkl_cons ?_ ?_ | exact wk_int (by first | rfl | omega | (dsimp only; omega)) | exact wk_bool rfl)) | exact wk_yld rfl (by first | decide | simp | omega))))) (by intro hs; (try dsimp only); (repeat' (first | with_reducible exact wko_nil | refine wko_tab hs (by first | decide | omega | simp) rfl rfl (by first | decide | omega | simp) rfl (by first | decide | omega | simp) ?_ | refine wko_maps hs (by first | decide | omega | simp) rfl rfl key_plain ?_ | refine wko_plain hs (by first | decide | omega | simp) rfl (by first | rfl) (by (first | with_reducible assumption | with_reducible apply cells_plain | with_reducible apply ends_plain | with_reducible apply cnt_plain | with_reducible apply memI_plain _ _ | with_reducible apply vw_plain | with_reducible apply plain_flat vw_plain' | with_reducible apply nat_plain | with_reducible apply a_plain | with_reducible apply plain_flat nat1_plain | with_reducible apply plain_flat int1_plain | with_reducible apply plain_map (fun _ => plain_int) | with_reducible apply plain_map (fun _ => plain_bool) | ((repeat' (first | exact plain_all0 | refine plain_all2 ?_ ?_ | exact plain_int | first | assumption | exact plain_int | exact plain_bool | exact plain_undef | exact plain_nils | exact plain_nilp | exact plain_nilf | exact plain_str | with_reducible apply plain_int | with_reducible apply plain_bool | with_reducible apply plain_vwC | with_reducible apply plain_vwE | with_reducible apply plain_vs | with_reducible apply plain_vsA | with_reducible apply plain_is | with_reducible apply plain_rsA | with_reducible apply plain_2u)); done) | ((refine plain_app ?_ ?_) <;> (first | with_reducible assumption | with_reducible apply cells_plain | with_reducible apply ends_plain | with_reducible apply cnt_plain | with_reducible apply memI_plain _ _ | with_reducible apply vw_plain | with_reducible apply plain_flat vw_plain' | with_reducible apply nat_plain | with_reducible apply a_plain | with_reducible apply plain_flat nat1_plain | with_reducible apply plain_flat int1_plain | with_reducible apply plain_map (fun _ => plain_int) | with_reducible apply plain_map (fun _ => plain_bool) | ((repeat' (first | exact plain_all0 | refine plain_all2 ?_ ?_ | exact plain_int | first | assumption | exact plain_int | exact plain_bool | exact plain_undef | exact plain_nils | exact plain_nilp | exact plain_nilf | exact plain_str | with_reducible apply plain_int | with_reducible apply plain_bool | with_reducible apply plain_vwC | with_reducible apply plain_vwE | with_reducible apply plain_vs | with_reducible apply plain_vsA | with_reducible apply plain_is | with_reducible apply plain_rsA | with_reducible apply plain_2u)); done))))) ?_ | refine wko_cells (by first | decide | omega | simp) rfl (by repeat' (first | with_reducible exact wkl_nil | with_reducible refine wkl_cons ?_ ?_ | (first | exact wk_undef | exact wk_int (by first | rfl | omega | (dsimp only; omega)) | exact wk_bool rfl | exact wk_ptr rfl (by first | decide | simp | omega) | exact wk_map rfl (by first | decide | simp | omega) | exact wk_sl rfl (by first | decide | simp | omega) (by first | rfl | omega | simp) (by first | omega | simp) (by first | omega | simp) | exact wk_own rfl (by first | decide | simp | omega) | exact wk_nil0 (by first | rfl | simp) | exact wk_slown rfl (by first | decide | omega | (simp; done)) (by first | omega | (simp; done)) (by first | rfl | omega | (simp; done) | (simp; omega)) | exact wk_plain hs (by (first | assumption | exact plain_int | exact plain_bool | exact plain_undef | exact plain_nils | exact plain_nilp | exact plain_nilf | exact plain_str | with_reducible apply plain_int | with_reducible apply plain_bool | with_reducible apply plain_vwC | with_reducible apply plain_vwE | with_reducible apply plain_vs | with_reducible apply plain_vsA | with_reducible apply plain_is | with_reducible apply plain_rsA | with_reducible apply plain_2u)) | (with_reducible refine wk_fn ?_ ?_ <;> repeat' (first | with_reducible exact wkl_nil | with_reducible refine wkl_cons ?_ ?_ | exact wk_ptr rfl (by first | decide | simp | omega))) | (with_reducible refine wk_agg ?_; repeat' (first | with_reducible exact wkl_nil | with_reducible refine wkl_cons ?_ ?_ | exact wk_int (by first | rfl | omega | (dsimp only; omega)) | exact wk_bool rfl)) | exact wk_yld rfl (by first | decide | simp | omega)))) ?_ | refine wko_loop (by first | decide | omega | simp) rfl (by ((try subst hF); (try subst hF2); exact wkl_sd (wkf_sget (by (repeat' ((try (conv => whnf)); first | with_reducible exact True.intro | with_reducible refine And.intro ?_ ?_ | (with_reducible refine WkX.mk ?_; first | exact wk_undef | exact wk_int (by first | rfl | omega | (dsimp only; omega)) | exact wk_bool rfl | exact wk_ptr rfl (by first | decide | simp | omega) | exact wk_map rfl (by first | decide | simp | omega) | exact wk_sl rfl (by first | decide | simp | omega) (by first | rfl | omega | simp) (by first | omega | simp) (by first | omega | simp) | exact wk_own rfl (by first | decide | simp | omega) | exact wk_nil0 (by first | rfl | simp) | exact wk_slown rfl (by first | decide | omega | (simp; done)) (by first | omega | (simp; done)) (by first | rfl | omega | (simp; done) | (simp; omega)) | exact wk_plain hs (by (first | assumption | exact plain_int | exact plain_bool | exact plain_undef | exact plain_nils | exact plain_nilp | exact plain_nilf | exact plain_str | with_reducible apply plain_int | with_reducible apply plain_bool | with_reducible apply plain_vwC | with_reducible apply plain_vwE | with_reducible apply plain_vs | with_reducible apply plain_vsA | with_reducible apply plain_is | with_reducible apply plain_rsA | with_reducible apply plain_2u)) | (with_reducible refine wk_fn ?_ ?_ <;> repeat' (first | with_reducible exact wkl_nil | with_reducible refine wkl_cons ?_ ?_ | exact wk_ptr rfl (by first | decide | simp | omega))) | (with_reducible refine wk_agg ?_; repeat' (first | with_reducible exact wkl_nil | with_reducible refine wkl_cons ?_ ?_ | exact wk_int (by first | rfl | omega | (dsimp only; omega)) | exact wk_bool rfl)) | exact wk_yld rfl (by first | decide | simp | omega)))))))) ?_ | exact wko_nil))))) : p := h
theorem wx_Ee {p q : Prop} (hq : q) (h : HidP q → p := by (intro hQz; ((repeat' ((try (conv => whnf)); first | (with_reducible first | refine run_cons ?_ | refine runq_cons ?_ | refine code_seq ?_ | refine code_reg ?_ | refine code_cond ?_ | refine run_nil ?_ | refine runq_nil ?_ | refine rund_op rfl ?_ | refine rund_nil ?_ | refine code_block ?_ | refine code_skip ?_ | refine code_exit ?_ | refine code_ret ?_ | refine code_range ?_ | refine rund_fast (by decide +kernel) ?_ | refine rund_slow (by decide +kernel) ?_ | refine br_tt ?_ | refine br_ff ?_ | refine br_n ?_ | refine br_and ?_ | refine br_or ?_ | refine br_t (by assumption) ?_ | refine br_f (by assumption) ?_ | refine eq_i64 (by omega) ?_ | refine el_tn ?_) | ((with_reducible refine br_dt ?_ ?_); focus omega) | ((with_reducible refine br_df ?_ ?_); focus omega) | ((with_reducible apply br_dq hQz) <;> (try intro hsp hQz)) | ((with_reducible refine ck_x ?_ ?_); focus (first | omega | rfl | assumption | decide | (simp only [List.length_map, List.length_cons, List.length_nil]; omega))) | (with_reducible first | refine eq_tn ?_ | refine eq_tn1 ?_ | refine eq_tn2 ?_ | refine eq_m1 ?_ | refine eq_m2 ?_ | refine eq_zm ?_ | refine eq_z ?_ | refine len_map ?_ | refine len_sl ?_ | refine len_nils ?_ | refine len_own' ?_ | refine len_isl ?_ | refine eq_u8 (by omega) ?_ | refine eq_u16 (by omega) ?_) | (with_reducible first | refine eq_rfl ?_ | refine ChkX.mk (by kernel_rfl) ?_ | refine code_q rfl ?_ | refine code_d (by decide +kernel) ?_ | refine end_go rfl ?_) | refine cx_pureS (by assumption) ?_ | refine cx_Rd (by assumption) ?_ | refine len_map ?_ | refine len_isl ?_ | refine el_of rfl rfl ?_ | refine del_own ?_ | refine del_own' rfl ?_ | refine as_go rfl ?_ | refine rd_go rfl ?_ | refine rg_end rfl ?_ | refine flat_ownX ?_ | refine EqLX.mk ?_ | ((with_reducible apply br_bq hQz) <;> (try intro hsp hQz)) | exact hQz.out)) <;> (try (conv => whnf))))) : p := h ⟨hq⟩
theorem wx_Een {p q : Prop} (hq : q) (h : HidP q → p := by (intro hQz; ((repeat' ((try (conv => whnf)); first | (with_reducible first | refine run_cons ?_ | refine runq_cons ?_ | refine code_seq ?_ | refine code_reg ?_ | refine code_cond ?_ | refine run_nil ?_ | refine runq_nil ?_ | refine rund_op rfl ?_ | refine rund_nil ?_ | refine code_block ?_ | refine code_skip ?_ | refine code_exit ?_ | refine code_ret ?_ | refine code_range ?_ | refine rund_fast (by decide +kernel) ?_ | refine rund_slow (by decide +kernel) ?_ | refine br_tt ?_ | refine br_ff ?_ | refine br_n ?_ | refine br_and ?_ | refine br_or ?_ | refine br_t (by assumption) ?_ | refine br_f (by assumption) ?_ | refine eq_i64 (by omega) ?_ | refine el_tn ?_) | ((with_reducible refine br_dt ?_ ?_); focus omega) | ((with_reducible refine br_df ?_ ?_); focus omega) | ((with_reducible apply br_dq hQz) <;> (try intro hsp hQz)) | ((with_reducible refine ck_x ?_ ?_); focus (first | omega | rfl | assumption | decide | (simp only [List.length_map, List.length_cons, List.length_nil]; omega))) | (with_reducible first | refine eq_tn ?_ | refine eq_tn1 ?_ | refine eq_tn2 ?_ | refine eq_m1 ?_ | refine eq_m2 ?_ | refine eq_zm ?_ | refine eq_z ?_ | refine len_map ?_ | refine len_sl ?_ | refine len_nils ?_ | refine len_own' ?_ | refine len_isl ?_ | refine eq_u8 (by omega) ?_ | refine eq_u16 (by omega) ?_) | refine eq_of (by with_reducible assumption) ?_ | refine el_vw (by first | assumption | omega) (by with_reducible assumption) ?_ | refine el_2 (by omega) (by with_reducible assumption) ?_ | refine el_3 (by omega) (by with_reducible assumption) ?_ | (with_reducible first | refine eq_rfl ?_ | refine ChkX.mk (by kernel_rfl) ?_ | refine code_d (by decide +kernel) ?_ | refine end_go rfl ?_) | (refine cx_in hmix b21 rfl ?_; unfold c21) | refine cx_Rd (by assumption) ?_ | refine cx_pureS (by assumption) ?_ | refine cx_tx (by assumption) rfl rfl rfl rfl rfl rfl (by decide) rfl ?_ | refine cx_tab (by assumption) rfl rfl rfl rfl rfl (by decide) rfl ?_ | refine cx_locS (by assumption) rfl (by decide) ?_ | refine dcx_pureS (by assumption) ?_ | refine dcx_tab (by assumption) rfl rfl rfl rfl rfl rfl rfl ?_ | refine dcx_tx (by assumption) rfl rfl rfl rfl rfl rfl rfl rfl ?_ | refine len_map ?_ | refine len_isl ?_ | refine el_of rfl rfl ?_ | refine del_own ?_ | refine del_own' rfl ?_ | refine as_go rfl ?_ | refine rd_go rfl ?_ | refine rg_end rfl ?_ | refine flat_ownX ?_ | refine EqLX.mk ?_ | ((with_reducible apply br_bq hQz) <;> (try intro hsp hQz)) | exact hQz.out)) <;> (try (conv => whnf))))) : p := h ⟨hq⟩
section
variable {L : List Vw} {R : List Rw}
theorem splits_no {i e : Int} (a b : Nat) (fr : Int) (h : ChkR R i e) (hn : e ≠ 0 ∨ 60 < R.length) : PureS 6 [.agg [.isl (R.map rwC)], .agg [.int .u8 (a : Nat), .int .u8 (b : Nat)], .int .i64 fr] (.bool true) := by
  refine PureS.mk (pure_x hmix b6 plainG ⟨plain_rsA, plain_2u, plain_int, trivial⟩ plain_bool rfl ?_)
  unfold c6
  have hr := l_ready_no h hn
  have ha := k_awake
  (refine wx_Ee ?_; repeat' (first | with_reducible refine And.intro ?_ ?_ | intro hsp))
  all_goals exact end_bool rfl
theorem splits_nil (a b : Nat) (fr : Int) (h0 : L.length = 0) : PureS 6 [.agg [.isl (L.map vwC)], .agg [.int .u8 (a : Nat), .int .u8 (b : Nat)], .int .i64 fr] (.bool true) := by
  refine PureS.mk (pure_x hmix b6 plainG ⟨plain_vsA, plain_2u, plain_int, trivial⟩ plain_bool rfl ?_)
  unfold c6
  obtain ⟨t, s, _, _, hr⟩ := l_ready_nil h0
  have ha := k_awake
  (refine wx_Ee ?_; repeat' (first | with_reducible refine And.intro ?_ ?_ | intro hsp))
  all_goals exact end_bool rfl
set_option maxHeartbeats 1600000 in
set_option maxRecDepth 20000 in
theorem splits_bad (a b : Nat) (fr : Int) (ha2 : a < 256) (hb2 : b < 256) (hs : srt L) (hl : L.length ≤ 60) (ho : ∀ v ∈ L, v.1 < 64 ∧ v.2.1 < 1024 ∧ v.2.2.1 < 1024) (h0 : L.length ≠ 0) (hfr : ¬ inR 1024 fr ∨ ∃ f : Nat, fr = (f : Int) ∧ f < 1024 ∧ 0 < cntF L f) : PureS 6 [.agg [.isl (L.map vwC)], .agg [.int .u8 (a : Nat), .int .u8 (b : Nat)], .int .i64 fr] (.bool true) := by
  obtain ⟨t, s, ht, hsy, hr⟩ := l_ready hs hl ho h0
  refine PureS.mk (pure_x hmix b6 plainG ⟨plain_vsA, plain_2u, plain_int, trivial⟩ plain_bool rfl ?_)
  unfold c6
  have ha := k_awake
  have q1 := tmodN (a := a) (n := L.length)
  have hi0 : a % L.length < L.length := Nat.mod_lt _ (by omega)
  have hv := nth_mem (d := dV) hi0
  have hM : ∀ v ∈ L, v ∈ L ∧ v.2.2.1 ∈ frs L := fun v hv => ⟨hv, frs_mem hv⟩
  generalize a % L.length = i0 at *
  generalize hx : nth dV L i0 = v at hv
  have hok := ho v hv
  have c1 := x_all ht hsy hM hl (k := 7) (by omega)
  have hsave := t_Save ht
  have hsame := q_same (L := L) (by omega)
  rcases hfr with hfr | ⟨f, rfl, hf, hc⟩
  · have k1 := t_Count_no (t := t) fr hfr
    have k2 := t_Split_no (t := t) (v.1 : Nat) (v.2.1 : Nat) fr fun h => hfr h.2.2
    obtain ⟨va, vk, vf, vw⟩ := v
    dsimp only at k2
    (refine wx_Een ?_; repeat' (first | with_reducible refine And.intro ?_ ?_ | intro hsp))
    all_goals first | exact end_bool rfl | (exfalso; simp at hsp; done)
  · have k1 := t_Count (t := t) hf
    rw [ht.cnt] at k1
    have k2 := t_Split_twice ht hv hf hc
    obtain ⟨va, vk, vf, vw⟩ := v
    dsimp only at k2
    generalize cntF L f = n at *
    (refine wx_Een ?_; repeat' (first | with_reducible refine And.intro ?_ ?_ | intro hsp))
    all_goals first | exact end_bool rfl | (exfalso; simp at hsp; done)
set_option maxHeartbeats 1600000 in
set_option maxRecDepth 20000 in
theorem splits_ok (a b f : Nat) (ha2 : a < 256) (hb2 : b < 256) (hs : srt L) (hl : L.length ≤ 60) (ho : ∀ v ∈ L, v.1 < 64 ∧ v.2.1 < 1024 ∧ v.2.2.1 < 1024) (h0 : L.length ≠ 0) (hf : f < 1024) (hc : cntF L f = 0) : PureS 6 [.agg [.isl (L.map vwC)], .agg [.int .u8 (a : Nat), .int .u8 (b : Nat)], .int .i64 (f : Nat)] (.bool true) := by
  obtain ⟨t, s, ht, hsy, hr⟩ := l_ready hs hl ho h0
  refine PureS.mk (pure_x hmix b6 plainG ⟨plain_vsA, plain_2u, plain_int, trivial⟩ plain_bool rfl ?_)
  unfold c6
  have ha := k_awake
  have q1 := tmodN (a := a) (n := L.length)
  have hi0 : a % L.length < L.length := Nat.mod_lt _ (by omega)
  have hv := nth_mem (d := dV) hi0
  have hM : ∀ v ∈ L, v ∈ L ∧ v.2.2.1 ∈ frs L := fun v hv => ⟨hv, frs_mem hv⟩
  generalize a % L.length = i0 at *
  generalize hx : nth dV L i0 = v at hv
  have hok := ho v hv
  have c1 := x_all ht hsy hM hl (k := 7) (by omega)
  have hl1 := allL_len s 7 L
  have k1 := t_Count (t := t) hf
  rw [ht.cnt, hc] at k1
  have hnf : f ∉ frs L := fun hm => by
    obtain ⟨u, hu, rfl⟩ := List.mem_map.1 hm
    unfold cntF at hc
    rw [List.length_eq_zero_iff, List.filter_eq_nil_iff] at hc
    exact hc u hu (by simp)
  have hnu : ∀ u ∈ L, u.2.2.1 ≠ f := fun u hu e => hnf (e ▸ frs_mem hu)
  obtain ⟨s1, s2, e1, g1, e2, hs2, hB, hBf⟩ := open_new hsy hf hnf
  have r1 := p_reserve (a := (f : Nat)) (n := 1) hsy.good
  have r2 := p_commit (a := (f : Nat)) (n := 1) g1
  rw [e1] at r1
  rw [e2] at r2
  obtain ⟨sl, hsl, hul⟩ := ht.slot hv
  obtain ⟨t', A, B, hL, ht', k2⟩ := t_Split ht hsl hul hf hc
  have hv' : frV f v ∈ A ++ frV f v :: B := by simp
  have hfm : f ∈ frs L ++ [f] := by simp
  obtain ⟨s3, e3, hs3, b3⟩ := sy_write hs2 (p := f) (j := 7) hf hfm (by omega) (b := ((b : Nat) : Int)) (by omega)
  have w1 := t_where ht' hv' (at_ := v.2.1 * 64 + 7) (by omega) (by unfold frV; dsimp only; omega) (w := true) (fun _ => rfl)
  have p1 := p_write (s := s2) (a := ((f * 64 + 7 : Nat) : Int)) (b := ((b : Nat) : Int))
  rw [e3] at p1
  have y1 := x_byteOfG v.2.2.1 v.2.2.2 ht' hs3 (v := frV f v) hfm hv' (k := 7) (by omega)
  have y2 := x_byteOfG v.2.2.1 v.2.2.2 ht' hs3 (v := frV f v) hfm hv' (k := 5) (by omega)
  rw [show s3.B (frV f v).2.2.1 7 = ((b : Nat) : Int) by rw [b3, if_pos ⟨rfl, rfl⟩]] at y1
  rw [show s3.B (frV f v).2.2.1 5 = 0 by rw [b3, if_neg fun e => absurd e.2 (by decide)]; show s2.B f 5 = 0; rw [hBf]] at y2
  unfold frV at w1 y1 y2
  have hoth : ∀ u ∈ L, u ≠ v → u ∈ A ++ frV f v :: B := fun u hu hne => by
    rw [hL] at hu
    simp only [List.mem_append, List.mem_cons] at hu ⊢
    rcases hu with hu | hu | hu
    · exact .inl hu
    · exact absurd hu hne
    · exact .inr (.inr hu)
  obtain ⟨va, vk, vf, vw⟩ := v
  dsimp only at hok k2 w1 y1 y2 p1 r1 r2
  rw [show (vk * 64 + 7) % 64 = 7 by omega, show ((vk * 64 + 7 : Nat) : Int) = (vk : Int) * 64 + 7 by omega] at w1
  (refine wx_Een ?_; repeat' (first | with_reducible refine And.intro ?_ ?_ | intro hsp))
  all_goals try (exfalso; simp at hsp; done)
  clear k1 k2 r1 r2 p1 w1 y1 y2 e1 e2 e3
  (refine loop_x [3, 14] (fun (i : Nat) => [(9, .ptr 1 0), (10, .ptr 6 0), (11, .ptr 7 0), (16, .int .i64 (i : Nat))]) (fun (i : Nat) => ⟨[(0, .cells [.isl (L.map vwC)])] ++ rdN t' s3 1 2 3 4 5 6 ++ [(7, .cells [.int .i64 (va : Nat), .int .i64 (vk : Nat), .int .i64 (vf : Nat), .bool vw])], 8⟩) (fun (i : Nat) => i ≤ L.length) (fun (i : Nat) => L.length - i) (0) [(1, 8), (2, 9), (3, 10), (4, 11), (5, 12), (6, 13), (7, 24)] rfl (fun _ => by first | exact Nat.zero_le _ | (dsimp only; omega)) ?_ (by ((try (conv => whnf)); exact wkx_Ee)) ?_)
  · exact Nat.zero_le _
  intro i hi
  by_cases hil : i < L.length
  · obtain ⟨h1, h2⟩ := allL_at s 7 hil
    have hum := nth_mem (d := dV) hil
    generalize hu : nth dV L i = u at *
    by_cases heq : u = (va, vk, vf, vw)
    · subst heq
      (refine wx_Een ?_; repeat' (first | with_reducible refine And.intro ?_ ?_ | intro hsp))
      · exact next_x (i + 1) [] (by (try dsimp only); omega) (by first | omega | (dsimp only; omega)) rfl (by exact wkx_Ee)
      · exfalso; simp at hsp
    · have hm' := hoth u hum heq
      have hne : ¬ (u.1 = va ∧ u.2.1 = vk) := fun e => heq (srt_uniq hs hum hv e.1 e.2)
      have hf' := hnu u hum
      have y1 := x_byteOf ht' hs3 (v := u) (List.mem_append_left _ (frs_mem hum)) hm' (k := 7) (by omega)
      have y2 := x_byteOf ht' hs3 (v := u) (List.mem_append_left _ (frs_mem hum)) hm' (k := 5) (by omega)
      rw [b3, if_neg fun e => hf' e.1, hB _ hf', ← h1] at y1
      rw [b3, if_neg fun e => hf' e.1, hB _ hf', ← h2] at y2
      clear h1 h2
      generalize h1 : nth 0 (allL s 7 L) (2 * i) = x1 at *
      generalize h2 : nth 0 (allL s 7 L) (2 * i + 1) = x2 at *
      obtain ⟨ua, uk, uf, uw⟩ := u
      unfold vwC at y1 y2
      dsimp only at y1 y2 hne
      (refine wx_Een ?_; repeat' (first | with_reducible refine And.intro ?_ ?_ | intro hsp))
      all_goals first | exact next_x (i + 1) [] (by (try dsimp only); omega) (by first | omega | (dsimp only; omega)) rfl (by exact wkx_Ee) | (exfalso; omega) | (exfalso; simp at hsp; done)
  · obtain rfl : i = L.length := by omega
    (refine wx_Een ?_; repeat' (first | with_reducible refine And.intro ?_ ?_ | intro hsp))
    all_goals first | exact end_bool rfl | (exfalso; simp at hsp; done)
theorem law_splits (R : List Rw) (a b : Nat) (fr : Int) (ha : a < 256) (hb : b < 256) : PureS 6 [.agg [.isl (R.map rwC)], .agg [.int .u8 (a : Nat), .int .u8 (b : Nat)], .int .i64 fr] (.bool true) := by
  obtain ⟨i, e, h⟩ := chk_ex R
  by_cases hn : e ≠ 0 ∨ 60 < R.length
  · exact splits_no a b fr h hn
  · have he : e = 0 := Classical.byContradiction fun hc => hn (.inl hc)
    subst he
    obtain ⟨L, hR, h1, _, h3⟩ := chk_views h
    have hlen : R.length ≤ 60 := Nat.le_of_not_lt fun hc => hn (.inr hc)
    subst hR
    rw [rw_map]
    rw [List.length_map] at hlen
    by_cases h0 : L.length = 0
    · exact splits_nil a b fr h0
    · by_cases hfr : inR 1024 fr
      · obtain ⟨f, rfl⟩ : ∃ f : Nat, fr = (f : Int) := ⟨fr.toNat, by have := hfr.1; omega⟩
        have hf : f < 1024 := by have := hfr.2; omega
        by_cases hc : cntF L f = 0
        · exact splits_ok a b f ha hb h1 hlen h3 h0 hf hc
        · exact splits_bad a b _ ha hb h1 hlen h3 h0 (.inr ⟨f, rfl, hf, by omega⟩)
      · exact splits_bad a b _ ha hb h1 hlen h3 h0 (.inl hfr)
end
end Go.Proofs.Ytccbhbdbmmkcdaa.Sh
