/-
  The law of reads.
-/
import Derived.Test.YtccbhbdbmmkcdaaAmWt
import Derived.Test.YtccbhbdbmmkcdaaEc
set_option linter.unusedSimpArgs false
set_option linter.unusedVariables false
namespace Go.Proofs.Ytccbhbdbmmkcdaa.Sh
open Go Go.Am Go.Pol
theorem wkx_Ed {p : Prop} (h : p := by (refine weak_s (by exact oneOf_of rfl) (by exact subH_of rfl) (by intro hs; (repeat' ((try (conv => whnf)); first | with_reducible exact True.intro | with_reducible refine And.intro ?_ ?_ | (with_reducible refine WkX.mk ?_; first | exact wk_undef | exact wk_int (by first | rfl | omega | (dsimp only; omega)) | exact wk_bool rfl | exact wk_ptr rfl (by first | decide | simp | omega) | exact wk_map rfl (by first | decide | simp | omega) | exact wk_sl rfl (by first | decide | simp | omega) (by first | rfl | omega | simp) (by first | omega | simp) (by first | omega | simp) | exact wk_own rfl (by first | decide | simp | omega) | exact wk_nil0 (by first | rfl | simp) | exact wk_slown rfl (by first | decide | omega | (simp; done)) (by first | omega | (simp; done)) (by first | rfl | omega | (simp; done) | (simp; omega)) | exact wk_plain hs (by (first | assumption | exact plain_int | exact plain_bool | exact plain_undef | exact plain_nils | exact plain_nilp | exact plain_nilf | exact plain_str | with_reducible apply plain_int | with_reducible apply plain_bool | with_reducible apply plain_vwC | with_reducible apply plain_vwE | with_reducible apply plain_vs | with_reducible apply plain_vsA | with_reducible apply plain_is | with_reducible apply plain_rsA | with_reducible apply plain_2u)) | (with_reducible refine wk_fn ?_ ?_ <;> repeat' (first | with_reducible exact wkl_nil | with_reducible refine wkl_cons ?_ ?_ | exact wk_ptr rfl (by first | decide | simp | omega))) | (with_reducible refine wk_agg ?_; repeat' (first | with_reducible exact wkl_nil | with_reducible refine wkl_cons ?_ ?_ | exact wk_int (by first | rfl | omega | (dsimp only; omega)) | exact wk_bool rfl)) | exact wk_yld rfl (by first | decide | simp | omega))))) (by intro hs; (try dsimp only); (repeat' (first | with_reducible exact wko_nil | refine wko_tab hs (by first | decide | omega | simp) rfl rfl (by first | decide | omega | simp) rfl (by first | decide | omega | simp) ?_ | refine wko_maps hs (by first | decide | omega | simp) rfl rfl key_plain ?_ | refine wko_plain hs (by first | decide | omega | simp) rfl (by first | rfl) (by (first | with_reducible assumption | with_reducible apply cells_plain | with_reducible apply ends_plain | with_reducible apply cnt_plain | with_reducible apply memI_plain _ _ | with_reducible apply vw_plain | with_reducible apply plain_flat vw_plain' | with_reducible apply nat_plain | with_reducible apply a_plain | with_reducible apply plain_flat nat1_plain | with_reducible apply plain_flat int1_plain | with_reducible apply plain_map (fun _ => plain_int) | with_reducible apply plain_map (fun _ => plain_bool) | ((repeat' (first | exact plain_all0 | refine plain_all2 ?_ ?_ | exact plain_int | first | assumption | exact plain_int | exact plain_bool | exact plain_undef | exact plain_nils | exact plain_nilp | exact plain_nilf | exact plain_str | with_reducible apply plain_int | with_reducible apply plain_bool | with_reducible apply plain_vwC | with_reducible apply plain_vwE | with_reducible apply plain_vs | with_reducible apply plain_vsA | with_reducible apply plain_is | with_reducible apply plain_rsA | with_reducible apply plain_2u)); done) | ((refine plain_app ?_ ?_) <;> (first | with_reducible assumption | with_reducible apply cells_plain | with_reducible apply ends_plain | with_reducible apply cnt_plain | with_reducible apply memI_plain _ _ | with_reducible apply vw_plain | with_reducible apply plain_flat vw_plain' | with_reducible apply nat_plain | with_reducible apply a_plain | with_reducible apply plain_flat nat1_plain | with_reducible apply plain_flat int1_plain | with_reducible apply plain_map (fun _ => plain_int) | with_reducible apply plain_map (fun _ => plain_bool) | ((repeat' (first | exact plain_all0 | refine plain_all2 ?_ ?_ | exact plain_int | first | assumption | exact plain_int | exact plain_bool | exact plain_undef | exact plain_nils | exact plain_nilp | exact plain_nilf | exact plain_str | with_reducible apply plain_int | with_reducible apply plain_bool | with_reducible apply plain_vwC | with_reducible apply plain_vwE | with_reducible apply plain_vs | with_reducible apply plain_vsA | with_reducible apply plain_is | with_reducible apply plain_rsA | with_reducible apply plain_2u)); done))))) ?_ | refine wko_cells (by first | decide | omega | simp) rfl (by repeat' (first | with_reducible exact wkl_nil | with_reducible refine wkl_cons ?_ ?_ | (first | exact wk_undef | exact wk_int (by first | rfl | omega | (dsimp only; omega)) | exact wk_bool rfl | exact wk_ptr rfl (by first | decide | simp | omega) | exact wk_map rfl (by first | decide | simp | omega) | exact wk_sl rfl (by first | decide | simp | omega) (by first | rfl | omega | simp) (by first | omega | simp) (by first | omega | simp) | exact wk_own rfl (by first | decide | simp | omega) | exact wk_nil0 (by first | rfl | simp) | exact wk_slown rfl (by first | decide | omega | (simp; done)) (by first | omega | (simp; done)) (by first | rfl | omega | (simp; done) | (simp; omega)) | exact wk_plain hs (by (first | assumption | exact plain_int | exact plain_bool | exact plain_undef | exact plain_nils | exact plain_nilp | exact plain_nilf | exact plain_str | with_reducible apply plain_int | with_reducible apply plain_bool | with_reducible apply plain_vwC | with_reducible apply plain_vwE | with_reducible apply plain_vs | with_reducible apply plain_vsA | with_reducible apply plain_is | with_reducible apply plain_rsA | with_reducible apply plain_2u)) | (with_reducible refine wk_fn ?_ ?_ <;> repeat' (first | with_reducible exact wkl_nil | with_reducible refine wkl_cons ?_ ?_ | exact wk_ptr rfl (by first | decide | simp | omega))) | (with_reducible refine wk_agg ?_; repeat' (first | with_reducible exact wkl_nil | with_reducible refine wkl_cons ?_ ?_ | exact wk_int (by first | rfl | omega | (dsimp only; omega)) | exact wk_bool rfl)) | exact wk_yld rfl (by first | decide | simp | omega)))) ?_ | refine wko_loop (by first | decide | omega | simp) rfl (by ((try subst hF); (try subst hF2); exact wkl_sd (wkf_sget (by (repeat' ((try (conv => whnf)); first | with_reducible exact True.intro | with_reducible refine And.intro ?_ ?_ | (with_reducible refine WkX.mk ?_; first | exact wk_undef | exact wk_int (by first | rfl | omega | (dsimp only; omega)) | exact wk_bool rfl | exact wk_ptr rfl (by first | decide | simp | omega) | exact wk_map rfl (by first | decide | simp | omega) | exact wk_sl rfl (by first | decide | simp | omega) (by first | rfl | omega | simp) (by first | omega | simp) (by first | omega | simp) | exact wk_own rfl (by first | decide | simp | omega) | exact wk_nil0 (by first | rfl | simp) | exact wk_slown rfl (by first | decide | omega | (simp; done)) (by first | omega | (simp; done)) (by first | rfl | omega | (simp; done) | (simp; omega)) | exact wk_plain hs (by (first | assumption | exact plain_int | exact plain_bool | exact plain_undef | exact plain_nils | exact plain_nilp | exact plain_nilf | exact plain_str | with_reducible apply plain_int | with_reducible apply plain_bool | with_reducible apply plain_vwC | with_reducible apply plain_vwE | with_reducible apply plain_vs | with_reducible apply plain_vsA | with_reducible apply plain_is | with_reducible apply plain_rsA | with_reducible apply plain_2u)) | (with_reducible refine wk_fn ?_ ?_ <;> repeat' (first | with_reducible exact wkl_nil | with_reducible refine wkl_cons ?_ ?_ | exact wk_ptr rfl (by first | decide | simp | omega))) | (with_reducible refine wk_agg ?_; repeat' (first | with_reducible exact wkl_nil | with_reducible refine wkl_cons ?_ ?_ | exact wk_int (by first | rfl | omega | (dsimp only; omega)) | exact wk_bool rfl)) | exact wk_yld rfl (by first | decide | simp | omega)))))))) ?_ | exact wko_nil))))) : p := h
theorem wx_Ed {p q : Prop} (hq : q) (h : HidP q → p := by (intro hQz; ((repeat' ((try (conv => whnf)); first | (with_reducible first | refine run_cons ?_ | refine runq_cons ?_ | refine code_seq ?_ | refine code_reg ?_ | refine code_cond ?_ | refine run_nil ?_ | refine runq_nil ?_ | refine rund_op rfl ?_ | refine rund_nil ?_ | refine code_block ?_ | refine code_skip ?_ | refine code_exit ?_ | refine code_ret ?_ | refine code_range ?_ | refine rund_fast (by decide +kernel) ?_ | refine rund_slow (by decide +kernel) ?_ | refine br_tt ?_ | refine br_ff ?_ | refine br_n ?_ | refine br_and ?_ | refine br_or ?_ | refine br_t (by assumption) ?_ | refine br_f (by assumption) ?_ | refine eq_i64 (by omega) ?_ | refine el_tn ?_) | ((with_reducible refine br_dt ?_ ?_); focus omega) | ((with_reducible refine br_df ?_ ?_); focus omega) | ((with_reducible apply br_dq hQz) <;> (try intro hsp hQz)) | ((with_reducible refine ck_x ?_ ?_); focus (first | omega | rfl | assumption | decide | (simp only [List.length_map, List.length_cons, List.length_nil]; omega))) | (with_reducible first | refine eq_tn ?_ | refine eq_tn1 ?_ | refine eq_tn2 ?_ | refine eq_m1 ?_ | refine eq_m2 ?_ | refine eq_zm ?_ | refine eq_z ?_ | refine len_map ?_ | refine len_sl ?_ | refine len_nils ?_ | refine len_own' ?_ | refine len_isl ?_ | refine eq_u8 (by omega) ?_ | refine eq_u16 (by omega) ?_) | (with_reducible first | refine eq_rfl ?_ | refine ChkX.mk (by kernel_rfl) ?_ | refine code_q rfl ?_ | refine code_d (by decide +kernel) ?_ | refine end_go rfl ?_) | refine cx_pureS (by assumption) ?_ | refine cx_Rd (by assumption) ?_ | refine len_map ?_ | refine len_isl ?_ | refine el_of rfl rfl ?_ | refine del_own ?_ | refine del_own' rfl ?_ | refine as_go rfl ?_ | refine rd_go rfl ?_ | refine rg_end rfl ?_ | refine flat_ownX ?_ | refine EqLX.mk ?_ | ((with_reducible apply br_bq hQz) <;> (try intro hsp hQz)) | exact hQz.out)) <;> (try (conv => whnf))))) : p := h ⟨hq⟩
theorem wx_Edn {p q : Prop} (hq : q) (h : HidP q → p := by (intro hQz; ((repeat' ((try (conv => whnf)); first | (with_reducible first | refine run_cons ?_ | refine runq_cons ?_ | refine code_seq ?_ | refine code_reg ?_ | refine code_cond ?_ | refine run_nil ?_ | refine runq_nil ?_ | refine rund_op rfl ?_ | refine rund_nil ?_ | refine code_block ?_ | refine code_skip ?_ | refine code_exit ?_ | refine code_ret ?_ | refine code_range ?_ | refine rund_fast (by decide +kernel) ?_ | refine rund_slow (by decide +kernel) ?_ | refine br_tt ?_ | refine br_ff ?_ | refine br_n ?_ | refine br_and ?_ | refine br_or ?_ | refine br_t (by assumption) ?_ | refine br_f (by assumption) ?_ | refine eq_i64 (by omega) ?_ | refine el_tn ?_) | ((with_reducible refine br_dt ?_ ?_); focus omega) | ((with_reducible refine br_df ?_ ?_); focus omega) | ((with_reducible apply br_dq hQz) <;> (try intro hsp hQz)) | ((with_reducible refine ck_x ?_ ?_); focus (first | omega | rfl | assumption | decide | (simp only [List.length_map, List.length_cons, List.length_nil]; omega))) | (with_reducible first | refine eq_tn ?_ | refine eq_tn1 ?_ | refine eq_tn2 ?_ | refine eq_m1 ?_ | refine eq_m2 ?_ | refine eq_zm ?_ | refine eq_z ?_ | refine len_map ?_ | refine len_sl ?_ | refine len_nils ?_ | refine len_own' ?_ | refine len_isl ?_ | refine eq_u8 (by omega) ?_ | refine eq_u16 (by omega) ?_) | refine eq_of (by with_reducible assumption) ?_ | refine el_vw (by first | assumption | omega) (by with_reducible assumption) ?_ | refine el_2 (by omega) (by with_reducible assumption) ?_ | refine el_3 (by omega) (by with_reducible assumption) ?_ | (with_reducible first | refine eq_rfl ?_ | refine ChkX.mk (by kernel_rfl) ?_ | refine code_d (by decide +kernel) ?_ | refine end_go rfl ?_) | (refine cx_in hmix b21 rfl ?_; unfold c21) | refine cx_Rd (by assumption) ?_ | refine cx_tx (by assumption) rfl rfl rfl rfl rfl rfl (by decide) rfl ?_ | refine cx_tab (by assumption) rfl rfl rfl rfl rfl (by decide) rfl ?_ | refine cx_locS (by assumption) rfl (by decide) ?_ | refine dcx_pureS (by assumption) ?_ | refine dcx_tab (by assumption) rfl rfl rfl rfl rfl rfl rfl ?_ | refine cx_pureS (by assumption) ?_ | refine len_map ?_ | refine len_isl ?_ | refine el_of rfl rfl ?_ | refine del_own ?_ | refine del_own' rfl ?_ | refine as_go rfl ?_ | refine rd_go rfl ?_ | refine rg_end rfl ?_ | refine flat_ownX ?_ | refine EqLX.mk ?_ | ((with_reducible apply br_bq hQz) <;> (try intro hsp hQz)) | exact hQz.out)) <;> (try (conv => whnf))))) : p := h ⟨hq⟩
theorem plain_2u {a b : Int} : Plain (.agg [.int .u8 a, .int .u8 b]) := plain_agg fun x hx => by
  simp only [List.mem_cons, List.not_mem_nil, or_false] at hx
  rcases hx with rfl | rfl <;> exact plain_int
theorem el_2 {l : List Int} {i : Nat} {K : List AV → Prop} {x : Int} (hj : 2 * i < l.length) (hx : nth 0 l (2 * i) = x) (hk : K (int1 x)) : ElX (l.map int1) (2 * (i : Int)).toNat 1 K := by
  rw [show (2 * (i : Int)).toNat = 2 * i by omega]; exact el_mapE int1_len hj hx hk
theorem el_3 {l : List Int} {i : Nat} {K : List AV → Prop} {x : Int} (hj : 2 * i + 1 < l.length) (hx : nth 0 l (2 * i + 1) = x) (hk : K (int1 x)) : ElX (l.map int1) (2 * (i : Int) + 1).toNat 1 K := by
  rw [show (2 * (i : Int) + 1).toNat = 2 * i + 1 by omega]; exact el_mapE int1_len hj hx hk
theorem el_vw {L : List Vw} {i : Nat} {K : List AV → Prop} {va vk vf : Nat} {vw : Bool} (hj : i < L.length) (hx : nth dV L i = (va, vk, vf, vw)) (hk : K [.int .i64 (va : Nat), .int .i64 (vk : Nat), .int .i64 (vf : Nat), .bool vw]) : ElX (L.map vwC) i 4 K := el_mapE vw_len hj hx hk
theorem tmodN {a n : Nat} : ((a : Nat) : Int).tmod ((n : Nat) : Int) = ((a % n : Nat) : Int) := by
  rw [Int.tmod_eq_emod_of_nonneg (by omega)]; omega
section
variable {L : List Vw} {R : List Rw}
theorem reads_no {i e : Int} (a b c : Nat) (h : ChkR R i e) (hn : e ≠ 0 ∨ 60 < R.length) : PureS 5 [.agg [.isl (R.map rwC)], .agg [.int .u8 (a : Nat), .int .u8 (b : Nat)], .int .u8 (c : Nat)] (.bool true) := by
  refine PureS.mk (pure_x hmix b5 plainG ⟨plain_rsA, plain_2u, plain_int, trivial⟩ plain_bool rfl ?_)
  unfold c5
  have hr := l_ready_no h hn
  have ha := k_awake
  (refine wx_Ed ?_; repeat' (first | with_reducible refine And.intro ?_ ?_ | intro hsp))
  all_goals exact end_bool rfl
theorem reads_nil (a b c : Nat) (h0 : L.length = 0) : PureS 5 [.agg [.isl (L.map vwC)], .agg [.int .u8 (a : Nat), .int .u8 (b : Nat)], .int .u8 (c : Nat)] (.bool true) := by
  refine PureS.mk (pure_x hmix b5 plainG ⟨plain_vsA, plain_2u, plain_int, trivial⟩ plain_bool rfl ?_)
  unfold c5
  obtain ⟨t, s, _, _, hr⟩ := l_ready_nil h0
  have ha := k_awake
  (refine wx_Ed ?_; repeat' (first | with_reducible refine And.intro ?_ ?_ | intro hsp))
  all_goals exact end_bool rfl
set_option maxHeartbeats 1600000 in
set_option maxRecDepth 20000 in
theorem reads_ok (a b c : Nat) (ha2 : a < 256) (hb2 : b < 256) (hc2 : c < 256) (hs : srt L) (hl : L.length ≤ 60) (ho : ∀ v ∈ L, v.1 < 64 ∧ v.2.1 < 1024 ∧ v.2.2.1 < 1024) (h0 : L.length ≠ 0) : PureS 5 [.agg [.isl (L.map vwC)], .agg [.int .u8 (a : Nat), .int .u8 (b : Nat)], .int .u8 (c : Nat)] (.bool true) := by
  obtain ⟨t, s, ht, hsy, hr⟩ := l_ready hs hl ho h0
  refine PureS.mk (pure_x hmix b5 plainG ⟨plain_vsA, plain_2u, plain_int, trivial⟩ plain_bool rfl ?_)
  unfold c5
  have ha := k_awake
  have q1 := tmodN (a := a) (n := L.length)
  have q2 := m64 (t := b)
  have hi0 : a % L.length < L.length := Nat.mod_lt _ (by omega)
  have hk : b % 64 < 64 := Nat.mod_lt _ (by omega)
  have hv := nth_mem (d := dV) hi0
  have hM : ∀ v ∈ L, v ∈ L ∧ v.2.2.1 ∈ frs L := fun v hv => ⟨hv, frs_mem hv⟩
  generalize a % L.length = i0 at *
  generalize b % 64 = k at *
  generalize hx : nth dV L i0 = v at hv
  have hok := ho v hv
  have c1 := x_all ht hsy hM hl hk
  have hl1 := allL_len s k L
  have hsave := t_Save ht
  have hsame := q_same (L := L) (by omega)
  obtain ⟨va, vk, vf, vw⟩ := v
  dsimp only at hok
  by_cases hw : vw = true
  · have w1 := t_where ht hv (at_ := vk * 64 + k) (by omega) (by dsimp only; omega) (w := true) (fun _ => hw)
    dsimp only at w1
    rw [show (vk * 64 + k) % 64 = k by omega, show ((vk * 64 + k : Nat) : Int) = (vk : Int) * 64 + (k : Nat) by omega] at w1
    obtain ⟨s1, e1, g1, b1⟩ := sy_write hsy (p := vf) (j := k) hok.2.2 (frs_mem hv) hk (b := ((c : Nat) : Int)) (by omega)
    have c2 := p_write (s := s) (a := ((vf * 64 + k : Nat) : Int)) (b := ((c : Nat) : Int))
    rw [e1] at c2
    dsimp only at c2
    have c3 := x_all ht g1 hM hl hk
    have hl2 := allL_len s1 k L
    subst hw
    (refine wx_Edn ?_; repeat' (first | with_reducible refine And.intro ?_ ?_ | intro hsp))
    all_goals try (exfalso; simp at hsp; done)
    (refine loop_x [2, 3, 12, 13, 15] (fun (i : Nat) => [(9, .ptr 1 0), (11, .ptr 7 0), (16, .int .i64 (i : Nat))]) (fun (i : Nat) => ⟨[(0, .cells [.isl (L.map vwC)])] ++ rdN t s1 1 2 3 4 5 6 ++ [(7, .cells [.int .i64 (va : Nat), .int .i64 (vk : Nat), .int .i64 (vf : Nat), .bool true])], 8⟩) (fun (i : Nat) => i ≤ L.length) (fun (i : Nat) => L.length - i) (0) [(1, 8), (2, 9), (3, 10), (4, 11), (5, 12), (6, 13), (7, 27)] rfl (fun _ => by first | exact Nat.zero_le _ | (dsimp only; omega)) ?_ (by ((try (conv => whnf)); exact wkx_Ed)) ?_)
    · exact Nat.zero_le _
    clear hsp
    intro i hi
    by_cases hil : i < L.length
    · obtain ⟨h1, h2⟩ := allL_at s k hil
      obtain ⟨h3, h4⟩ := allL_at s1 k hil
      generalize hu : nth dV L i = u at *
      obtain ⟨ua, uk, uf, uw⟩ := u
      dsimp only at h1 h2 h3 h4
      have y1 := hsy.byte uf k
      rw [b1] at h3 h4
      generalize s.B uf k = x1 at *
      generalize s.B uf 5 = x2 at *
      by_cases hf : uf = vf
      · rw [if_pos ⟨hf, rfl⟩] at h3
        by_cases h5 : k = 5
        · rw [if_pos ⟨hf, h5.symm⟩] at h4
          (refine wx_Edn ?_; repeat' (first | with_reducible refine And.intro ?_ ?_ | intro hsp))
          all_goals exact next_x (i + 1) [] (by (try dsimp only); omega) (by first | omega | (dsimp only; omega)) rfl (by exact wkx_Ed)
        · rw [if_neg fun e => h5 e.2.symm] at h4
          (refine wx_Edn ?_; repeat' (first | with_reducible refine And.intro ?_ ?_ | intro hsp))
          all_goals exact next_x (i + 1) [] (by (try dsimp only); omega) (by first | omega | (dsimp only; omega)) rfl (by exact wkx_Ed)
      · rw [if_neg fun e => hf e.1] at h3 h4
        (refine wx_Edn ?_; repeat' (first | with_reducible refine And.intro ?_ ?_ | intro hsp))
        all_goals exact next_x (i + 1) [] (by (try dsimp only); omega) (by first | omega | (dsimp only; omega)) rfl (by exact wkx_Ed)
    · obtain rfl : i = L.length := by omega
      (refine wx_Edn ?_; repeat' (first | with_reducible refine And.intro ?_ ?_ | intro hsp))
      all_goals first | exact end_bool rfl | (exfalso; simp at hsp; done)
  · have hw' : vw = false := by simpa using hw
    subst hw'
    have w1 := t_where_ro ht hv (at_ := vk * 64 + k) (by omega) (by dsimp only; omega) rfl
    dsimp only at w1
    rw [show ((vk * 64 + k : Nat) : Int) = (vk : Int) * 64 + (k : Nat) by omega] at w1
    (refine wx_Edn ?_; repeat' (first | with_reducible refine And.intro ?_ ?_ | intro hsp))
    all_goals try (exfalso; simp at hsp; done)
    (refine loop_x [2, 3, 12, 13, 15] (fun (i : Nat) => [(9, .ptr 1 0), (11, .ptr 7 0), (16, .int .i64 (i : Nat))]) (fun (i : Nat) => ⟨[(0, .cells [.isl (L.map vwC)])] ++ rdN t s 1 2 3 4 5 6 ++ [(7, .cells [.int .i64 (va : Nat), .int .i64 (vk : Nat), .int .i64 (vf : Nat), .bool false])], 8⟩) (fun (i : Nat) => i ≤ L.length) (fun (i : Nat) => L.length - i) (0) [(1, 8), (2, 9), (3, 10), (4, 11), (5, 12), (6, 13), (7, 27)] rfl (fun _ => by first | exact Nat.zero_le _ | (dsimp only; omega)) ?_ (by ((try (conv => whnf)); exact wkx_Ed)) ?_)
    · exact Nat.zero_le _
    clear hsp
    intro i hi
    by_cases hil : i < L.length
    · obtain ⟨h1, h2⟩ := allL_at s k hil
      obtain ⟨h3, h4⟩ := allL_at s k hil
      generalize hu : nth dV L i = u at *
      obtain ⟨ua, uk, uf, uw⟩ := u
      dsimp only at h1 h2 h3 h4
      have y1 := hsy.byte uf k
      generalize s.B uf k = x1 at *
      generalize s.B uf 5 = x2 at *
      (refine wx_Edn ?_; repeat' (first | with_reducible refine And.intro ?_ ?_ | intro hsp))
      all_goals exact next_x (i + 1) [] (by (try dsimp only); omega) (by first | omega | (dsimp only; omega)) rfl (by exact wkx_Ed)
    · obtain rfl : i = L.length := by omega
      (refine wx_Edn ?_; repeat' (first | with_reducible refine And.intro ?_ ?_ | intro hsp))
      all_goals first | exact end_bool rfl | (exfalso; simp at hsp; done)
theorem law_reads (R : List Rw) (a b c : Nat) (ha : a < 256) (hb : b < 256) (hc : c < 256) : PureS 5 [.agg [.isl (R.map rwC)], .agg [.int .u8 (a : Nat), .int .u8 (b : Nat)], .int .u8 (c : Nat)] (.bool true) := by
  obtain ⟨i, e, h⟩ := chk_ex R
  by_cases hn : e ≠ 0 ∨ 60 < R.length
  · exact reads_no a b c h hn
  · have he : e = 0 := Classical.byContradiction fun hc => hn (.inl hc)
    subst he
    obtain ⟨L, hR, h1, _, h3⟩ := chk_views h
    have hlen : R.length ≤ 60 := Nat.le_of_not_lt fun hc => hn (.inr hc)
    subst hR
    rw [rw_map]
    rw [List.length_map] at hlen
    by_cases h0 : L.length = 0
    · exact reads_nil a b c h0
    · exact reads_ok a b c ha hb hc h1 hlen h3 h0
end
end Go.Proofs.Ytccbhbdbmmkcdaa.Sh
