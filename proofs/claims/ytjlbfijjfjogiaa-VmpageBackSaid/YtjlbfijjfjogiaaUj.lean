/-
  VmpageBack.
-/
import Derived.Test.YtjlbfijjfjogiaaUi
import Derived.Test.YtjlbfijjfjogiaaTj
set_option linter.unusedSimpArgs false
set_option linter.unusedVariables false
namespace Go.Pol
open Go.Am
theorem isR_nil {C : Nat → Int} {k : Nat} : isR [] C k = false := by
  unfold isR
  split
  · rfl
  · rfl
/-- A change of one page, where nothing is refused. -/
theorem chg_one {s : Sy} {p : Nat} {v w : Int} {k : Nat} (hl : s.l = []) (hp : p < 1024) (hv : s.K p = v) (hm : s.M p = false) : ∃ s', s.chg (p : Nat) 1 v w k = (0, s') ∧ s'.l = [] ∧ s'.K p = w ∧ (∀ j, j ≠ p → s'.K j = s.K j) ∧ s'.G = s.G := by
  refine ⟨{ s.ref k with K := setR s.K p 1 w, B := setP s.B p 1 }, ?_, hl, ?_, fun j hj => ?_, rfl⟩
  · unfold Sy.chg
    rw [if_neg (by omega), Int.toNat_natCast, show (1 : Int).toNat = 1 from rfl, if_pos, hl, isR_nil]
    · rfl
    · intro i hi
      obtain rfl : i = 0 := by omega
      exact ⟨hv, hm⟩
  · show setR s.K p 1 w p = w
    unfold setR; rw [if_pos (by omega)]
  · show setR s.K p 1 w j = _
    unfold setR; rw [if_neg (by omega)]
theorem split_one {s : Sy} {p : Nat} (hl : s.l = []) (hf : fst (p : Nat)) (hm : s.M p = true) : ∃ s', s.split (p : Nat) = (0, s') ∧ s'.l = [] ∧ s'.K = s.K ∧ s'.M p = false := by
  refine ⟨{ s.ref 6 with G := updB s.G (p / 16) false }, ?_, hl, rfl, ?_⟩
  · unfold Sy.split
    rw [if_pos hf, Int.toNat_natCast, if_pos hm, hl, isR_nil]
    rfl
  · show updB s.G (p / 16) false (p / 16) = false
    unfold updB; rw [if_pos rfl]
theorem plan_nil {s : Sy} : ∃ s', s.plan [] = (0, s') ∧ s'.l = [] := ⟨_, rfl, rfl⟩
theorem fst_of {s : Sy} (hg : GoodS s) {p : Nat} (hp : p < 1024) (h0 : ∀ j, j < p → s.K j = 0) (hm : s.M p = true) : fst (p : Nat) := by
  refine ⟨by omega, by omega, ?_⟩
  rw [Int.tmod_eq_emod_of_nonneg (by omega)]
  refine Classical.byContradiction fun h => ?_
  have h1 : s.M (p - 1) = true := by
    show s.G ((p - 1) / 16) = true
    rw [show (p - 1) / 16 = p / 16 by omega]; exact hm
  have h2 := hg.huge _ h1
  rw [h0 (p - 1) (by omega)] at h2
  exact absurd h2 (by decide)
theorem runs_0 {K : Nat → Int} : ∀ {n : Nat}, (∀ j, j < n → K j = 0) → runsTo K n = []
  | 0, _ => rfl
  | n + 1, h => by
    show (if K n = 0 then runsTo K n else _) = _
    rw [if_pos (h n (by omega))]; exact runs_0 fun j hj => h j (by omega)
theorem huge_0 {G : Nat → Bool} : ∀ {n : Nat}, (∀ j, j < n → G (j / 16) = false) → hugeTo G n = []
  | 0, _ => rfl
  | n + 1, h => by
    show (if n % 16 = 0 ∧ G (n / 16) = true then _ else hugeTo G n) = _
    rw [if_neg fun e => by rw [h n (by omega)] at e; exact absurd e.2 (by decide)]; exact huge_0 fun j hj => h j (by omega)
theorem data_0 {B : Nat → Nat → Int} : ∀ {n : Nat}, (∀ j, j < n → B j = fun _ => 0) → dataTo B n = []
  | 0, _ => rfl
  | n + 1, h => by
    show (if zeroB (B n) then dataTo B n else _) = _
    rw [if_pos (by rw [h n (by omega)]; exact fun _ _ => rfl)]; exact data_0 fun j hj => h j (by omega)
theorem save_0 {s : Sy} (hg : GoodS s) (h : ∀ j, j < 1024 → s.K j = 0) : s.save = ⟨[], [], [], s.l, s.C, s.H⟩ := by
  unfold Sy.save
  rw [runs_0 h, huge_0 (n := 1024) fun j hj => ?_, data_0 fun j hj => hg.zero j (by rw [h j hj]; decide)]
  cases e : s.G (j / 16) with
  | false => rfl
  | true =>
    have h2 := hg.huge j e
    rw [h j hj] at h2; exact absurd h2 (by decide)
end Go.Pol
namespace Go.Proofs.Ytjlbfijjfjogiaa
open Go Go.Am Go.Pol
section
variable {l : List Ac}
theorem wkx_Uj {p : Prop} (h : p := by (refine weak_s (by exact oneOf_of rfl) (by exact subH_of rfl) (by intro hs; (repeat' ((try (conv => whnf)); first | with_reducible exact True.intro | with_reducible refine And.intro ?_ ?_ | (with_reducible refine WkX.mk ?_; first | exact wk_undef | exact wk_int (by first | rfl | omega | (dsimp only; omega)) | exact wk_bool rfl | exact wk_ptr rfl (by first | decide | simp | omega) | exact wk_sl rfl (by first | decide | simp | omega) (by first | rfl | omega | simp) (by first | omega | simp) (by first | omega | simp) | exact wk_own rfl (by first | decide | simp | omega) | exact wk_nil0 (by first | rfl | simp) | exact wk_slown rfl (by first | decide | omega | (simp; done)) (by first | omega | (simp; done)) (by first | rfl | omega | (simp; done) | (simp; omega)) | exact wk_plain hs (by (first | assumption | exact plain_int | exact plain_bool | exact plain_undef | exact plain_nils | exact plain_nilp | exact plain_nilf | exact plain_str | with_reducible apply plain_rl | with_reducible apply plain_rls | with_reducible apply plain_pl | with_reducible apply plain_ii | with_reducible apply plain_st | with_reducible apply plain_stE | with_reducible apply plain_ac | with_reducible apply plain_acs | with_reducible apply plain_isls rlA_plain)) | (with_reducible refine wk_fn ?_ ?_ <;> repeat' (first | with_reducible exact wkl_nil | with_reducible refine wkl_cons ?_ ?_ | exact wk_ptr rfl (by first | decide | simp | omega))) | (with_reducible refine wk_agg ?_; repeat' (first | with_reducible exact wkl_nil | with_reducible refine wkl_cons ?_ ?_ | exact wk_int (by first | rfl | omega | (dsimp only; omega)) | exact wk_bool rfl)) | exact wk_yld rfl (by first | decide | simp | omega))))) (by intro hs; (try dsimp only); (repeat' (first | with_reducible exact wko_nil | refine wko_plain hs (by first | decide | omega | simp) rfl (by first | rfl) (by (first | with_reducible assumption | with_reducible apply rlA_plain _ | with_reducible apply plain_flat rlA_plain | with_reducible apply stA_plain | with_reducible apply memT_plain | with_reducible apply b_plain | with_reducible apply a_plain | with_reducible apply plain_acl | with_reducible apply plain_5 | with_reducible apply plain_4 | with_reducible apply plain_map (fun _ => plain_int) | with_reducible apply plain_map (fun _ => plain_bool) | ((repeat' (first | exact plain_all0 | refine plain_all2 ?_ ?_ | exact plain_int | first | assumption | exact plain_int | exact plain_bool | exact plain_undef | exact plain_nils | exact plain_nilp | exact plain_nilf | exact plain_str | with_reducible apply plain_rl | with_reducible apply plain_rls | with_reducible apply plain_pl | with_reducible apply plain_ii | with_reducible apply plain_st | with_reducible apply plain_stE | with_reducible apply plain_ac | with_reducible apply plain_acs | with_reducible apply plain_isls rlA_plain)); done) | ((refine plain_app ?_ ?_) <;> (first | with_reducible assumption | with_reducible apply rlA_plain _ | with_reducible apply plain_flat rlA_plain | with_reducible apply stA_plain | with_reducible apply memT_plain | with_reducible apply b_plain | with_reducible apply a_plain | with_reducible apply plain_acl | with_reducible apply plain_5 | with_reducible apply plain_4 | with_reducible apply plain_map (fun _ => plain_int) | with_reducible apply plain_map (fun _ => plain_bool) | ((repeat' (first | exact plain_all0 | refine plain_all2 ?_ ?_ | exact plain_int | first | assumption | exact plain_int | exact plain_bool | exact plain_undef | exact plain_nils | exact plain_nilp | exact plain_nilf | exact plain_str | with_reducible apply plain_rl | with_reducible apply plain_rls | with_reducible apply plain_pl | with_reducible apply plain_ii | with_reducible apply plain_st | with_reducible apply plain_stE | with_reducible apply plain_ac | with_reducible apply plain_acs | with_reducible apply plain_isls rlA_plain)); done))))) ?_ | refine wko_cells (by first | decide | omega | simp) rfl (by repeat' (first | with_reducible exact wkl_nil | with_reducible refine wkl_cons ?_ ?_ | (first | exact wk_undef | exact wk_int (by first | rfl | omega | (dsimp only; omega)) | exact wk_bool rfl | exact wk_ptr rfl (by first | decide | simp | omega) | exact wk_sl rfl (by first | decide | simp | omega) (by first | rfl | omega | simp) (by first | omega | simp) (by first | omega | simp) | exact wk_own rfl (by first | decide | simp | omega) | exact wk_nil0 (by first | rfl | simp) | exact wk_slown rfl (by first | decide | omega | (simp; done)) (by first | omega | (simp; done)) (by first | rfl | omega | (simp; done) | (simp; omega)) | exact wk_plain hs (by (first | assumption | exact plain_int | exact plain_bool | exact plain_undef | exact plain_nils | exact plain_nilp | exact plain_nilf | exact plain_str | with_reducible apply plain_rl | with_reducible apply plain_rls | with_reducible apply plain_pl | with_reducible apply plain_ii | with_reducible apply plain_st | with_reducible apply plain_stE | with_reducible apply plain_ac | with_reducible apply plain_acs | with_reducible apply plain_isls rlA_plain)) | (with_reducible refine wk_fn ?_ ?_ <;> repeat' (first | with_reducible exact wkl_nil | with_reducible refine wkl_cons ?_ ?_ | exact wk_ptr rfl (by first | decide | simp | omega))) | (with_reducible refine wk_agg ?_; repeat' (first | with_reducible exact wkl_nil | with_reducible refine wkl_cons ?_ ?_ | exact wk_int (by first | rfl | omega | (dsimp only; omega)) | exact wk_bool rfl)) | exact wk_yld rfl (by first | decide | simp | omega)))) ?_ | refine wko_loop (by first | decide | omega | simp) rfl (by ((try subst hF); (try subst hF2); exact wkl_sd (wkf_sget (by (repeat' ((try (conv => whnf)); first | with_reducible exact True.intro | with_reducible refine And.intro ?_ ?_ | (with_reducible refine WkX.mk ?_; first | exact wk_undef | exact wk_int (by first | rfl | omega | (dsimp only; omega)) | exact wk_bool rfl | exact wk_ptr rfl (by first | decide | simp | omega) | exact wk_sl rfl (by first | decide | simp | omega) (by first | rfl | omega | simp) (by first | omega | simp) (by first | omega | simp) | exact wk_own rfl (by first | decide | simp | omega) | exact wk_nil0 (by first | rfl | simp) | exact wk_slown rfl (by first | decide | omega | (simp; done)) (by first | omega | (simp; done)) (by first | rfl | omega | (simp; done) | (simp; omega)) | exact wk_plain hs (by (first | assumption | exact plain_int | exact plain_bool | exact plain_undef | exact plain_nils | exact plain_nilp | exact plain_nilf | exact plain_str | with_reducible apply plain_rl | with_reducible apply plain_rls | with_reducible apply plain_pl | with_reducible apply plain_ii | with_reducible apply plain_st | with_reducible apply plain_stE | with_reducible apply plain_ac | with_reducible apply plain_acs | with_reducible apply plain_isls rlA_plain)) | (with_reducible refine wk_fn ?_ ?_ <;> repeat' (first | with_reducible exact wkl_nil | with_reducible refine wkl_cons ?_ ?_ | exact wk_ptr rfl (by first | decide | simp | omega))) | (with_reducible refine wk_agg ?_; repeat' (first | with_reducible exact wkl_nil | with_reducible refine wkl_cons ?_ ?_ | exact wk_int (by first | rfl | omega | (dsimp only; omega)) | exact wk_bool rfl)) | exact wk_yld rfl (by first | decide | simp | omega)))))))) ?_ | exact wko_nil))))) : p := h
theorem wuj {p q : Prop} (hq : q) (h : HidP q → p := by (intro hQz; ((repeat' ((try (conv => whnf)); first | (with_reducible first | refine run_cons ?_ | refine runq_cons ?_ | refine code_seq ?_ | refine code_reg ?_ | refine code_cond ?_ | refine run_nil ?_ | refine runq_nil ?_ | refine rund_op rfl ?_ | refine rund_nil ?_ | refine code_block ?_ | refine code_skip ?_ | refine code_exit ?_ | refine code_ret ?_ | refine code_range ?_ | refine rund_fast (by decide +kernel) ?_ | refine rund_slow (by decide +kernel) ?_ | refine br_tt ?_ | refine br_ff ?_ | refine br_n ?_ | refine br_and ?_ | refine br_or ?_ | refine br_t (by assumption) ?_ | refine br_f (by assumption) ?_ | refine eq_i64 (by omega) ?_ | refine el_tn ?_) | ((with_reducible refine br_dt ?_ ?_); focus omega) | ((with_reducible refine br_df ?_ ?_); focus omega) | ((with_reducible apply br_dq hQz) <;> (try intro hsp hQz)) | ((with_reducible refine ck_x ?_ ?_); focus (first | omega | rfl | assumption | decide | (simp only [List.length_map, List.length_cons, List.length_nil]; omega))) | (with_reducible first | refine eq_tn ?_ | refine eq_tn1 ?_ | refine eq_tn2 ?_ | refine eq_m1 ?_ | refine eq_m2 ?_ | refine eq_zm ?_ | refine eq_z ?_ | refine len_map ?_ | refine len_sl ?_ | refine len_nils ?_ | refine len_own' ?_ | refine len_isl ?_ | refine eq_u8 (by omega) ?_ | refine eq_u16 (by omega) ?_) | refine eq_of (by with_reducible assumption) ?_ | refine eqlx_of (by with_reducible assumption) ?_ | (with_reducible first | refine eq_rfl ?_ | refine ChkX.mk (by kernel_rfl) ?_ | refine code_q rfl ?_ | refine code_d (by decide +kernel) ?_ | refine end_go rfl ?_) | refine cx_locM (by assumption) ?_ | refine cx_locS (by assumption) rfl (by omega) ?_ | refine cx_pureS (by assumption) ?_ | refine len_map ?_ | refine len_isl ?_ | refine el_of rfl rfl ?_ | refine del_own ?_ | refine del_own' rfl ?_ | refine as_go rfl ?_ | refine rd_go rfl ?_ | refine rg_end rfl ?_ | refine flat_ownX ?_ | refine EqLX.mk ?_ | ((with_reducible apply br_bq hQz) <;> (try intro hsp hQz)) | exact hQz.out)) <;> (try (conv => whnf))))) : p := h ⟨hq⟩
set_option maxHeartbeats 1600000 in
theorem k_back : PureS 10 [.isl (l.map acA)] (.bool true) := by
  have zs := k_shown
  refine PureS.mk (pure_x hmix b10 plainG ⟨plain_acs, trivial⟩ plain_bool rfl ?_)
  unfold c10
  by_cases h30 : 30 < l.length
  · (refine wuj ?_; repeat' (first | with_reducible refine And.intro ?_ ?_ | intro hsp))
    all_goals first | exact end_bool rfl | (exfalso; omega)
  obtain ⟨b, zl⟩ := long_nil (l := l) (by omega)
  cases b with
  | true =>
    (refine wuj ?_; repeat' (first | with_reducible refine And.intro ?_ ?_ | intro hsp))
    all_goals first | exact end_bool rfl | (exfalso; omega)
  | false =>
  obtain ⟨s, hg, zm⟩ := made_nil (l := l) (by omega)
  have zn := n_plan s
  have hgp := good_plan (l := []) hg
  obtain ⟨t, e, hl⟩ := plan_nil (s := s)
  rw [e] at zn hgp
  dsimp only at zn hgp
  clear e
  (refine wuj ?_; repeat' (first | with_reducible refine And.intro ?_ ?_ | intro hsp))
  all_goals first | (exfalso; omega) | skip
  (refine loop_x [3] (fun (q : Nat × Sy) => [(5, .int .i64 (q.1 : Nat))]) (fun (q : Nat × Sy) => ⟨[(0, .cells q.2.a)], 1⟩) (fun (q : Nat × Sy) => q.1 ≤ 1024 ∧ GoodS q.2 ∧ q.2.l = [] ∧ ∀ j, j < q.1 → q.2.K j = 0) (fun (q : Nat × Sy) => 1024 - q.1) ((0, t)) [] rfl (fun _ => by first | exact Nat.zero_le _ | (dsimp only; omega)) ?_ (by ((try (conv => whnf)); exact wkx_Uj)) ?_)
  · exact ⟨Nat.zero_le _, hgp, hl, fun j hj => by omega⟩
  clear zn zm hl hgp hg zl
  rintro ⟨p, s⟩ ⟨hi, hg, hl, h0⟩
  dsimp only at hi hg hl h0 ⊢
  by_cases hp : p < 1024
  · have z := p_kind (s := s) (a := (p : Nat))
    rw [kind_in hp] at z
    have hkk := hg.kind p
    have key : s.K p = 0 ∨ s.K p = 1 ∨ s.K p = 2 ∨ s.K p = 3 := by omega
    rcases key with h | h | h | h
    · have hm : s.M p = false := by
        cases hm : s.M p with
        | false => rfl
        | true => have := hg.huge _ hm; omega
      rw [h, hm] at z
      (refine wuj ?_; repeat' (first | with_reducible refine And.intro ?_ ?_ | intro hsp))
      all_goals exact next_x (p + 1, s) [] ⟨by dsimp only; omega, hg, hl, fun j hj => if e : j = p then by rw [e]; exact h else h0 j (by dsimp only at hj; omega)⟩ (by first | omega | (dsimp only; omega)) rfl (by exact wkx_Uj)
    · have hm : s.M p = false := by
        cases hm : s.M p with
        | false => rfl
        | true => have := hg.huge _ hm; omega
      obtain ⟨s1, e1, l1, k1, k2, g1⟩ := chg_one (w := 0) (k := 1) hl hp h hm
      have z1 := p_release (a := (p : Nat)) (n := 1) hg
      have hg1 := good_chg (s := s) (a := (p : Nat)) (n := 1) (v := 1) (w := 0) (k := 1) hg (by decide)
      rw [e1] at z1 hg1
      rw [h, hm] at z
      dsimp only at z1 hg1
      (refine wuj ?_; repeat' (first | with_reducible refine And.intro ?_ ?_ | intro hsp))
      all_goals exact next_x (p + 1, s1) [] ⟨by dsimp only; omega, hg1, l1, fun j hj => if e : j = p then by rw [e]; exact k1 else (k2 j e).trans (h0 j (by dsimp only at hj; omega))⟩ (by first | omega | (dsimp only; omega)) rfl (by exact wkx_Uj)
    · cases hm : s.M p with
      | false =>
        obtain ⟨s1, e1, l1, k1, k2, g1⟩ := chg_one (w := 1) (k := 3) hl hp h hm
        have z1 := p_decommit (a := (p : Nat)) (n := 1) hg
        have hg1 := good_chg (s := s) (a := (p : Nat)) (n := 1) (v := 2) (w := 1) (k := 3) hg (by decide)
        rw [e1] at z1 hg1
        rw [h, hm] at z
        dsimp only at z1 hg1
        have hm1 : s1.M p = false := by show s1.G _ = _; rw [g1]; exact hm
        obtain ⟨s2, e2, l2, k3, k4, g2⟩ := chg_one (w := 0) (k := 1) l1 hp k1 hm1
        have z2 := p_release (a := (p : Nat)) (n := 1) hg1
        have hg2 := good_chg (s := s1) (a := (p : Nat)) (n := 1) (v := 1) (w := 0) (k := 1) hg1 (by decide)
        rw [e2] at z2 hg2
        dsimp only at z2 hg2
        (refine wuj ?_; repeat' (first | with_reducible refine And.intro ?_ ?_ | intro hsp))
        all_goals exact next_x (p + 1, s2) [] ⟨by dsimp only; omega, hg2, l2, fun j hj => if e : j = p then by rw [e]; exact k3 else ((k4 j e).trans (k2 j e)).trans (h0 j (by dsimp only at hj; omega))⟩ (by first | omega | (dsimp only; omega)) rfl (by exact wkx_Uj)
      | true =>
        have hf := fst_of hg hp h0 hm
        obtain ⟨s0, e0, l0, k0, hm0⟩ := split_one hl hf hm
        have z0 := p_split (a := (p : Nat)) hg
        have hg0 := good_split (a := (p : Nat)) hg
        rw [e0] at z0 hg0
        rw [h, hm] at z
        dsimp only at z0 hg0
        have h2 : s0.K p = 2 := by rw [k0]; exact h
        obtain ⟨s1, e1, l1, k1, k2, g1⟩ := chg_one (w := 1) (k := 3) l0 hp h2 hm0
        have z1 := p_decommit (a := (p : Nat)) (n := 1) hg0
        have hg1 := good_chg (s := s0) (a := (p : Nat)) (n := 1) (v := 2) (w := 1) (k := 3) hg0 (by decide)
        rw [e1] at z1 hg1
        dsimp only at z1 hg1
        have hm1 : s1.M p = false := by show s1.G _ = _; rw [g1]; exact hm0
        obtain ⟨s2, e2, l2, k3, k4, g2⟩ := chg_one (w := 0) (k := 1) l1 hp k1 hm1
        have z2 := p_release (a := (p : Nat)) (n := 1) hg1
        have hg2 := good_chg (s := s1) (a := (p : Nat)) (n := 1) (v := 1) (w := 0) (k := 1) hg1 (by decide)
        rw [e2] at z2 hg2
        dsimp only at z2 hg2
        (refine wuj ?_; repeat' (first | with_reducible refine And.intro ?_ ?_ | intro hsp))
        all_goals exact next_x (p + 1, s2) [] ⟨by dsimp only; omega, hg2, l2, fun j hj => if e : j = p then by rw [e]; exact k3 else ((k4 j e).trans (k2 j e)).trans ((congrFun k0 j).trans (h0 j (by dsimp only at hj; omega)))⟩ (by first | omega | (dsimp only; omega)) rfl (by exact wkx_Uj)
    · have hm : s.M p = false := by
        cases hm : s.M p with
        | false => rfl
        | true => have := hg.huge _ hm; omega
      obtain ⟨s1, e1, l1, k1, k2, g1⟩ := chg_one (w := 1) (k := 4) hl hp h hm
      have z1 := p_protect (a := (p : Nat)) (n := 1) hg (b := false)
      rw [if_neg (by decide)] at z1
      have hg1 := good_chg (s := s) (a := (p : Nat)) (n := 1) (v := 3) (w := 1) (k := 4) hg (by decide)
      rw [e1] at z1 hg1
      rw [h, hm] at z
      dsimp only at z1 hg1
      have hm1 : s1.M p = false := by show s1.G _ = _; rw [g1]; exact hm
      obtain ⟨s2, e2, l2, k3, k4, g2⟩ := chg_one (w := 0) (k := 1) l1 hp k1 hm1
      have z2 := p_release (a := (p : Nat)) (n := 1) hg1
      have hg2 := good_chg (s := s1) (a := (p : Nat)) (n := 1) (v := 1) (w := 0) (k := 1) hg1 (by decide)
      rw [e2] at z2 hg2
      dsimp only at z2 hg2
      (refine wuj ?_; repeat' (first | with_reducible refine And.intro ?_ ?_ | intro hsp))
      all_goals exact next_x (p + 1, s2) [] ⟨by dsimp only; omega, hg2, l2, fun j hj => if e : j = p then by rw [e]; exact k3 else ((k4 j e).trans (k2 j e)).trans (h0 j (by dsimp only at hj; omega))⟩ (by first | omega | (dsimp only; omega)) rfl (by exact wkx_Uj)
  · obtain rfl : p = 1024 := by omega
    have z := p_save hg
    rw [save_0 hg h0] at z
    simp only [vsA, stA, List.map_nil] at z
    (refine wuj ?_; repeat' (first | with_reducible refine And.intro ?_ ?_ | intro hsp))
    all_goals first | exact end_bool rfl | exact absurd rfl hsp
end
end Go.Proofs.Ytjlbfijjfjogiaa
