/-
  VmpageCounts.
-/
import Derived.Test.YtjlbfijjfjogiaaUh
import Derived.Test.YtjlbfijjfjogiaaUb
set_option linter.unusedSimpArgs false
set_option linter.unusedVariables false
namespace Go.Pol
open Go.Am
def cntQ (G : Nat → Bool) : Nat → Nat
  | 0 => 0
  | n + 1 => cntQ G n + if G (n / 16) = true then 1 else 0
theorem cntQ_le {G : Nat → Bool} : ∀ n, cntQ G n ≤ n
  | 0 => Nat.le_refl _
  | n + 1 => by have := cntQ_le (G := G) n; unfold cntQ; split <;> omega
theorem cntQ_y {G : Nat → Bool} {n : Nat} (h : G (n / 16) = true) : ((cntQ G (n + 1) : Nat) : Int) = (cntQ G n : Nat) + 1 := by
  show ((cntQ G n + (if G (n / 16) = true then 1 else 0) : Nat) : Int) = _; rw [if_pos h]; omega
theorem cntQ_n {G : Nat → Bool} {n : Nat} (h : G (n / 16) = false) : ((cntQ G (n + 1) : Nat) : Int) = (cntQ G n : Nat) := by
  show ((cntQ G n + (if G (n / 16) = true then 1 else 0) : Nat) : Int) = _; rw [if_neg (by rw [h]; simp)]; omega
theorem cntQ_16 {G : Nat → Bool} {g : Nat} : ∀ j, j ≤ 16 → cntQ G (g * 16 + j) = cntQ G (g * 16) + if G g = true then j else 0
  | 0, _ => by split <;> rfl
  | j + 1, h => by
    show cntQ G (g * 16 + j) + (if G ((g * 16 + j) / 16) = true then 1 else 0) = _
    rw [cntQ_16 j (by omega)]
    by_cases h2 : G g = true
    · rw [if_pos h2, if_pos h2, if_pos (by rw [show (g * 16 + j) / 16 = g by omega]; exact h2)]; omega
    · rw [if_neg h2, if_neg h2, if_neg (by rw [show (g * 16 + j) / 16 = g by omega]; exact h2)]
theorem cntQ_G {G : Nat → Bool} : ∀ g, cntQ G (g * 16) = 16 * cntG G g
  | 0 => rfl
  | g + 1 => by
    rw [show (g + 1) * 16 = g * 16 + 16 by omega, cntQ_16 16 (by omega), cntQ_G g]
    show _ = 16 * (cntG G g + (if G g = true then 1 else 0))
    by_cases h : G g = true
    · rw [if_pos h, if_pos h]; omega
    · rw [if_neg h, if_neg h]; rfl
theorem kind_in {s : Sy} {i : Nat} (h : i < 1024) : s.kind (i : Nat) = [.int .i64 (s.K i), .bool (s.M i), .int .i64 0] := by
  unfold Sy.kind
  rw [if_neg (by omega), Int.toNat_natCast]
end Go.Pol
namespace Go.Proofs.Ytjlbfijjfjogiaa
open Go Go.Am Go.Pol
section
variable {p : List Rl} {l : List Ac}
theorem long_ex (p : List Rl) {l : List Ac} (hl : l.length ≤ 1000) : ∃ b, PureS 20 [.agg [.isl (p.map rlA)], .isl (l.map acA)] (.bool b) := by
  by_cases h : 60 < p.length
  · exact ⟨_, k_long_p h⟩
  · by_cases h2 : isLong p l
    · exact ⟨true, k_long ⟨fun _ => h2, fun _ => rfl⟩ hl (by omega)⟩
    · exact ⟨false, k_long ⟨fun e => (by cases e), fun e => absurd e h2⟩ hl (by omega)⟩
theorem made_ex (p : List Rl) {l : List Ac} (hl : l.length ≤ 1000) : PureS 25 [.agg [.isl (p.map rlA)], .isl (l.map acA)] (.tup [.nilp, .bool false]) ∨ ∃ s, GoodS s ∧ LocM 25 [.agg [.isl (p.map rlA)], .isl (l.map acA)] s.a := by
  obtain ⟨i, e, hc⟩ : ∃ i e, chkP p = (i, e) := ⟨_, _, rfl⟩
  by_cases h : e = 0
  · subst h; exact .inr ⟨_, good_run (good_new (by rw [hc])), k_made hc hl⟩
  · exact .inl (k_made_no hc h)
theorem wkx_Ui {p : Prop} (h : p := by (refine weak_s (by exact oneOf_of rfl) (by exact subH_of rfl) (by intro hs; (repeat' ((try (conv => whnf)); first | with_reducible exact True.intro | with_reducible refine And.intro ?_ ?_ | (with_reducible refine WkX.mk ?_; first | exact wk_undef | exact wk_int (by first | rfl | omega | (dsimp only; omega)) | exact wk_bool rfl | exact wk_ptr rfl (by first | decide | simp | omega) | exact wk_sl rfl (by first | decide | simp | omega) (by first | rfl | omega | simp) (by first | omega | simp) (by first | omega | simp) | exact wk_own rfl (by first | decide | simp | omega) | exact wk_nil0 (by first | rfl | simp) | exact wk_slown rfl (by first | decide | omega | (simp; done)) (by first | omega | (simp; done)) (by first | rfl | omega | (simp; done) | (simp; omega)) | exact wk_plain hs (by (first | assumption | exact plain_int | exact plain_bool | exact plain_undef | exact plain_nils | exact plain_nilp | exact plain_nilf | exact plain_str | with_reducible apply plain_rl | with_reducible apply plain_rls | with_reducible apply plain_pl | with_reducible apply plain_ii | with_reducible apply plain_st | with_reducible apply plain_stE | with_reducible apply plain_ac | with_reducible apply plain_acs | with_reducible apply plain_isls rlA_plain)) | (with_reducible refine wk_fn ?_ ?_ <;> repeat' (first | with_reducible exact wkl_nil | with_reducible refine wkl_cons ?_ ?_ | exact wk_ptr rfl (by first | decide | simp | omega))) | (with_reducible refine wk_agg ?_; repeat' (first | with_reducible exact wkl_nil | with_reducible refine wkl_cons ?_ ?_ | exact wk_int (by first | rfl | omega | (dsimp only; omega)) | exact wk_bool rfl)) | exact wk_yld rfl (by first | decide | simp | omega))))) (by intro hs; (try dsimp only); (repeat' (first | with_reducible exact wko_nil | refine wko_plain hs (by first | decide | omega | simp) rfl (by first | rfl) (by (first | with_reducible assumption | with_reducible apply rlA_plain _ | with_reducible apply plain_flat rlA_plain | with_reducible apply stA_plain | with_reducible apply memT_plain | with_reducible apply b_plain | with_reducible apply a_plain | with_reducible apply plain_acl | with_reducible apply plain_5 | with_reducible apply plain_4 | with_reducible apply plain_map (fun _ => plain_int) | with_reducible apply plain_map (fun _ => plain_bool) | ((repeat' (first | exact plain_all0 | refine plain_all2 ?_ ?_ | exact plain_int | first | assumption | exact plain_int | exact plain_bool | exact plain_undef | exact plain_nils | exact plain_nilp | exact plain_nilf | exact plain_str | with_reducible apply plain_rl | with_reducible apply plain_rls | with_reducible apply plain_pl | with_reducible apply plain_ii | with_reducible apply plain_st | with_reducible apply plain_stE | with_reducible apply plain_ac | with_reducible apply plain_acs | with_reducible apply plain_isls rlA_plain)); done) | ((refine plain_app ?_ ?_) <;> (first | with_reducible assumption | with_reducible apply rlA_plain _ | with_reducible apply plain_flat rlA_plain | with_reducible apply stA_plain | with_reducible apply memT_plain | with_reducible apply b_plain | with_reducible apply a_plain | with_reducible apply plain_acl | with_reducible apply plain_5 | with_reducible apply plain_4 | with_reducible apply plain_map (fun _ => plain_int) | with_reducible apply plain_map (fun _ => plain_bool) | ((repeat' (first | exact plain_all0 | refine plain_all2 ?_ ?_ | exact plain_int | first | assumption | exact plain_int | exact plain_bool | exact plain_undef | exact plain_nils | exact plain_nilp | exact plain_nilf | exact plain_str | with_reducible apply plain_rl | with_reducible apply plain_rls | with_reducible apply plain_pl | with_reducible apply plain_ii | with_reducible apply plain_st | with_reducible apply plain_stE | with_reducible apply plain_ac | with_reducible apply plain_acs | with_reducible apply plain_isls rlA_plain)); done))))) ?_ | refine wko_cells (by first | decide | omega | simp) rfl (by repeat' (first | with_reducible exact wkl_nil | with_reducible refine wkl_cons ?_ ?_ | (first | exact wk_undef | exact wk_int (by first | rfl | omega | (dsimp only; omega)) | exact wk_bool rfl | exact wk_ptr rfl (by first | decide | simp | omega) | exact wk_sl rfl (by first | decide | simp | omega) (by first | rfl | omega | simp) (by first | omega | simp) (by first | omega | simp) | exact wk_own rfl (by first | decide | simp | omega) | exact wk_nil0 (by first | rfl | simp) | exact wk_slown rfl (by first | decide | omega | (simp; done)) (by first | omega | (simp; done)) (by first | rfl | omega | (simp; done) | (simp; omega)) | exact wk_plain hs (by (first | assumption | exact plain_int | exact plain_bool | exact plain_undef | exact plain_nils | exact plain_nilp | exact plain_nilf | exact plain_str | with_reducible apply plain_rl | with_reducible apply plain_rls | with_reducible apply plain_pl | with_reducible apply plain_ii | with_reducible apply plain_st | with_reducible apply plain_stE | with_reducible apply plain_ac | with_reducible apply plain_acs | with_reducible apply plain_isls rlA_plain)) | (with_reducible refine wk_fn ?_ ?_ <;> repeat' (first | with_reducible exact wkl_nil | with_reducible refine wkl_cons ?_ ?_ | exact wk_ptr rfl (by first | decide | simp | omega))) | (with_reducible refine wk_agg ?_; repeat' (first | with_reducible exact wkl_nil | with_reducible refine wkl_cons ?_ ?_ | exact wk_int (by first | rfl | omega | (dsimp only; omega)) | exact wk_bool rfl)) | exact wk_yld rfl (by first | decide | simp | omega)))) ?_ | refine wko_loop (by first | decide | omega | simp) rfl (by ((try subst hF); (try subst hF2); exact wkl_sd (wkf_sget (by (repeat' ((try (conv => whnf)); first | with_reducible exact True.intro | with_reducible refine And.intro ?_ ?_ | (with_reducible refine WkX.mk ?_; first | exact wk_undef | exact wk_int (by first | rfl | omega | (dsimp only; omega)) | exact wk_bool rfl | exact wk_ptr rfl (by first | decide | simp | omega) | exact wk_sl rfl (by first | decide | simp | omega) (by first | rfl | omega | simp) (by first | omega | simp) (by first | omega | simp) | exact wk_own rfl (by first | decide | simp | omega) | exact wk_nil0 (by first | rfl | simp) | exact wk_slown rfl (by first | decide | omega | (simp; done)) (by first | omega | (simp; done)) (by first | rfl | omega | (simp; done) | (simp; omega)) | exact wk_plain hs (by (first | assumption | exact plain_int | exact plain_bool | exact plain_undef | exact plain_nils | exact plain_nilp | exact plain_nilf | exact plain_str | with_reducible apply plain_rl | with_reducible apply plain_rls | with_reducible apply plain_pl | with_reducible apply plain_ii | with_reducible apply plain_st | with_reducible apply plain_stE | with_reducible apply plain_ac | with_reducible apply plain_acs | with_reducible apply plain_isls rlA_plain)) | (with_reducible refine wk_fn ?_ ?_ <;> repeat' (first | with_reducible exact wkl_nil | with_reducible refine wkl_cons ?_ ?_ | exact wk_ptr rfl (by first | decide | simp | omega))) | (with_reducible refine wk_agg ?_; repeat' (first | with_reducible exact wkl_nil | with_reducible refine wkl_cons ?_ ?_ | exact wk_int (by first | rfl | omega | (dsimp only; omega)) | exact wk_bool rfl)) | exact wk_yld rfl (by first | decide | simp | omega)))))))) ?_ | exact wko_nil))))) : p := h
theorem wui {p q : Prop} (hq : q) (h : HidP q → p := by (intro hQz; ((repeat' ((try (conv => whnf)); first | (with_reducible first | refine run_cons ?_ | refine runq_cons ?_ | refine code_seq ?_ | refine code_reg ?_ | refine code_cond ?_ | refine run_nil ?_ | refine runq_nil ?_ | refine rund_op rfl ?_ | refine rund_nil ?_ | refine code_block ?_ | refine code_skip ?_ | refine code_exit ?_ | refine code_ret ?_ | refine code_range ?_ | refine rund_fast (by decide +kernel) ?_ | refine rund_slow (by decide +kernel) ?_ | refine br_tt ?_ | refine br_ff ?_ | refine br_n ?_ | refine br_and ?_ | refine br_or ?_ | refine br_t (by assumption) ?_ | refine br_f (by assumption) ?_ | refine eq_i64 (by omega) ?_ | refine el_tn ?_) | ((with_reducible refine br_dt ?_ ?_); focus omega) | ((with_reducible refine br_df ?_ ?_); focus omega) | ((with_reducible apply br_dq hQz) <;> (try intro hsp hQz)) | ((with_reducible refine ck_x ?_ ?_); focus (first | omega | rfl | assumption | decide | (simp only [List.length_map, List.length_cons, List.length_nil]; omega))) | (with_reducible first | refine eq_tn ?_ | refine eq_tn1 ?_ | refine eq_tn2 ?_ | refine eq_m1 ?_ | refine eq_m2 ?_ | refine eq_zm ?_ | refine eq_z ?_ | refine len_map ?_ | refine len_sl ?_ | refine len_nils ?_ | refine len_own' ?_ | refine len_isl ?_ | refine eq_u8 (by omega) ?_ | refine eq_u16 (by omega) ?_) | refine eq_of (by with_reducible assumption) ?_ | refine eqlx_of (by with_reducible assumption) ?_ | (with_reducible first | refine eq_rfl ?_ | refine ChkX.mk (by kernel_rfl) ?_ | refine code_q rfl ?_ | refine code_d (by decide +kernel) ?_ | refine end_go rfl ?_) | refine cx_locM (by assumption) ?_ | refine cx_locS (by assumption) rfl (by omega) ?_ | refine cx_pureS (by assumption) ?_ | refine len_map ?_ | refine len_isl ?_ | refine el_of rfl rfl ?_ | refine del_own ?_ | refine del_own' rfl ?_ | refine as_go rfl ?_ | refine rd_go rfl ?_ | refine rg_end rfl ?_ | refine flat_ownX ?_ | refine EqLX.mk ?_ | ((with_reducible apply br_bq hQz) <;> (try intro hsp hQz)) | exact hQz.out)) <;> (try (conv => whnf))))) : p := h ⟨hq⟩
set_option maxHeartbeats 1600000 in
theorem k_countsLaw : PureS 8 [.agg [.isl (p.map rlA)], .isl (l.map acA)] (.bool true) := by
  have zs := k_shown
  refine PureS.mk (pure_x hmix b8 plainG ⟨plain_pl, plain_acs, trivial⟩ plain_bool rfl ?_)
  unfold c8
  by_cases h40 : 40 < l.length
  · (refine wui ?_; repeat' (first | with_reducible refine And.intro ?_ ?_ | intro hsp))
    all_goals first | exact end_bool rfl | (exfalso; omega)
  obtain ⟨b, zl⟩ := long_ex p (l := l) (by omega)
  cases b with
  | true =>
    (refine wui ?_; repeat' (first | with_reducible refine And.intro ?_ ?_ | intro hsp))
    all_goals first | exact end_bool rfl | (exfalso; omega)
  | false =>
  rcases made_ex p (l := l) (by omega) with zm | ⟨s, hg, zm⟩
  · (refine wui ?_; repeat' (first | with_reducible refine And.intro ?_ ?_ | intro hsp))
    all_goals first | exact end_bool rfl | (exfalso; omega)
  (refine wui ?_; repeat' (first | with_reducible refine And.intro ?_ ?_ | intro hsp))
  all_goals first | (exfalso; omega) | skip
  (refine loop_x [5, 7] (fun (i : Nat) => [(8, .int .i64 (cntQ s.G i : Nat)), (9, .int .i64 (i : Nat))]) (fun (i : Nat) => ⟨[(1, .cells s.a), (2, .cells [.int .i64 (cntK s.K 0 i : Nat), .int .i64 (cntK s.K 1 i : Nat), .int .i64 (cntK s.K 2 i : Nat), .int .i64 (cntK s.K 3 i : Nat)])], 3⟩) (fun (i : Nat) => i ≤ 1024) (fun (i : Nat) => 1024 - i) (0) [] rfl (fun _ => by first | exact Nat.zero_le _ | (dsimp only; omega)) ?_ (by ((try (conv => whnf)); (rw [show cntQ s.G 0 = 0 from rfl]); exact wkx_Ui)) ?_)
  · exact Nat.zero_le _
  rintro i hi
  have c0 := cntK_le (K := s.K) (v := 0) i
  have c1 := cntK_le (K := s.K) (v := 1) i
  have c2 := cntK_le (K := s.K) (v := 2) i
  have c3 := cntK_le (K := s.K) (v := 3) i
  have c4 := cntQ_le (G := s.G) i
  by_cases hin : i < 1024
  · have z := p_kind (s := s) (a := (i : Nat))
    rw [kind_in hin] at z
    have hkk := hg.kind i
    have key : s.K i = 0 ∨ s.K i = 1 ∨ s.K i = 2 ∨ s.K i = 3 := by omega
    cases hm : s.M i with
    | false =>
      have e4 := cntQ_n (G := s.G) (n := i) hm
      rw [hm] at z
      rcases key with h | h | h | h
      · rw [h] at z
        (refine wui ?_; repeat' (first | with_reducible refine And.intro ?_ ?_ | intro hsp))
        all_goals exact next_x (i + 1) [] (by (try dsimp only); omega) (by first | omega | (dsimp only; omega)) rfl (by ((try dsimp only); rw [e4, cntK_y h, cntK_n (v := 1) (by omega), cntK_n (v := 2) (by omega), cntK_n (v := 3) (by omega)]); exact wkx_Ui)
      · rw [h] at z
        (refine wui ?_; repeat' (first | with_reducible refine And.intro ?_ ?_ | intro hsp))
        all_goals exact next_x (i + 1) [] (by (try dsimp only); omega) (by first | omega | (dsimp only; omega)) rfl (by ((try dsimp only); rw [e4, cntK_y h, cntK_n (v := 0) (by omega), cntK_n (v := 2) (by omega), cntK_n (v := 3) (by omega)]); exact wkx_Ui)
      · rw [h] at z
        (refine wui ?_; repeat' (first | with_reducible refine And.intro ?_ ?_ | intro hsp))
        all_goals exact next_x (i + 1) [] (by (try dsimp only); omega) (by first | omega | (dsimp only; omega)) rfl (by ((try dsimp only); rw [e4, cntK_y h, cntK_n (v := 1) (by omega), cntK_n (v := 0) (by omega), cntK_n (v := 3) (by omega)]); exact wkx_Ui)
      · rw [h] at z
        (refine wui ?_; repeat' (first | with_reducible refine And.intro ?_ ?_ | intro hsp))
        all_goals exact next_x (i + 1) [] (by (try dsimp only); omega) (by first | omega | (dsimp only; omega)) rfl (by ((try dsimp only); rw [e4, cntK_y h, cntK_n (v := 1) (by omega), cntK_n (v := 2) (by omega), cntK_n (v := 0) (by omega)]); exact wkx_Ui)
    | true =>
      have e4 := cntQ_y (G := s.G) (n := i) hm
      have h := hg.huge i hm
      rw [hm, h] at z
      (refine wui ?_; repeat' (first | with_reducible refine And.intro ?_ ?_ | intro hsp))
      all_goals exact next_x (i + 1) [] (by (try dsimp only); omega) (by first | omega | (dsimp only; omega)) rfl (by ((try dsimp only); rw [e4, cntK_y h, cntK_n (v := 1) (by omega), cntK_n (v := 0) (by omega), cntK_n (v := 3) (by omega)]); exact wkx_Ui)
  · obtain rfl : i = 1024 := by omega
    have e : cntQ s.G 1024 = 16 * cntG s.G 64 := cntQ_G (G := s.G) 64
    have cg := cntG_le (G := s.G) 64
    have z := p_counts hg
    unfold Sy.counts at z
    have he := eq5 (c0 := (cntK s.K 0 1024 : Nat)) (c1 := (cntK s.K 1 1024 : Nat)) (c2 := (cntK s.K 2 1024 : Nat)) (c3 := (cntK s.K 3 1024 : Nat)) (c4 := (cntG s.G 64 : Nat))
    generalize cntK s.K 0 1024 = k0 at *
    generalize cntK s.K 1 1024 = k1 at *
    generalize cntK s.K 2 1024 = k2 at *
    generalize cntK s.K 3 1024 = k3 at *
    generalize cntG s.G 64 = g at *
    generalize cntQ s.G 1024 = m at *
    have hq : IntKind.i64.wrap (((m : Nat) : Int).tdiv 16) = ((g : Nat) : Int) := by rw [quo16 (by omega)]; omega
    have hr : ((m : Nat) : Int).tmod 16 = 0 := by rw [Int.tmod_eq_emod_of_nonneg (by omega)]; omega
    (refine wui ?_; repeat' (first | with_reducible refine And.intro ?_ ?_ | intro hsp))
    all_goals first | exact end_bool rfl | exact end_bool (by first | (simp; done) | fail) | trace_state
end
end Go.Proofs.Ytjlbfijjfjogiaa
