/-
  Save of the program.
-/
import Derived.Test.YtjlbfijjfjogiaaAmWt
import Derived.Test.YtjlbfijjfjogiaaVmF
set_option linter.unusedSimpArgs false
set_option linter.unusedVariables false
namespace Go.Proofs.Ytjlbfijjfjogiaa
open Go Go.Am Go.Pol
theorem wkx_Tj {p : Prop} (h : p := by (refine weak_t (by rfl) (by rfl) (tl_cons inA_plain (by rfl) (fun hz => by first | exact absurd rfl hz | (simp [lk, rn, lk_own, lk_ownS hz, lk_ownE hz]; done) | rfl) (tl_cons dtA_plain (by rfl) (fun hz => by first | exact absurd rfl hz | (simp [lk, rn, lk_own, lk_ownS hz, lk_ownE hz]; done) | rfl) tl_nil)) (by intro hs; (repeat' ((try (conv => whnf)); first | with_reducible exact True.intro | with_reducible refine And.intro ?_ ?_ | (with_reducible refine WkX.mk ?_; first | exact wk_undef | exact wk_int (by first | rfl | omega | (dsimp only; omega)) | exact wk_bool rfl | exact wk_ptr rfl (by first | decide | simp | omega) | exact wk_sl rfl (by first | decide | simp | omega) (by first | rfl | omega | simp) (by first | omega | simp) (by first | omega | simp) | exact wk_own rfl (by first | decide | simp | omega) | exact wk_nil0 (by first | rfl | simp) | exact wk_slown rfl (by first | decide | omega | (simp; done)) (by first | omega | (simp; done)) (by first | rfl | omega | (simp; done) | (simp; omega)) | exact wk_plain hs (by (first | assumption | exact plain_int | exact plain_bool | exact plain_undef | exact plain_nils | exact plain_nilp | exact plain_nilf | exact plain_str | with_reducible apply plain_rl | with_reducible apply plain_rls | with_reducible apply plain_pl | with_reducible apply plain_ii | with_reducible apply plain_st | with_reducible apply plain_stE | with_reducible apply plain_zst | with_reducible apply plain_zstE | with_reducible apply plain_irl | with_reducible apply plain_mk | with_reducible apply plain_stB | with_reducible apply plain_zstB | with_reducible apply plain_isls rnA_plain | with_reducible apply plain_isls inA_plain | with_reducible apply plain_isls dtA_plain)) | (with_reducible refine wk_fn ?_ ?_ <;> repeat' (first | with_reducible exact wkl_nil | with_reducible refine wkl_cons ?_ ?_ | exact wk_ptr rfl (by first | decide | simp | omega))) | (with_reducible refine wk_agg ?_; repeat' (first | with_reducible exact wkl_nil | with_reducible refine wkl_cons ?_ ?_ | exact wk_int (by first | rfl | omega | (dsimp only; omega)) | exact wk_bool rfl)) | exact wk_yld rfl (by first | decide | simp | omega))))) (by intro hs; (repeat' (first | with_reducible exact wko_nil | refine wko_plain hs (by first | decide | omega | simp) rfl (by first | rfl) (by (first | with_reducible assumption | with_reducible apply rlA_plain _ | with_reducible apply plain_flat rlA_plain | with_reducible apply plain_flat rnA_plain | with_reducible apply rnA_plain | with_reducible apply stA_plain | with_reducible apply memT_plain | with_reducible apply sys_plain stA_plain | with_reducible apply rfk_plain stA_plain | with_reducible apply b_plain | with_reducible apply a_plain | with_reducible apply plain_map (fun _ => plain_int) | with_reducible apply plain_map (fun _ => plain_bool) | ((repeat' (first | exact plain_all0 | refine plain_all2 ?_ ?_ | exact plain_int | first | assumption | exact plain_int | exact plain_bool | exact plain_undef | exact plain_nils | exact plain_nilp | exact plain_nilf | exact plain_str | with_reducible apply plain_rl | with_reducible apply plain_rls | with_reducible apply plain_pl | with_reducible apply plain_ii | with_reducible apply plain_st | with_reducible apply plain_stE | with_reducible apply plain_zst | with_reducible apply plain_zstE | with_reducible apply plain_irl | with_reducible apply plain_mk | with_reducible apply plain_stB | with_reducible apply plain_zstB | with_reducible apply plain_isls rnA_plain | with_reducible apply plain_isls inA_plain | with_reducible apply plain_isls dtA_plain)); done) | ((refine plain_app ?_ ?_) <;> (first | with_reducible assumption | with_reducible apply rlA_plain _ | with_reducible apply plain_flat rlA_plain | with_reducible apply plain_flat rnA_plain | with_reducible apply rnA_plain | with_reducible apply stA_plain | with_reducible apply memT_plain | with_reducible apply sys_plain stA_plain | with_reducible apply rfk_plain stA_plain | with_reducible apply b_plain | with_reducible apply a_plain | with_reducible apply plain_map (fun _ => plain_int) | with_reducible apply plain_map (fun _ => plain_bool) | ((repeat' (first | exact plain_all0 | refine plain_all2 ?_ ?_ | exact plain_int | first | assumption | exact plain_int | exact plain_bool | exact plain_undef | exact plain_nils | exact plain_nilp | exact plain_nilf | exact plain_str | with_reducible apply plain_rl | with_reducible apply plain_rls | with_reducible apply plain_pl | with_reducible apply plain_ii | with_reducible apply plain_st | with_reducible apply plain_stE | with_reducible apply plain_zst | with_reducible apply plain_zstE | with_reducible apply plain_irl | with_reducible apply plain_mk | with_reducible apply plain_stB | with_reducible apply plain_zstB | with_reducible apply plain_isls rnA_plain | with_reducible apply plain_isls inA_plain | with_reducible apply plain_isls dtA_plain)); done))))) ?_ | refine wko_cells (by first | decide | omega | simp) rfl (by repeat' (first | with_reducible exact wkl_nil | with_reducible refine wkl_cons ?_ ?_ | (first | exact wk_undef | exact wk_int (by first | rfl | omega | (dsimp only; omega)) | exact wk_bool rfl | exact wk_ptr rfl (by first | decide | simp | omega) | exact wk_sl rfl (by first | decide | simp | omega) (by first | rfl | omega | simp) (by first | omega | simp) (by first | omega | simp) | exact wk_own rfl (by first | decide | simp | omega) | exact wk_nil0 (by first | rfl | simp) | exact wk_slown rfl (by first | decide | omega | (simp; done)) (by first | omega | (simp; done)) (by first | rfl | omega | (simp; done) | (simp; omega)) | exact wk_plain hs (by (first | assumption | exact plain_int | exact plain_bool | exact plain_undef | exact plain_nils | exact plain_nilp | exact plain_nilf | exact plain_str | with_reducible apply plain_rl | with_reducible apply plain_rls | with_reducible apply plain_pl | with_reducible apply plain_ii | with_reducible apply plain_st | with_reducible apply plain_stE | with_reducible apply plain_zst | with_reducible apply plain_zstE | with_reducible apply plain_irl | with_reducible apply plain_mk | with_reducible apply plain_stB | with_reducible apply plain_zstB | with_reducible apply plain_isls rnA_plain | with_reducible apply plain_isls inA_plain | with_reducible apply plain_isls dtA_plain)) | (with_reducible refine wk_fn ?_ ?_ <;> repeat' (first | with_reducible exact wkl_nil | with_reducible refine wkl_cons ?_ ?_ | exact wk_ptr rfl (by first | decide | simp | omega))) | (with_reducible refine wk_agg ?_; repeat' (first | with_reducible exact wkl_nil | with_reducible refine wkl_cons ?_ ?_ | exact wk_int (by first | rfl | omega | (dsimp only; omega)) | exact wk_bool rfl)) | exact wk_yld rfl (by first | decide | simp | omega)))) ?_ | refine wko_loop (by first | decide | omega | simp) rfl (by ((try subst hF); (try subst hF2); exact wkl_sd (wkf_sget (by (repeat' ((try (conv => whnf)); first | with_reducible exact True.intro | with_reducible refine And.intro ?_ ?_ | (with_reducible refine WkX.mk ?_; first | exact wk_undef | exact wk_int (by first | rfl | omega | (dsimp only; omega)) | exact wk_bool rfl | exact wk_ptr rfl (by first | decide | simp | omega) | exact wk_sl rfl (by first | decide | simp | omega) (by first | rfl | omega | simp) (by first | omega | simp) (by first | omega | simp) | exact wk_own rfl (by first | decide | simp | omega) | exact wk_nil0 (by first | rfl | simp) | exact wk_slown rfl (by first | decide | omega | (simp; done)) (by first | omega | (simp; done)) (by first | rfl | omega | (simp; done) | (simp; omega)) | exact wk_plain hs (by (first | assumption | exact plain_int | exact plain_bool | exact plain_undef | exact plain_nils | exact plain_nilp | exact plain_nilf | exact plain_str | with_reducible apply plain_rl | with_reducible apply plain_rls | with_reducible apply plain_pl | with_reducible apply plain_ii | with_reducible apply plain_st | with_reducible apply plain_stE | with_reducible apply plain_zst | with_reducible apply plain_zstE | with_reducible apply plain_irl | with_reducible apply plain_mk | with_reducible apply plain_stB | with_reducible apply plain_zstB | with_reducible apply plain_isls rnA_plain | with_reducible apply plain_isls inA_plain | with_reducible apply plain_isls dtA_plain)) | (with_reducible refine wk_fn ?_ ?_ <;> repeat' (first | with_reducible exact wkl_nil | with_reducible refine wkl_cons ?_ ?_ | exact wk_ptr rfl (by first | decide | simp | omega))) | (with_reducible refine wk_agg ?_; repeat' (first | with_reducible exact wkl_nil | with_reducible refine wkl_cons ?_ ?_ | exact wk_int (by first | rfl | omega | (dsimp only; omega)) | exact wk_bool rfl)) | exact wk_yld rfl (by first | decide | simp | omega)))))))) ?_ | exact wko_nil))))) : p := h
theorem wx_Tj {p q : Prop} (hq : q) (h : HidP q → p := by (intro hQz; ((repeat' ((try (conv => whnf)); first | (with_reducible first | refine run_cons ?_ | refine runq_cons ?_ | refine code_seq ?_ | refine code_reg ?_ | refine code_cond ?_ | refine run_nil ?_ | refine runq_nil ?_ | refine rund_op rfl ?_ | refine rund_nil ?_ | refine code_block ?_ | refine code_skip ?_ | refine code_exit ?_ | refine code_ret ?_ | refine code_range ?_ | refine rund_fast (by decide +kernel) ?_ | refine rund_slow (by decide +kernel) ?_ | refine br_tt ?_ | refine br_ff ?_ | refine br_n ?_ | refine br_and ?_ | refine br_or ?_ | refine br_t (by assumption) ?_ | refine br_f (by assumption) ?_ | refine eq_i64 (by omega) ?_ | refine el_tn ?_) | ((with_reducible refine br_dt ?_ ?_); focus omega) | ((with_reducible refine br_df ?_ ?_); focus omega) | ((with_reducible apply br_dq hQz) <;> (try intro hsp hQz)) | ((with_reducible refine ck_x ?_ ?_); focus (first | omega | rfl | assumption | decide | (simp only [List.length_map, List.length_cons, List.length_nil]; omega))) | (with_reducible first | refine eq_tn ?_ | refine eq_tn1 ?_ | refine eq_tn2 ?_ | refine eq_m1 ?_ | refine eq_m2 ?_ | refine eq_zm ?_ | refine eq_z ?_ | refine len_map ?_ | refine len_sl ?_ | refine len_nils ?_ | refine len_own' ?_ | refine len_isl ?_ | refine eq_u8 (by omega) ?_ | refine eq_u16 (by omega) ?_) | (with_reducible first | refine eq_rfl ?_ | refine ChkX.mk (by kernel_rfl) ?_ | refine code_q rfl ?_ | refine code_d (by decide +kernel) ?_ | refine end_go rfl ?_) | refine len_map ?_ | refine len_isl ?_ | refine el_of rfl rfl ?_ | refine del_own ?_ | refine del_own' rfl ?_ | refine as_go rfl ?_ | refine rd_go rfl ?_ | refine rg_end rfl ?_ | refine flat_ownX ?_ | refine EqLX.mk ?_ | ((with_reducible apply br_bq hQz) <;> (try intro hsp hQz)) | exact hQz.out)) <;> (try (conv => whnf))))) : p := h ⟨hq⟩
theorem l_runs : LocC Try.prog G0 49 [.ptr 0 0] [] 1 fun x h => x = .fn 78 [] [.ptr 1 0] ∧ h = ⟨[(1, .cells [.ptr 0 0])], 2⟩ := by
  refine loc_x hmix b49 rfl ?_
  unfold c49
  (refine wx_Tj ?_; repeat' (first | with_reducible refine And.intro ?_ ?_ | intro hsp))
  all_goals exact end_loc [] rfl (by decide) (oneOf_of rfl) (wk_fn wkl_nil (wkl_cons (wk_ptr rfl (show 1 < 2 by decide)) wkl_nil)) (wko_cells (show 1 < 2 by decide) rfl (wkl_cons (wk_ptr rfl (show 0 < 2 by decide)) wkl_nil) wko_nil) ⟨rfl, rfl⟩
theorem dcx_runs {h : Hp} {K : AV → Up → List Nat → Prop} {cs : List AV} (h0 : lk h.l 0 = some (.cells cs)) (hk : K (.fn 78 [] [.ptr h.next 0]) [(h.next, some (.cells [.ptr 0 0]))] [0]) : DCallX Try.prog G0 49 [.ptr 0 0] h K := by
  have e0 : enter [0] 0 0 := rfl
  have k0 : oneMore [0] h.next 0 0 := .inl rfl
  have k1 : oneMore [0] h.next 1 h.next := .inr ⟨rfl, rfl⟩
  exact dcx_new (r' := .fn 78 [] [.ptr h.next 0]) (cs' := [.ptr 0 0]) [0] l_runs plainG (fun n hn => by obtain rfl := List.mem_singleton.1 hn; exact ⟨_, h0⟩) ⟨rn_ptr e0, trivial⟩ (rn_fn trivial ⟨rn_ptr k1, trivial⟩) ⟨rn_ptr k0, trivial⟩ hk
section
variable {K : Nat → Int} {M : Nat → Bool} {B : Nat → Nat → Int} {P : List AV}
theorem dcx_collect {h : Hp} {Q : AV → Up → List Nat → Prop} {b : Nat} (hP : ∀ x ∈ P, Plain x) (hb : Nat.beq b 0 = false) (h0 : lk h.l 0 = some (.cells (sysB K M B P))) (h1 : lk h.l b = some (.cells [.ptr 0 0])) (hk : Q (.isl ((runsTo K 1024).map rnA)) [] [0, b]) : DCallX Try.prog G0 48 [.fn 78 [] [.ptr b 0]] h Q := by
  have hne : b ≠ 0 := beq_ne hb
  have e0 : enter [0, b] 0 0 := rfl
  have e1 : enter [0, b] b 1 := rfl
  refine ⟨_, _, _, fnU_ro (p := enter [0, b]) (g := fun j => [0, b].getD j 0) (l_collect (K := K) (M := M) (B := B) hP) plainG ?_ ⟨rn_fn trivial ⟨rn_ptr e1, trivial⟩, trivial⟩ (rn_plain (plain_isls rnA_plain)), hk⟩
  refine ⟨fun i j hij => ?_, fun i j j' h1 h2 => ?_, fun j o hj => ?_, fun i hi => ?_⟩
  · have hij : [0, b][j]? = some i := hij
    match j, hij with
    | 0, hij => cases hij; exact ⟨by decide, rfl, List.mem_cons_self ..⟩
    | 1, hij => cases hij; exact ⟨by decide, rfl, List.mem_cons_of_mem _ (List.mem_cons_self ..)⟩
  · have h1 : [0, b][j]? = some i := h1
    have h2 : [0, b][j']? = some i := h2
    match j, j', h1, h2 with
    | 0, 0, _, _ => rfl
    | 1, 1, _, _ => rfl
    | 0, 1, h1, h2 => cases h1; cases h2; exact absurd rfl hne
    | 1, 0, h1, h2 => cases h1; cases h2; exact absurd rfl hne
  · simp only [lk] at hj
    split at hj
    · rename_i e; subst e; cases hj; exact ⟨0, _, _, e0, h0, rfl, rnl_plain (sys_plain hP), rnl_plain (sys_plain hP)⟩
    · split at hj
      · rename_i e; subst e; cases hj; exact ⟨b, _, _, e1, h1, rfl, ⟨rn_ptr e0, trivial⟩, ⟨rn_ptr (p := fun j i => enter [0, b] i j) (i := 0) (j := 0) e0, trivial⟩⟩
      · cases hj
  · rcases List.mem_cons.1 hi with rfl | hi
    · exact ⟨0, _, e0, rfl⟩
    · obtain rfl := List.mem_singleton.1 hi; exact ⟨1, _, e1, rfl⟩
end
theorem wtj {p q : Prop} (hq : q) (h : HidP q → p := by (intro hQz; ((repeat' ((try (conv => whnf)); first | (with_reducible first | refine run_cons ?_ | refine runq_cons ?_ | refine code_seq ?_ | refine code_reg ?_ | refine code_cond ?_ | refine run_nil ?_ | refine runq_nil ?_ | refine rund_op rfl ?_ | refine rund_nil ?_ | refine code_block ?_ | refine code_skip ?_ | refine code_exit ?_ | refine code_ret ?_ | refine code_range ?_ | refine rund_fast (by decide +kernel) ?_ | refine rund_slow (by decide +kernel) ?_ | refine br_tt ?_ | refine br_ff ?_ | refine br_n ?_ | refine br_and ?_ | refine br_or ?_ | refine br_t (by assumption) ?_ | refine br_f (by assumption) ?_ | refine eq_i64 (by omega) ?_ | refine el_tn ?_) | ((with_reducible refine br_dt ?_ ?_); focus omega) | ((with_reducible refine br_df ?_ ?_); focus omega) | ((with_reducible apply br_dq hQz) <;> (try intro hsp hQz)) | ((with_reducible refine ck_x ?_ ?_); focus (first | omega | rfl | assumption | decide | (simp only [List.length_map, List.length_cons, List.length_nil]; omega) | (simp only [List.length_cons]; omega))) | (with_reducible first | refine eq_tn ?_ | refine eq_tn1 ?_ | refine eq_tn2 ?_ | refine eq_m1 ?_ | refine eq_m2 ?_ | refine eq_zm ?_ | refine eq_z ?_ | refine len_map ?_ | refine len_sl ?_ | refine len_nils ?_ | refine len_own' ?_ | refine len_isl ?_ | refine eq_u8 (by omega) ?_ | refine eq_u16 (by omega) ?_) | refine nthK_of (by with_reducible assumption) ?_ | refine nthK_of sys_made ?_ | refine eq_of (by with_reducible assumption) ?_ | refine dropK_of (by rw [sys_len]; omega) rfl ?_ | refine takeK_of (by rw [List.length_drop, sys_len]; omega) (by with_reducible assumption) ?_ | refine takeK_of (by omega) (y_take (by with_reducible assumption)) ?_ | refine dropK_of (Nat.zero_le _) y_drop ?_ | refine overK_of (by first | (simp only [List.length_replicate]; omega) | fail) (over_y (by with_reducible assumption)) ?_ | refine overK_of (by first | (simp only [List.length_cons, List.length_nil]; omega) | fail) (over_y1 (by with_reducible assumption)) ?_ | refine eqlx_of (by with_reducible assumption) ?_ | refine del_tS ?_ | refine del_tO rfl ?_ | refine del_n ?_ | (with_reducible first | refine eq_rfl ?_ | refine ChkX.mk (by kernel_rfl) ?_ | refine code_q rfl ?_ | refine code_d (by decide +kernel) ?_ | refine end_go rfl ?_) | refine dcx_collect stA_plain rfl rfl rfl ?_ | refine dcx_runs rfl ?_ | refine cx_pureS (by assumption) ?_ | refine dcx_pureS (by assumption) ?_ | refine qcx_pureS (by assumption) ?_ | (refine cx_in hmix b47 rfl ?_; unfold c47) | refine apps_own (f := inA) (l2 := [((p : Nat) : Int)]) in_len (src_of rfl (by first | rfl | (simp; done) | (simp [*]; done))) (fun hz => by first | (simp [lk, lk_own, lk_ownS hz, lk_ownE hz]; done) | rfl) (fun hz => by first | (simp [lk, lk_own, lk_ownO, lk_tN hz, lk_ownN hz]; done) | rfl) (by first | rfl | (simp [flat, inA]; done) | (simp [flat, inA, *]; done)) (by decide) ⟨by omega, by omega⟩ rfl ?_ | ((with_reducible apply appx_q hQz); intro hQa hQb; refine appx_own (f := inA) (l2 := [((p : Nat) : Int)]) in_len (src_of rfl (by first | rfl | (simp; done) | (simp [*]; done))) (fun hz => by first | (simp [lk, lk_own, lk_ownS hz, lk_ownE hz]; done) | rfl) (by first | rfl | (simp [flat, inA]; done) | (simp [flat, inA, *]; done)) (by decide) ⟨by omega, by omega⟩ ?_ ?_ <;> intro hzz <;> first | (have hQz := HidP.mk (hQa.out hzz)) | (have hQz := HidP.mk (hQb.out hzz))) | refine apps_own (f := dtA) (l2 := [⟨((p : Nat) : Int), s.B p⟩]) dt_len (src_of rfl (by first | rfl | (simp; done) | (simp [*]; done))) (fun hz => by first | (simp [lk, lk_own, lk_ownS hz, lk_ownE hz]; done) | rfl) (fun hz => by first | (simp [lk, lk_own, lk_ownO, lk_tN hz, lk_ownN hz]; done) | rfl) (by first | rfl | (simp [flat, dtA]; done) | (simp [flat, dtA, *]; done)) (by decide) ⟨by omega, by omega⟩ rfl ?_ | ((with_reducible apply appx_q hQz); intro hQa hQb; refine appx_own (f := dtA) (l2 := [⟨((p : Nat) : Int), s.B p⟩]) dt_len (src_of rfl (by first | rfl | (simp; done) | (simp [*]; done))) (fun hz => by first | (simp [lk, lk_own, lk_ownS hz, lk_ownE hz]; done) | rfl) (by first | rfl | (simp [flat, dtA]; done) | (simp [flat, dtA, *]; done)) (by decide) ⟨by omega, by omega⟩ ?_ ?_ <;> intro hzz <;> first | (have hQz := HidP.mk (hQa.out hzz)) | (have hQz := HidP.mk (hQb.out hzz))) | refine len_map ?_ | refine len_isl ?_ | refine el_of rfl rfl ?_ | refine del_own ?_ | refine del_own' rfl ?_ | refine as_go rfl ?_ | refine rd_go rfl ?_ | refine rg_end rfl ?_ | refine flat_ownX ?_ | refine EqLX.mk ?_ | ((with_reducible apply br_bq hQz) <;> (try intro hsp hQz)) | exact hQz.out)) <;> (try (conv => whnf))))) : p := h ⟨hq⟩
section
variable {s : Sy}
set_option maxHeartbeats 800000 in
theorem p_save (hg : GoodS s) : LocS 15 [] s.a (.agg (vsA s.save)) s.a := by
  refine LocS.mk (loc_x hmix b15 rfl ?_) a_plain a_plain (fun x hx => by cases hx) plain_vs
  unfold c15
  unfold Sy.a
  obtain ⟨o, ho⟩ : ∃ o, o = 67585 := ⟨_, rfl⟩
  rw [← ho]
  have hst := sys_planO (K := s.K) (M := s.M) (B := s.B) ho (stA_len (l := s.l) (C := s.C) (H := s.H))
  have hru := sys_rules (K := s.K) (M := s.M) (B := s.B) (l := s.l) (C := s.C) (H := s.H) ho
  have z := k_clone (l := s.l) (by have := (chkS_ok hg.hv).2.1; omega)
  (refine wtj ?_; repeat' (first | with_reducible refine And.intro ?_ ?_ | intro hsp))
  (refine loop_x [0, 2] (fun (p : Nat) => [(3, .ptr 2 0), (28, .int .i64 (p : Nat))]) (fun (p : Nat) => ⟨[(0, .cells (sysB s.K s.M s.B (stA s.l s.C s.H))), (1, .cells [.nils, .nils, .nils, .nils, .int .i64 0, .int .i64 0, .int .i64 0, .int .i64 0, .int .i64 0, .int .i64 0, .int .i64 0, .int .i64 0, .int .i64 0, .int .i64 0, .int .i64 0, .int .i64 0, .int .i64 0, .int .i64 0]), (2, .cells [.isl ((runsTo s.K 1024).map rnA), ownV 3 1 (hugeTo s.G p).length, ownV 4 65 (dataTo s.B p).length, .isl (s.l.map rlA), .int .i64 (s.C 0), .int .i64 (s.C 1), .int .i64 (s.C 2), .int .i64 (s.C 3), .int .i64 (s.C 4), .int .i64 (s.C 5), .int .i64 (s.C 6), .int .i64 (s.H 0), .int .i64 (s.H 1), .int .i64 (s.H 2), .int .i64 (s.H 3), .int .i64 (s.H 4), .int .i64 (s.H 5), .int .i64 (s.H 6)])] ++ (ownH 3 inA (hugeTo s.G p) ++ (ownH 4 dtA (dataTo s.B p) ++ [])), 5⟩) (fun (p : Nat) => p ≤ 1024) (fun (p : Nat) => 1024 - p) (0) [(2, 10)] rfl (fun _ => by first | exact Nat.zero_le _ | (dsimp only; omega)) ?_ (by ((try (conv => whnf)); exact wkx_Tj)) ?_)
  · exact Nat.zero_le _
  rintro p hp
  have hL1 := huge_len (G := s.G) (n := p)
  have hL2 := data_len (B := s.B) (n := p)
  by_cases hp4 : p < 1024
  · have z1 := k_first (p : Nat)
    have hh : (sysB s.K s.M s.B (stA s.l s.C s.H))[1 + p * 66 + 1]? = some (.bool (s.M p)) := sys_huge hp4
    have hby := sys_bytes (K := s.K) (M := s.M) (B := s.B) (P := stA s.l s.C s.H) hp4
    have hyl := by_len (s.B p)
    have hyz := eqL_by (s.B p)
    generalize hy : byA (s.B p) = y at hby hyl hyz
    by_cases hz : zeroB (s.B p)
    · have e2 : dataTo s.B (p + 1) = dataTo s.B p := if_pos hz
      by_cases hu : p % 16 = 0 ∧ s.G (p / 16) = true
      · have e1 : hugeTo s.G (p + 1) = hugeTo s.G p ++ [((p : Nat) : Int)] := if_pos hu
        have hf : fst (p : Nat) := ⟨by omega, by omega, by rw [Int.tmod_eq_emod_of_nonneg (by omega)]; omega⟩
        rw [decide_eq_true hf] at z1
        rw [show s.M p = true from hu.2] at hh
        (refine wtj ?_; repeat' (first | with_reducible refine And.intro ?_ ?_ | intro hsp))
        all_goals exact next_x (p + 1) [(3, 6)] (by (try dsimp only); omega) (by first | omega | (dsimp only; omega)) rfl (by ((try dsimp only); rw [e1, e2]); exact wkx_Tj)
      · have e1 : hugeTo s.G (p + 1) = hugeTo s.G p := if_neg hu
        by_cases hf : fst (p : Nat)
        · obtain ⟨g, e, _⟩ := fst_nat hf
          rw [decide_eq_true hf] at z1
          have hm : s.M p = false := by
            cases h : s.G (p / 16) with
            | false => exact h
            | true => exact absurd ⟨by omega, h⟩ hu
          rw [hm] at hh
          (refine wtj ?_; repeat' (first | with_reducible refine And.intro ?_ ?_ | intro hsp))
          all_goals exact next_x (p + 1) [] (by (try dsimp only); omega) (by first | omega | (dsimp only; omega)) rfl (by ((try dsimp only); rw [e1, e2]); exact wkx_Tj)
        · rw [decide_eq_false hf] at z1
          (refine wtj ?_; repeat' (first | with_reducible refine And.intro ?_ ?_ | intro hsp))
          all_goals exact next_x (p + 1) [] (by (try dsimp only); omega) (by first | omega | (dsimp only; omega)) rfl (by ((try dsimp only); rw [e1, e2]); exact wkx_Tj)
    · have e2 : dataTo s.B (p + 1) = dataTo s.B p ++ [⟨((p : Nat) : Int), s.B p⟩] := if_neg hz
      by_cases hu : p % 16 = 0 ∧ s.G (p / 16) = true
      · have e1 : hugeTo s.G (p + 1) = hugeTo s.G p ++ [((p : Nat) : Int)] := if_pos hu
        have hf : fst (p : Nat) := ⟨by omega, by omega, by rw [Int.tmod_eq_emod_of_nonneg (by omega)]; omega⟩
        rw [decide_eq_true hf] at z1
        rw [show s.M p = true from hu.2] at hh
        (refine wtj ?_; repeat' (first | with_reducible refine And.intro ?_ ?_ | intro hsp))
        all_goals exact next_x (p + 1) [(3, 6), (4, 9)] (by (try dsimp only); omega) (by first | omega | (dsimp only; omega)) rfl (by ((try dsimp only); rw [e1, e2]); exact wkx_Tj)
      · have e1 : hugeTo s.G (p + 1) = hugeTo s.G p := if_neg hu
        by_cases hf : fst (p : Nat)
        · obtain ⟨g, e, _⟩ := fst_nat hf
          rw [decide_eq_true hf] at z1
          have hm : s.M p = false := by
            cases h : s.G (p / 16) with
            | false => exact h
            | true => exact absurd ⟨by omega, h⟩ hu
          rw [hm] at hh
          (refine wtj ?_; repeat' (first | with_reducible refine And.intro ?_ ?_ | intro hsp))
          all_goals exact next_x (p + 1) [(4, 7)] (by (try dsimp only); omega) (by first | omega | (dsimp only; omega)) rfl (by ((try dsimp only); rw [e1, e2]); exact wkx_Tj)
        · rw [decide_eq_false hf] at z1
          (refine wtj ?_; repeat' (first | with_reducible refine And.intro ?_ ?_ | intro hsp))
          all_goals exact next_x (p + 1) [(4, 7)] (by (try dsimp only); omega) (by first | omega | (dsimp only; omega)) rfl (by ((try dsimp only); rw [e1, e2]); exact wkx_Tj)
  · obtain rfl : p = 1024 := by omega
    (refine wtj ?_; repeat' (first | with_reducible refine And.intro ?_ ?_ | intro hsp))
    all_goals exact end_save (sys_plain stA_plain)
end
end Go.Proofs.Ytjlbfijjfjogiaa
