/-
  VmpagePlays.
-/
import Derived.Test.YtjlbfijjfjogiaaWc
import Derived.Test.YtjlbfijjfjogiaaTky
import Derived.Test.YtjlbfijjfjogiaaTj
import Derived.Test.YtjlbfijjfjogiaaVmI
set_option linter.unusedSimpArgs false
set_option linter.unusedVariables false
namespace Go.Proofs.Ytjlbfijjfjogiaa
open Go Go.Am Go.Pol
section
variable {p : List Rl} {l : List Ac} {x : Ac} {s : Sy} {cs cs' : List AV}
/-- The step that saves and loads. -/
structure LocV (x : Ac) (cs cs' : List AV) : Prop where
  out : LocC Try.prog G0 23 [.ptr 0 0, .ptr 1 0, .agg (acA x)] [(0, .cells cs), (1, .cells cs')] 2 fun v h => v = .tup [.ptr 2 0, .bool true] ∧ h = ⟨[(0, .cells cs), (1, .cells cs'), (2, .cells cs)], 3⟩
  pc : ∀ x ∈ cs, Plain x
  pc' : ∀ x ∈ cs', Plain x
theorem end_v {top : Bool} {h : Hp} {v : AV} {ds ds' : List AV} (hv : v = .tup [.ptr 3 0, .bool true]) (h0 : lk h.l 0 = some (.cells ds)) (h1 : lk h.l 1 = some (.cells ds')) (h2 : lk h.l 3 = some (.cells ds)) (pd : ∀ x ∈ ds, Plain x) (pd' : ∀ x ∈ ds', Plain x) :
    EndX top Try.prog 2 h v (fun r' h' => r' = .tup [.ptr 2 0, .bool true] ∧ h' = ⟨[(0, .cells ds), (1, .cells ds'), (2, .cells ds)], 3⟩) := by
  subst hv
  have hs : SubH (rn [(2, 3)]) h ⟨[(0, .cells ds), (1, .cells ds'), (2, .cells ds)], 3⟩ := fun j o hj => by
    simp only [lk] at hj
    split at hj
    · rename_i e; subst e; exact ⟨_, h0⟩
    · split at hj
      · rename_i e; subst e; exact ⟨_, h1⟩
      · split at hj
        · rename_i e; subst e; exact ⟨_, h2⟩
        · cases hj
  exact end_loc [(2, 3)] rfl (by decide) (oneOf_of rfl) (wk_tup (wkl_cons (wk_ptr rfl (show 2 < 3 by decide)) (wkl_cons (wk_bool rfl) wkl_nil))) (wko_plain hs (show 0 < 3 by decide) h0 rfl pd (wko_plain hs (show 1 < 3 by decide) h1 rfl pd' (wko_plain hs (show 2 < 3 by decide) h2 rfl pd wko_nil))) ⟨rfl, rfl⟩
theorem cx_v {a b nx : Nat} {l : List (Nat × AObj)} {K : AV → Hp → Prop} (hc : LocV x cs cs')
    (hl0 : lk l a = some (.cells cs)) (hl1 : lk l b = some (.cells cs')) (hd : nodB [a, b] = true) (hlt : a < nx ∧ b < nx)
    (hk : filtK [a, b] l fun l2 => K (.tup [.ptr nx 0, .bool true]) ⟨[(a, .cells cs), (b, .cells cs'), (nx, .cells cs)] ++ l2, nx + 1⟩) : CallX Try.prog G0 (.fn 23 [] []) [.ptr a 0, .ptr b 0, .agg (acA x)] ⟨l, nx⟩ K := by
  have e0 : enter [a, b] a 0 := rfl
  have e1 : enter [a, b] b 1 := rfl
  have k0 : back [a, b] nx 0 a := rfl
  have k1 : back [a, b] nx 1 b := rfl
  have k2 : back [a, b] nx 2 nx := rfl
  refine cx_loc (r' := .tup [.ptr nx 0, .bool true]) (l1 := [(a, .cells cs), (b, .cells cs'), (nx, .cells cs)]) [a, b] hc.out plainG hd (.cons e0 hl0 (rnl_plain hc.pc) (.cons e1 hl1 (rnl_plain hc.pc') .nil))
    ?_ (by intro x hx; simp only [List.mem_cons, List.not_mem_nil, or_false] at hx; omega) (rn_tup ⟨rn_ptr k2, rn_plain plain_bool, trivial⟩)
    (.cons k0 (rnl_plain hc.pc) (.cons k1 (rnl_plain hc.pc') (.cons k2 (rnl_plain hc.pc) .nil))) hk
  simp only [List.nil_append, List.append_nil]
  exact ⟨rn_ptr e0, rn_ptr e1, rn_plain plain_ac, trivial⟩
theorem same_self (hg : GoodS s) : PureS 14 [.agg (vsA s.save), .agg (vsA s.save)] (.bool true) := r_same (Nat.le_trans runs_len (by decide)) (Nat.le_trans huge_len (by decide)) (Nat.le_trans data_len (by decide)) (by have := (chkS_ok hg.hv).2.1; show s.l.length ≤ _; omega) (b := true) ⟨fun _ => sameV_rfl, fun _ => rfl⟩
theorem wkx_We {p : Prop} (h : p := by (refine weak_s (by exact oneOf_of rfl) (by exact subH_of rfl) (by intro hs; (repeat' ((try (conv => whnf)); first | with_reducible exact True.intro | with_reducible refine And.intro ?_ ?_ | (with_reducible refine WkX.mk ?_; first | exact wk_undef | exact wk_int (by first | rfl | omega | (dsimp only; omega)) | exact wk_bool rfl | exact wk_ptr rfl (by first | decide | simp | omega) | exact wk_sl rfl (by first | decide | simp | omega) (by first | rfl | omega | simp) (by first | omega | simp) (by first | omega | simp) | exact wk_own rfl (by first | decide | simp | omega) | exact wk_nil0 (by first | rfl | simp) | exact wk_slown rfl (by first | decide | omega | (simp; done)) (by first | omega | (simp; done)) (by first | rfl | omega | (simp; done) | (simp; omega)) | exact wk_plain hs (by (first | assumption | exact plain_int | exact plain_bool | exact plain_undef | exact plain_nils | exact plain_nilp | exact plain_nilf | exact plain_str | with_reducible apply plain_rl | with_reducible apply plain_rls | with_reducible apply plain_pl | with_reducible apply plain_ii | with_reducible apply plain_st | with_reducible apply plain_stE | with_reducible apply plain_ac | with_reducible apply plain_acs | with_reducible apply plain_isls rlA_plain | with_reducible apply plain_vs)) | (with_reducible refine wk_fn ?_ ?_ <;> repeat' (first | with_reducible exact wkl_nil | with_reducible refine wkl_cons ?_ ?_ | exact wk_ptr rfl (by first | decide | simp | omega))) | (with_reducible refine wk_agg ?_; repeat' (first | with_reducible exact wkl_nil | with_reducible refine wkl_cons ?_ ?_ | exact wk_int (by first | rfl | omega | (dsimp only; omega)) | exact wk_bool rfl)) | exact wk_yld rfl (by first | decide | simp | omega))))) (by intro hs; (try dsimp only); (repeat' (first | with_reducible exact wko_nil | refine wko_plain hs (by first | decide | omega | simp) rfl (by first | rfl) (by (first | with_reducible assumption | with_reducible apply rlA_plain _ | with_reducible apply plain_flat rlA_plain | with_reducible apply stA_plain | with_reducible apply memT_plain | with_reducible apply b_plain | with_reducible apply a_plain | with_reducible apply plain_acl | with_reducible apply plain_5 | with_reducible apply plain_4 | with_reducible apply plain_map (fun _ => plain_int) | with_reducible apply plain_map (fun _ => plain_bool) | ((repeat' (first | exact plain_all0 | refine plain_all2 ?_ ?_ | exact plain_int | first | assumption | exact plain_int | exact plain_bool | exact plain_undef | exact plain_nils | exact plain_nilp | exact plain_nilf | exact plain_str | with_reducible apply plain_rl | with_reducible apply plain_rls | with_reducible apply plain_pl | with_reducible apply plain_ii | with_reducible apply plain_st | with_reducible apply plain_stE | with_reducible apply plain_ac | with_reducible apply plain_acs | with_reducible apply plain_isls rlA_plain | with_reducible apply plain_vs)); done) | ((refine plain_app ?_ ?_) <;> (first | with_reducible assumption | with_reducible apply rlA_plain _ | with_reducible apply plain_flat rlA_plain | with_reducible apply stA_plain | with_reducible apply memT_plain | with_reducible apply b_plain | with_reducible apply a_plain | with_reducible apply plain_acl | with_reducible apply plain_5 | with_reducible apply plain_4 | with_reducible apply plain_map (fun _ => plain_int) | with_reducible apply plain_map (fun _ => plain_bool) | ((repeat' (first | exact plain_all0 | refine plain_all2 ?_ ?_ | exact plain_int | first | assumption | exact plain_int | exact plain_bool | exact plain_undef | exact plain_nils | exact plain_nilp | exact plain_nilf | exact plain_str | with_reducible apply plain_rl | with_reducible apply plain_rls | with_reducible apply plain_pl | with_reducible apply plain_ii | with_reducible apply plain_st | with_reducible apply plain_stE | with_reducible apply plain_ac | with_reducible apply plain_acs | with_reducible apply plain_isls rlA_plain | with_reducible apply plain_vs)); done))))) ?_ | refine wko_cells (by first | decide | omega | simp) rfl (by repeat' (first | with_reducible exact wkl_nil | with_reducible refine wkl_cons ?_ ?_ | (first | exact wk_undef | exact wk_int (by first | rfl | omega | (dsimp only; omega)) | exact wk_bool rfl | exact wk_ptr rfl (by first | decide | simp | omega) | exact wk_sl rfl (by first | decide | simp | omega) (by first | rfl | omega | simp) (by first | omega | simp) (by first | omega | simp) | exact wk_own rfl (by first | decide | simp | omega) | exact wk_nil0 (by first | rfl | simp) | exact wk_slown rfl (by first | decide | omega | (simp; done)) (by first | omega | (simp; done)) (by first | rfl | omega | (simp; done) | (simp; omega)) | exact wk_plain hs (by (first | assumption | exact plain_int | exact plain_bool | exact plain_undef | exact plain_nils | exact plain_nilp | exact plain_nilf | exact plain_str | with_reducible apply plain_rl | with_reducible apply plain_rls | with_reducible apply plain_pl | with_reducible apply plain_ii | with_reducible apply plain_st | with_reducible apply plain_stE | with_reducible apply plain_ac | with_reducible apply plain_acs | with_reducible apply plain_isls rlA_plain | with_reducible apply plain_vs)) | (with_reducible refine wk_fn ?_ ?_ <;> repeat' (first | with_reducible exact wkl_nil | with_reducible refine wkl_cons ?_ ?_ | exact wk_ptr rfl (by first | decide | simp | omega))) | (with_reducible refine wk_agg ?_; repeat' (first | with_reducible exact wkl_nil | with_reducible refine wkl_cons ?_ ?_ | exact wk_int (by first | rfl | omega | (dsimp only; omega)) | exact wk_bool rfl)) | exact wk_yld rfl (by first | decide | simp | omega)))) ?_ | refine wko_loop (by first | decide | omega | simp) rfl (by ((try subst hF); (try subst hF2); exact wkl_sd (wkf_sget (by (repeat' ((try (conv => whnf)); first | with_reducible exact True.intro | with_reducible refine And.intro ?_ ?_ | (with_reducible refine WkX.mk ?_; first | exact wk_undef | exact wk_int (by first | rfl | omega | (dsimp only; omega)) | exact wk_bool rfl | exact wk_ptr rfl (by first | decide | simp | omega) | exact wk_sl rfl (by first | decide | simp | omega) (by first | rfl | omega | simp) (by first | omega | simp) (by first | omega | simp) | exact wk_own rfl (by first | decide | simp | omega) | exact wk_nil0 (by first | rfl | simp) | exact wk_slown rfl (by first | decide | omega | (simp; done)) (by first | omega | (simp; done)) (by first | rfl | omega | (simp; done) | (simp; omega)) | exact wk_plain hs (by (first | assumption | exact plain_int | exact plain_bool | exact plain_undef | exact plain_nils | exact plain_nilp | exact plain_nilf | exact plain_str | with_reducible apply plain_rl | with_reducible apply plain_rls | with_reducible apply plain_pl | with_reducible apply plain_ii | with_reducible apply plain_st | with_reducible apply plain_stE | with_reducible apply plain_ac | with_reducible apply plain_acs | with_reducible apply plain_isls rlA_plain | with_reducible apply plain_vs)) | (with_reducible refine wk_fn ?_ ?_ <;> repeat' (first | with_reducible exact wkl_nil | with_reducible refine wkl_cons ?_ ?_ | exact wk_ptr rfl (by first | decide | simp | omega))) | (with_reducible refine wk_agg ?_; repeat' (first | with_reducible exact wkl_nil | with_reducible refine wkl_cons ?_ ?_ | exact wk_int (by first | rfl | omega | (dsimp only; omega)) | exact wk_bool rfl)) | exact wk_yld rfl (by first | decide | simp | omega)))))))) ?_ | exact wko_nil))))) : p := h
theorem wwe {p q : Prop} (hq : q) (h : HidP q → p := by (intro hQz; ((repeat' ((try (conv => whnf)); first | (with_reducible first | refine run_cons ?_ | refine runq_cons ?_ | refine code_seq ?_ | refine code_reg ?_ | refine code_cond ?_ | refine run_nil ?_ | refine runq_nil ?_ | refine rund_op rfl ?_ | refine rund_nil ?_ | refine code_block ?_ | refine code_skip ?_ | refine code_exit ?_ | refine code_ret ?_ | refine code_range ?_ | refine rund_fast (by decide +kernel) ?_ | refine rund_slow (by decide +kernel) ?_ | refine br_tt ?_ | refine br_ff ?_ | refine br_n ?_ | refine br_and ?_ | refine br_or ?_ | refine br_t (by assumption) ?_ | refine br_f (by assumption) ?_ | refine eq_i64 (by omega) ?_ | refine el_tn ?_) | ((with_reducible refine br_dt ?_ ?_); focus omega) | ((with_reducible refine br_df ?_ ?_); focus omega) | ((with_reducible apply br_dq hQz) <;> (try intro hsp hQz)) | ((with_reducible refine ck_x ?_ ?_); focus (first | omega | rfl | assumption | decide | (simp only [List.length_map, List.length_cons, List.length_nil]; omega))) | (with_reducible first | refine eq_tn ?_ | refine eq_tn1 ?_ | refine eq_tn2 ?_ | refine eq_m1 ?_ | refine eq_m2 ?_ | refine eq_zm ?_ | refine eq_z ?_ | refine len_map ?_ | refine len_sl ?_ | refine len_nils ?_ | refine len_own' ?_ | refine len_isl ?_ | refine eq_u8 (by omega) ?_ | refine eq_u16 (by omega) ?_) | refine eq_of (by with_reducible assumption) ?_ | refine el_row ac_len (by first | assumption | omega) (by with_reducible assumption) ?_ | (with_reducible first | refine eq_rfl ?_ | refine ChkX.mk (by kernel_rfl) ?_ | refine code_q rfl ?_ | refine code_d (by decide +kernel) ?_ | refine end_go rfl ?_) | refine cx_locN (by assumption) ?_ | refine cx_locS (by assumption) rfl (by omega) ?_ | refine cx_pureS (by assumption) ?_ | refine cx_u hU rfl rfl rfl (by omega) ?_ | refine cx_v hV rfl rfl rfl (by omega) ?_ | refine len_map ?_ | refine len_isl ?_ | refine el_of rfl rfl ?_ | refine del_own ?_ | refine del_own' rfl ?_ | refine as_go rfl ?_ | refine rd_go rfl ?_ | refine rg_end rfl ?_ | refine flat_ownX ?_ | refine EqLX.mk ?_ | ((with_reducible apply br_bq hQz) <;> (try intro hsp hQz)) | exact hQz.out)) <;> (try (conv => whnf))))) : p := h ⟨hq⟩
set_option maxHeartbeats 1600000 in
theorem p_step17 (hg : GoodS s) (h17 : x.w % 19 = 17) : LocV x s.a s.b := by
  have z1 := p_save hg
  have z2 := q_save hg
  have z3 := p_load hg
  have z4 := same_self hg
  have hk : ((x.w : Nat) : Int).tmod 19 = 17 := tm19 h17
  refine LocV.mk (loc_x hmix b23 rfl ?_) a_plain b_plain
  unfold c23 acA
  generalize vsA s.save = v at *
  generalize s.a = sa at *
  (refine wwe ?_; repeat' (first | with_reducible refine And.intro ?_ ?_ | intro hsp))
  all_goals first | exact end_v rfl rfl rfl rfl z1.pc b_plain | (exfalso; omega) | trace_state
set_option maxHeartbeats 1600000 in
theorem k_plays : PureS 5 [.agg [.isl (p.map rlA)], .isl (l.map acA)] (.bool true) := by
  have zs := k_shown
  refine PureS.mk (pure_x hmix b5 plainG ⟨plain_pl, plain_acs, trivial⟩ plain_bool rfl ?_)
  unfold c5
  by_cases h60 : 60 < l.length
  · (refine wwe ?_; repeat' (first | with_reducible refine And.intro ?_ ?_ | intro hsp))
    all_goals first | exact end_bool rfl | (exfalso; omega)
  obtain ⟨lb, zl⟩ := long_ex p (l := l) (by omega)
  cases lb with
  | true =>
    (refine wwe ?_; repeat' (first | with_reducible refine And.intro ?_ ?_ | intro hsp))
    all_goals first | exact end_bool rfl | (exfalso; omega)
  | false =>
  obtain ⟨i, e, hc⟩ : ∃ i e, chkP p = (i, e) := ⟨_, _, rfl⟩
  by_cases he : e = 0
  case neg =>
    have z := p_new_no hc he
    have z' := q_new_no hc he
    (refine wwe ?_; repeat' (first | with_reducible refine And.intro ?_ ?_ | intro hsp))
    all_goals first | exact end_bool rfl | (exfalso; omega) | exact end_bool (by first | (simp; done) | fail) | exact absurd rfl hsp
  subst he
  have z := p_new hc
  have z' := q_new hc
  (refine wwe ?_; repeat' (first | with_reducible refine And.intro ?_ ?_ | intro hsp))
  all_goals first | (exfalso; omega) | skip
  (refine loop_x [1, 7] (fun (q : Nat × Sy) => [(5, .ptr 1 0), (9, .int .i64 (q.1 : Nat))]) (fun (q : Nat × Sy) => ⟨[(1, .cells q.2.a), (2, .cells q.2.b)], 3⟩) (fun (q : Nat × Sy) => q.1 ≤ l.length ∧ GoodS q.2) (fun (q : Nat × Sy) => l.length - q.1) ((0, Sy.new p)) [] rfl (fun _ => by first | exact Nat.zero_le _ | (dsimp only; omega)) ?_ (by ((try (conv => whnf)); exact wkx_We)) ?_)
  · exact ⟨Nat.zero_le _, good_new (by rw [hc])⟩
  rintro ⟨i, s⟩ ⟨hi, hg⟩
  dsimp only at hi hg ⊢
  by_cases hil : i < l.length
  · obtain ⟨w, q, n, t, v, m, he⟩ : ∃ w q n t v m, nth dA l i = ⟨w, q, n, t, v, m⟩ := ⟨_, _, _, _, _, _, rfl⟩
    have hx : acA (nth dA l i) = [.int .u8 (w : Nat), .int .i64 q, .int .i64 n, .int .i64 t, .int .u8 v, .isl (m.map rlA)] := by rw [he]; rfl
    by_cases h17 : w % 19 = 17
    · have hV := p_step17 (x := ⟨w, q, n, t, v, m⟩) hg h17
      (refine wwe ?_; repeat' (first | with_reducible refine And.intro ?_ ?_ | intro hsp))
      all_goals exact next_x (i + 1, s) [(1, 3)] ⟨by dsimp only; omega, hg⟩ (by first | omega | (dsimp only; omega)) rfl (by exact wkx_We)
    · have hU := p_step hg ⟨w, q, n, t, v, m⟩ h17
      have hgn := good_step (x := ⟨w, q, n, t, v, m⟩) hg
      generalize s.step ⟨w, q, n, t, v, m⟩ = s' at *
      (refine wwe ?_; repeat' (first | with_reducible refine And.intro ?_ ?_ | intro hsp))
      all_goals exact next_x (i + 1, s') [] ⟨by dsimp only; omega, hgn⟩ (by first | omega | (dsimp only; omega)) rfl (by exact wkx_We)
  · obtain rfl : i = l.length := by omega
    have z1 := p_save hg
    have z2 := q_save hg
    have z4 := same_self hg
    generalize vsA s.save = v at *
    (refine wwe ?_; repeat' (first | with_reducible refine And.intro ?_ ?_ | intro hsp))
    all_goals first | exact end_bool rfl | (exfalso; omega)
end
end Go.Proofs.Ytjlbfijjfjogiaa
