/-
  VmpageLoads.
-/
import Derived.Test.YtjlbfijjfjogiaaWc
import Derived.Test.YtjlbfijjfjogiaaWf
import Derived.Test.YtjlbfijjfjogiaaTj
set_option linter.unusedSimpArgs false
set_option linter.unusedVariables false
namespace Go.Proofs.Ytjlbfijjfjogiaa
open Go Go.Am Go.Pol
/-- A call that makes nothing. -/
structure LocO (f : Nat) (avs : List AV) (r : AV) : Prop where
  out : LocC Try.prog G0 f avs [] 0 fun x h => x = r ∧ h = ⟨[], 0⟩
  pa : ∀ x ∈ avs, Plain x
  pr : Plain r
theorem cx_locO {f nx : Nat} {avs : List AV} {r : AV} {l : List (Nat × AObj)} {K : AV → Hp → Prop} (hc : LocO f avs r) (hk : K r ⟨l, nx⟩) : CallX Try.prog G0 (.fn f [] []) avs ⟨l, nx⟩ K :=
  cx_loc (r' := r) (l1 := []) [] hc.out plainG rfl .nil (by simpa using rnl_plain hc.pa) (by simp) (rn_plain hc.pr) .nil (filtK_nil hk)
section
variable {R : List Rn} {U : List Int} {D : List Dt} {l : List Rl} {C H : Nat → Int}
theorem wwg {p q : Prop} (hq : q) (h : HidP q → p := by (intro hQz; ((repeat' ((try (conv => whnf)); first | (with_reducible first | refine run_cons ?_ | refine runq_cons ?_ | refine code_seq ?_ | refine code_reg ?_ | refine code_cond ?_ | refine run_nil ?_ | refine runq_nil ?_ | refine rund_op rfl ?_ | refine rund_nil ?_ | refine code_block ?_ | refine code_skip ?_ | refine code_exit ?_ | refine code_ret ?_ | refine code_range ?_ | refine rund_fast (by decide +kernel) ?_ | refine rund_slow (by decide +kernel) ?_ | refine br_tt ?_ | refine br_ff ?_ | refine br_n ?_ | refine br_and ?_ | refine br_or ?_ | refine br_t (by assumption) ?_ | refine br_f (by assumption) ?_ | refine eq_i64 (by omega) ?_ | refine el_tn ?_) | ((with_reducible refine br_dt ?_ ?_); focus omega) | ((with_reducible refine br_df ?_ ?_); focus omega) | ((with_reducible apply br_dq hQz) <;> (try intro hsp hQz)) | ((with_reducible refine ck_x ?_ ?_); focus (first | omega | rfl | assumption | decide | (simp only [List.length_map, List.length_cons, List.length_nil]; omega))) | (with_reducible first | refine eq_tn ?_ | refine eq_tn1 ?_ | refine eq_tn2 ?_ | refine eq_m1 ?_ | refine eq_m2 ?_ | refine eq_zm ?_ | refine eq_z ?_ | refine len_map ?_ | refine len_sl ?_ | refine len_nils ?_ | refine len_own' ?_ | refine len_isl ?_ | refine eq_u8 (by omega) ?_ | refine eq_u16 (by omega) ?_) | refine eq_of (by with_reducible assumption) ?_ | (with_reducible first | refine eq_rfl ?_ | refine ChkX.mk (by kernel_rfl) ?_ | refine code_d (by decide +kernel) ?_ | refine end_go rfl ?_) | refine cx_locN (by assumption) ?_ | refine cx_locO (by assumption) ?_ | refine dcx_locS (by assumption) rfl rfl ?_ | refine cx_locS (by assumption) rfl (by omega) ?_ | refine cx_pureS (by assumption) ?_ | refine dcx_pureS (by assumption) ?_ | refine len_map ?_ | refine len_isl ?_ | refine el_of rfl rfl ?_ | refine del_own ?_ | refine del_own' rfl ?_ | refine as_go rfl ?_ | refine rd_go rfl ?_ | refine rg_end rfl ?_ | refine flat_ownX ?_ | refine EqLX.mk ?_ | ((with_reducible apply br_bq hQz) <;> (try intro hsp hQz)) | exact hQz.out)) <;> (try (conv => whnf))))) : p := h ⟨hq⟩
set_option maxHeartbeats 1600000 in
theorem k_loads (hcn : (⟨R, U, D, l, C, H⟩ : Vs).cn) (hwf : ∀ r, r ∈ R → W64 r.p ∧ W64 r.n ∧ W64 r.k) : PureS 3 [.agg (vsA ⟨R, U, D, l, C, H⟩)] (.bool true) := by
  have zs := k_shown
  refine PureS.mk (pure_x hmix b3 plainG ⟨plain_vs, trivial⟩ plain_bool rfl ?_)
  unfold c3
  simp only [vsA, stA]
  by_cases hbig : 1100 < R.length ∨ 1100 < U.length ∨ 1100 < D.length ∨ 60 < l.length
  · (refine wwg ?_; repeat' (first | with_reducible refine And.intro ?_ ?_ | intro hsp))
    all_goals first | exact end_bool rfl | (exfalso; omega)
  by_cases he : chkS l C H = 0
  case neg =>
    have z1 := p_load_no (R := R) (U := U) (D := D) he
    have z2 := q_load_no (R := R) (U := U) (D := D) he
    simp only [vsA, stA] at z1 z2
    (refine wwg ?_; repeat' (first | with_reducible refine And.intro ?_ ?_ | intro hsp))
    all_goals first | exact end_bool rfl | (exfalso; omega) | exact end_bool (by first | (simp; done) | fail) | exact absurd rfl hsp
  have h1 := p_loadC he hwf (by omega) (U := U) (by omega) (D := D) (by omega)
  have h2 := q_loadC he hcn (by omega) (by omega) (by omega)
  cases ho : ldP ⟨R, U, D, l, C, H⟩ with
  | none =>
    rw [ho] at h1 h2
    have z1 := LocO.mk h1 (plain_1 plain_vs) (plain_tup (plain_2 plain_nilp plain_int))
    have z2 := LocO.mk h2 (plain_1 plain_vs) (plain_tup (plain_2 plain_nilp plain_int))
    simp only [vsA, stA] at z1 z2
    (refine wwg ?_; repeat' (first | with_reducible refine And.intro ?_ ?_ | intro hsp))
    all_goals first | exact end_bool rfl | (exfalso; omega) | exact end_bool (by first | (simp; done) | fail) | exact absurd rfl hsp
  | some s =>
    rw [ho] at h1 h2
    have z1 : LocN 12 [.agg (vsA ⟨R, U, D, l, C, H⟩)] 0 s.a := LocN.mk h1 a_plain (plain_1 plain_vs)
    have z2 : LocN 13 [.agg (vsA ⟨R, U, D, l, C, H⟩)] 0 s.b := LocN.mk h2 b_plain (plain_1 plain_vs)
    obtain ⟨hpg, hsv⟩ := ldP_ok hcn ho
    have hg : GoodS s := by
      refine ⟨?_, hpg.kind, hpg.huge, hpg.zero, hpg.cK, hpg.cB⟩
      have e1 : s.l = l := congrArg Vs.l hsv
      have e2 : s.C = C := congrArg Vs.C hsv
      have e3 : s.H = H := congrArg Vs.H hsv
      rw [e1, e2, e3]; exact he
    have z3 := p_save hg
    rw [hsv] at z3
    have z4 := r_same (x := ⟨R, U, D, l, C, H⟩) (y := ⟨R, U, D, l, C, H⟩) (by dsimp only; omega) (by dsimp only; omega) (by dsimp only; omega) (by dsimp only; omega) (b := true) ⟨fun _ => sameV_rfl, fun _ => rfl⟩
    simp only [vsA, stA] at z1 z2 z3 z4
    (refine wwg ?_; repeat' (first | with_reducible refine And.intro ?_ ?_ | intro hsp))
    all_goals first | exact end_bool rfl | (exfalso; omega) | exact end_bool (by first | (simp; done) | fail) | exact absurd rfl hsp
end
end Go.Proofs.Ytjlbfijjfjogiaa
