/-
  VmpageRefuses.
-/
import Derived.Test.YtjlbfijjfjogiaaWc
set_option linter.unusedSimpArgs false
set_option linter.unusedVariables false
namespace Go.Pol
open Go.Am
theorem plan_free {s : Sy} : s.plan [] = (0, s.free) := rfl
theorem kds_get {d k : Nat} (h : kds[d]? = some k) : (AV.int .i64 0 :: .int .i64 0 :: .int .i64 1 :: .int .i64 2 :: .int .i64 2 :: .int .i64 2 :: .int .i64 3 :: .int .i64 3 :: .int .i64 4 :: .int .i64 4 :: .int .i64 5 :: .int .i64 5 :: .int .i64 6 :: List.replicate 0 (AV.int .i64 0))[d]? = some (.int .i64 (k : Nat)) := by
  have e : (AV.int .i64 0 :: .int .i64 0 :: .int .i64 1 :: .int .i64 2 :: .int .i64 2 :: .int .i64 2 :: .int .i64 3 :: .int .i64 3 :: .int .i64 4 :: .int .i64 4 :: .int .i64 5 :: .int .i64 5 :: .int .i64 6 :: List.replicate 0 (AV.int .i64 0)) = kds.map fun k => AV.int .i64 (k : Nat) := rfl
  rw [e, List.getElem?_map, h]; rfl
end Go.Pol
namespace Go.Proofs.Ytjlbfijjfjogiaa
open Go Go.Am Go.Pol
section
variable {p : List Rl} {l : List Ac} {x : Ac}
theorem wwd {p q : Prop} (hq : q) (h : HidP q → p := by (intro hQz; ((repeat' ((try (conv => whnf)); first | (with_reducible first | refine run_cons ?_ | refine runq_cons ?_ | refine code_seq ?_ | refine code_reg ?_ | refine code_cond ?_ | refine run_nil ?_ | refine runq_nil ?_ | refine rund_op rfl ?_ | refine rund_nil ?_ | refine code_block ?_ | refine code_skip ?_ | refine code_exit ?_ | refine code_ret ?_ | refine code_range ?_ | refine rund_fast (by decide +kernel) ?_ | refine rund_slow (by decide +kernel) ?_ | refine br_tt ?_ | refine br_ff ?_ | refine br_n ?_ | refine br_and ?_ | refine br_or ?_ | refine br_t (by assumption) ?_ | refine br_f (by assumption) ?_ | refine eq_i64 (by omega) ?_ | refine el_tn ?_) | ((with_reducible refine br_dt ?_ ?_); focus omega) | ((with_reducible refine br_df ?_ ?_); focus omega) | ((with_reducible apply br_dq hQz) <;> (try intro hsp hQz)) | ((with_reducible refine ck_x ?_ ?_); focus (first | omega | rfl | assumption | decide | (simp only [List.length_map, List.length_cons, List.length_nil]; omega))) | (with_reducible first | refine eq_tn ?_ | refine eq_tn1 ?_ | refine eq_tn2 ?_ | refine eq_m1 ?_ | refine eq_m2 ?_ | refine eq_zm ?_ | refine eq_z ?_ | refine len_map ?_ | refine len_sl ?_ | refine len_nils ?_ | refine len_own' ?_ | refine len_isl ?_ | refine eq_u8 (by omega) ?_ | refine eq_u16 (by omega) ?_) | refine nthK_of (by with_reducible assumption) ?_ | refine eq_of (by with_reducible assumption) ?_ | refine eqlx_of (by with_reducible assumption) ?_ | refine app_some (appV_none6 (by first | assumption | fail) rfl (Nat.zero_le _)) ?_ | refine app_some (appV_sl src_ac rfl rfl (by omega) (by omega)) ?_ | refine app_some (appV_sl (src_of rfl rfl) rfl (by first | rfl | (simp [flat_len ac_len]; done) | fail) (by omega) (by omega)) ?_ | (with_reducible first | refine eq_rfl ?_ | refine ChkX.mk (by kernel_rfl) ?_ | refine code_d (by decide +kernel) ?_ | refine end_go rfl ?_) | refine cx_locM (by assumption) ?_ | refine cx_locN (by assumption) ?_ | refine cx_locS (by assumption) rfl (by omega) ?_ | refine cx_long zl rfl (by first | (simp [flat, acA]; done) | fail) (by first | (simp; done) | fail) ?_ | refine cx_locS hC rfl (by omega) ?_ | refine cx_locS hC2 rfl (by omega) ?_ | refine cx_pureS (by assumption) ?_ | refine dcx_pureS (by assumption) ?_ | refine len_map ?_ | refine len_isl ?_ | refine el_of rfl rfl ?_ | refine del_own ?_ | refine del_own' rfl ?_ | refine as_go rfl ?_ | refine rd_go rfl ?_ | refine rg_end rfl ?_ | refine flat_ownX ?_ | refine EqLX.mk ?_ | ((with_reducible apply br_bq hQz) <;> (try intro hsp hQz)) | exact hQz.out)) <;> (try (conv => whnf))))) : p := h ⟨hq⟩
set_option maxHeartbeats 1600000 in
set_option maxRecDepth 20000 in
theorem k_refuses : PureS 9 [.agg [.isl (p.map rlA)], .isl (l.map acA), .agg (acA x)] (.bool true) := by
  have zs := k_shown
  refine PureS.mk (pure_x hmix b9 plainG ⟨plain_pl, plain_acs, plain_ac, trivial⟩ plain_bool rfl ?_)
  unfold c9
  by_cases h30 : 30 < l.length
  · (refine wwd ?_; repeat' (first | with_reducible refine And.intro ?_ ?_ | intro hsp))
    all_goals first | exact end_bool rfl | (exfalso; omega)
  have ex : AV.agg (acA x) = .agg [.int .u8 (x.w : Nat), .int .i64 x.p, .int .i64 x.n, .int .i64 x.t, .int .u8 x.b, .isl (x.l.map rlA)] := rfl
  rw [ex]
  obtain ⟨d, hd⟩ : ∃ d, x.w % 19 = d := ⟨_, rfl⟩
  have hdm : ((x.w : Nat) : Int).tmod 19 = ((d : Nat) : Int) := tm19 hd
  have hd19 : d < 19 := by omega
  obtain ⟨b, zl⟩ := long_ex p (l := l ++ [x]) (by simp; omega)
  cases b with
  | true =>
    by_cases hl0 : l.length = 0
    · obtain rfl := List.eq_nil_of_length_eq_zero hl0
      (refine wwd ?_; repeat' (first | with_reducible refine And.intro ?_ ?_ | intro hsp))
      all_goals first | exact end_bool rfl | (exfalso; omega)
    · (refine wwd ?_; repeat' (first | with_reducible refine And.intro ?_ ?_ | intro hsp))
      all_goals first | exact end_bool rfl | (exfalso; omega)
  | false =>
  by_cases hd12 : 12 < d
  · by_cases hl0 : l.length = 0
    · obtain rfl := List.eq_nil_of_length_eq_zero hl0
      (refine wwd ?_; repeat' (first | with_reducible refine And.intro ?_ ?_ | intro hsp))
      all_goals first | exact end_bool rfl | (exfalso; omega)
    · (refine wwd ?_; repeat' (first | with_reducible refine And.intro ?_ ?_ | intro hsp))
      all_goals first | exact end_bool rfl | (exfalso; omega)
  rcases made_ex p (l := l) (by omega) with zm | ⟨s, hg, zm⟩
  · by_cases hl0 : l.length = 0
    · obtain rfl := List.eq_nil_of_length_eq_zero hl0
      (refine wwd ?_; repeat' (first | with_reducible refine And.intro ?_ ?_ | intro hsp))
      all_goals first | exact end_bool rfl | (exfalso; omega)
    · (refine wwd ?_; repeat' (first | with_reducible refine And.intro ?_ ?_ | intro hsp))
      all_goals first | exact end_bool rfl | (exfalso; omega)
  have z1 := p_save hg
  have zL := p_load hg
  have zp := n_plan s
  rw [plan_free] at zp
  have hgf : GoodS s.free := good_plan (l := []) hg
  have hC := p_call hgf x
  have hC2 := p_call hg x
  have hgc := good_call (x := x) hg
  obtain ⟨k, hk7, hkd, hfree⟩ := call_free (s := s) x (by omega)
  rw [hd] at hkd
  have hkg := kds_get hkd
  have hlen := (chkS_ok hg.hv).2.1
  have hCk := (chkS_ok hg.hv).2.2 k hk7
  unfold okK at hCk
  generalize (s.free.call x).2 = f1 at *
  rcases hfree with ⟨e, he, h1, h2⟩ | ⟨h1, ⟨h3, h2⟩ | ⟨h3, s', h2, hl', hC', hH'⟩⟩
  · rw [h1] at hC
    rw [h2] at hC2
    have zq := r_sameSt (l := s.l) (C := s.C) (H := s.H) (m := s.l) (C' := s.C) (H' := s.H) (by omega) (b := true) ⟨fun _ => ⟨rfl, rfl, rfl⟩, fun _ => rfl⟩
    simp only [Sy.save, vsA, stA] at z1 zL zq
    dsimp only at hC2 zp
    by_cases hl0 : l.length = 0
    · obtain rfl := List.eq_nil_of_length_eq_zero hl0
      (refine wwd ?_; repeat' (first | with_reducible refine And.intro ?_ ?_ | intro hsp))
      all_goals first | exact end_bool rfl | (exfalso; omega) | (exfalso; simp at hsp; done) | trace_state
    · (refine wwd ?_; repeat' (first | with_reducible refine And.intro ?_ ?_ | intro hsp))
      all_goals first | exact end_bool rfl | (exfalso; omega) | (exfalso; simp at hsp; done) | trace_state
  · rw [h1] at hC
    rw [h2] at hC2
    have hlt := isR_lt h3
    have zn := r_nextS hg.hv hk7 hlt
    have e1 : C1 s.C k = updI s.C k (s.C k + 1) := if_pos hlt
    have e2 : H1 s.l s.C s.H k = (if refL s.l (k : Nat) (s.C k + 1) then updI s.H k (s.H k + 1) else s.H) := if_pos hlt
    have e3 : isR s.l s.C k = refL s.l (k : Nat) (s.C k + 1) := if_pos hlt
    rw [← e2, ← e1, ← e3, h3] at zn
    have z2 := p_save (good_ref (k := k) hg)
    have zq := r_sameSt (l := s.l) (C := C1 s.C k) (H := H1 s.l s.C s.H k) (m := s.l) (C' := C1 s.C k) (H' := H1 s.l s.C s.H k) (by omega) (b := true) ⟨fun _ => ⟨rfl, rfl, rfl⟩, fun _ => rfl⟩
    clear e1 e2 e3
    unfold Sy.ref at z2 hC2
    generalize C1 s.C k = c1 at *
    generalize H1 s.l s.C s.H k = h1 at *
    simp only [Sy.save, vsA, stA] at z1 z2 zL zq zn
    dsimp only at hC2 zp
    by_cases hl0 : l.length = 0
    · obtain rfl := List.eq_nil_of_length_eq_zero hl0
      (refine wwd ?_; repeat' (first | with_reducible refine And.intro ?_ ?_ | intro hsp))
      all_goals first | exact end_bool rfl | (exfalso; omega) | (exfalso; simp at hsp; done) | trace_state
    · (refine wwd ?_; repeat' (first | with_reducible refine And.intro ?_ ?_ | intro hsp))
      all_goals first | exact end_bool rfl | (exfalso; omega) | (exfalso; simp at hsp; done) | trace_state
  · rw [h1] at hC
    rw [h2] at hC2 hgc
    dsimp only at hC2 hgc zp
    have z2 := p_save hgc
    by_cases hlt : s.C k < 1000000
    · have zn := r_nextS hg.hv hk7 hlt
      have e1 : C1 s.C k = updI s.C k (s.C k + 1) := if_pos hlt
      have e2 : H1 s.l s.C s.H k = (if refL s.l (k : Nat) (s.C k + 1) then updI s.H k (s.H k + 1) else s.H) := if_pos hlt
      have e3 : isR s.l s.C k = refL s.l (k : Nat) (s.C k + 1) := if_pos hlt
      rw [← e2, ← e1, ← e3, h3] at zn
      have zq := r_sameSt (l := s.l) (C := C1 s.C k) (H := H1 s.l s.C s.H k) (m := s.l) (C' := C1 s.C k) (H' := H1 s.l s.C s.H k) (by omega) (b := true) ⟨fun _ => ⟨rfl, rfl, rfl⟩, fun _ => rfl⟩
      clear e1 e2 e3
      simp only [Sy.save, vsA, stA] at z1 z2 zL
      rw [hl', hC', hH'] at z2
      generalize C1 s.C k = c1 at *
      generalize H1 s.l s.C s.H k = h1 at *
      simp only [stA] at zq zn
      by_cases hl0 : l.length = 0
      · obtain rfl := List.eq_nil_of_length_eq_zero hl0
        (refine wwd ?_; repeat' (first | with_reducible refine And.intro ?_ ?_ | intro hsp))
        all_goals first | exact end_bool rfl | (exfalso; omega) | (exfalso; simp at hsp; done) | trace_state
      · (refine wwd ?_; repeat' (first | with_reducible refine And.intro ?_ ?_ | intro hsp))
        all_goals first | exact end_bool rfl | (exfalso; omega) | (exfalso; simp at hsp; done) | trace_state
    · have zn := r_nextF hg.hv hk7 (by omega)
      simp only [Sy.save, vsA, stA] at z1 z2 zL zn
      by_cases hl0 : l.length = 0
      · obtain rfl := List.eq_nil_of_length_eq_zero hl0
        (refine wwd ?_; repeat' (first | with_reducible refine And.intro ?_ ?_ | intro hsp))
        all_goals first | exact end_bool rfl | (exfalso; omega) | (exfalso; simp at hsp; done) | trace_state
      · (refine wwd ?_; repeat' (first | with_reducible refine And.intro ?_ ?_ | intro hsp))
        all_goals first | exact end_bool rfl | (exfalso; omega) | (exfalso; simp at hsp; done) | trace_state
end
end Go.Proofs.Ytjlbfijjfjogiaa
