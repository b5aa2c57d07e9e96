/-
  LinksTypes: the walk of the law.
-/
import Derived.Test.YtkjimnhmiojcdaaAmWt
import Derived.Test.YtkjimnhmiojcdaaHp
import Derived.Test.YtkjimnhmiojcdaaKp
set_option linter.unusedSimpArgs false
set_option linter.unusedVariables false
namespace Go.Am
theorem el_mapV {α : Type} {f : α → List AV} {l : List α} {j sz : Nat} {K : List AV → Prop} {d x : α} {e : List AV} (hf : ∀ x, (f x).length = sz) (hj : j < l.length) (hx : Go.Pol.nth d l j = x) (he : f x = e) (hk : K e) : ElX (l.map f) j sz K := by subst hx; subst he; exact el_map d hf hj hk
end Go.Am
namespace Go.Pol
open Go.Am
theorem nth_range {n i : Nat} (h : i < n) : nth 0 (List.range n) i = i := by
  rw [nth_get (by simpa using h), List.getElem_range]
theorem plain_thg {b : ByteArray} {v : Int} : Plain (.agg [.str b, .int .i64 v]) := plain_agg fun x hx => by
  simp only [List.mem_cons, List.not_mem_nil, or_false] at hx
  rcases hx with rfl | rfl
  · exact plain_str
  · exact plain_int
theorem plain_ipt {b : Bool} {v : Int} : Plain (.iptr [.int .i64 v, .bool b]) := plain_iptr fun x hx => by
  simp only [List.mem_cons, List.not_mem_nil, or_false] at hx
  rcases hx with rfl | rfl
  · exact plain_int
  · exact plain_bool
theorem plain_iptd {k : Nat} {y : Cl} : Plain (.iptr (List.drop k (callA y))) := plain_iptr fun x hx => plain_callL _ x (List.mem_of_mem_drop hx)
end Go.Pol
namespace Go.Proofs.Ytkjimnhmiojcdaa
open Go Go.Am Go.Pol
theorem wkx_Tw {p : Prop} (h : p := by (refine weak_s (by exact oneOf_of rfl) (by exact subH_of rfl) (by intro hs; (repeat' ((try (conv => whnf)); first | with_reducible exact True.intro | with_reducible refine And.intro ?_ ?_ | (with_reducible refine WkX.mk ?_; first | exact wk_int (by first | rfl | omega | (dsimp only; omega)) | exact wk_bool rfl | exact wk_ptr rfl (by first | decide | omega | simp) | exact wk_sl rfl (by first | decide | omega | simp) (by first | rfl | omega | simp) (by first | omega | simp) (by first | omega | simp) | exact wk_plain hs (by (first | assumption | exact plain_int | exact plain_bool | exact plain_undef | exact plain_nils | exact plain_nilp | exact plain_nilf | exact plain_str | with_reducible apply plain_calls | with_reducible apply plain_stateLk | with_reducible apply plain_callI | with_reducible apply plain_callA _ | with_reducible apply Th.plain_stateV | with_reducible apply Rt.plain_stateV | with_reducible apply Th.plain_vals | with_reducible apply Rt.plain_vals | with_reducible apply plain_il | with_reducible apply plain_hl | with_reducible apply plain_kl)))))) (by intro hs; (try dsimp only); (repeat' (first | with_reducible exact wko_nil | refine wko_plain hs (by first | decide | omega | simp) rfl (by first | rfl) (by (first | with_reducible assumption | with_reducible apply cells_plain | with_reducible apply Th.cells_plain | with_reducible apply Rt.cells_plain | with_reducible apply ends_plain | with_reducible apply of_plain _ _ | with_reducible apply memI_plain _ _ | with_reducible apply plain_map (fun _ => plain_int) | with_reducible apply plain_map (fun _ => plain_bool) | ((repeat' (first | exact plain_all0 | refine plain_all2 ?_ ?_ | exact plain_int | first | assumption | exact plain_int | exact plain_bool | exact plain_undef | exact plain_nils | exact plain_nilp | exact plain_nilf | exact plain_str | with_reducible apply plain_calls | with_reducible apply plain_stateLk | with_reducible apply plain_callI | with_reducible apply plain_callA _ | with_reducible apply Th.plain_stateV | with_reducible apply Rt.plain_stateV | with_reducible apply Th.plain_vals | with_reducible apply Rt.plain_vals | with_reducible apply plain_il | with_reducible apply plain_hl | with_reducible apply plain_kl)); done) | ((refine plain_app ?_ ?_) <;> (first | with_reducible assumption | with_reducible apply cells_plain | with_reducible apply Th.cells_plain | with_reducible apply Rt.cells_plain | with_reducible apply ends_plain | with_reducible apply of_plain _ _ | with_reducible apply memI_plain _ _ | with_reducible apply plain_map (fun _ => plain_int) | with_reducible apply plain_map (fun _ => plain_bool) | ((repeat' (first | exact plain_all0 | refine plain_all2 ?_ ?_ | exact plain_int | first | assumption | exact plain_int | exact plain_bool | exact plain_undef | exact plain_nils | exact plain_nilp | exact plain_nilf | exact plain_str | with_reducible apply plain_calls | with_reducible apply plain_stateLk | with_reducible apply plain_callI | with_reducible apply plain_callA _ | with_reducible apply Th.plain_stateV | with_reducible apply Rt.plain_stateV | with_reducible apply Th.plain_vals | with_reducible apply Rt.plain_vals | with_reducible apply plain_il | with_reducible apply plain_hl | with_reducible apply plain_kl)); done))))) ?_ | refine wko_cells (by first | decide | omega | simp) rfl (by repeat' (first | with_reducible exact wkl_nil | with_reducible refine wkl_cons ?_ ?_ | (first | exact wk_int (by first | rfl | omega | (dsimp only; omega)) | exact wk_bool rfl | exact wk_ptr rfl (by first | decide | omega | simp) | exact wk_sl rfl (by first | decide | omega | simp) (by first | rfl | omega | simp) (by first | omega | simp) (by first | omega | simp) | exact wk_plain hs (by (first | assumption | exact plain_int | exact plain_bool | exact plain_undef | exact plain_nils | exact plain_nilp | exact plain_nilf | exact plain_str | with_reducible apply plain_calls | with_reducible apply plain_stateLk | with_reducible apply plain_callI | with_reducible apply plain_callA _ | with_reducible apply Th.plain_stateV | with_reducible apply Rt.plain_stateV | with_reducible apply Th.plain_vals | with_reducible apply Rt.plain_vals | with_reducible apply plain_il | with_reducible apply plain_hl | with_reducible apply plain_kl))))) ?_ | exact wko_nil))))) : p := h
theorem wx_Tw {p q : Prop} (hq : q) (h : HidP q → p := by (intro hQz; ((repeat' ((try (conv => whnf)); first | (with_reducible first | refine run_cons ?_ | refine runq_cons ?_ | refine code_seq ?_ | refine code_reg ?_ | refine code_cond ?_ | refine run_nil ?_ | refine runq_nil ?_ | refine rund_op rfl ?_ | refine rund_nil ?_ | refine code_block ?_ | refine code_skip ?_ | refine code_exit ?_ | refine code_ret ?_ | refine code_range ?_ | refine rund_fast (by decide +kernel) ?_ | refine rund_slow (by decide +kernel) ?_ | refine br_tt ?_ | refine br_ff ?_ | refine br_n ?_ | refine br_and ?_ | refine br_or ?_ | refine br_t (by assumption) ?_ | refine br_f (by assumption) ?_ | refine eq_i64 (by omega) ?_ | refine el_tn ?_) | ((with_reducible refine br_dt ?_ ?_); focus omega) | ((with_reducible refine br_df ?_ ?_); focus omega) | ((with_reducible apply br_dq hQz) <;> (try intro hsp hQz)) | ((with_reducible refine ck_x ?_ ?_); focus (first | omega | rfl | assumption | decide | (simp only [List.length_map, List.length_cons, List.length_nil]; omega))) | (with_reducible first | refine eq_tn ?_ | refine eq_tn1 ?_ | refine eq_tn2 ?_ | refine eq_m1 ?_ | refine eq_m2 ?_ | refine eq_zm ?_ | refine eq_z ?_ | refine len_map ?_ | refine len_sl ?_ | refine len_nils ?_ | refine len_own' ?_ | refine len_isl ?_ | refine eq_u8 (by omega) ?_ | refine eq_u16 (by omega) ?_) | (with_reducible first | refine eq_rfl ?_ | refine ChkX.mk (by kernel_rfl) ?_ | refine code_q rfl ?_ | refine code_d (by decide +kernel) ?_ | refine end_go rfl ?_) | refine cx_pureS zk ?_ | refine cx_made (m := 3) hn (by omega) (by decide) (by decide) (by omega) hx ?_ | refine Th.cx_new hn (by omega) (by decide) (by decide) ?_ | refine Rt.cx_new hn (by omega) (by decide) (by decide) ?_ | refine len_map ?_ | refine len_isl ?_ | refine el_of rfl rfl ?_ | refine del_own ?_ | refine del_own' rfl ?_ | refine as_go rfl ?_ | refine rd_go rfl ?_ | refine rg_end rfl ?_ | refine flat_ownX ?_ | refine EqLX.mk ?_ | ((with_reducible apply br_bq hQz) <;> (try intro hsp hQz)) | exact hQz.out)) <;> (try (conv => whnf))))) : p := h ⟨hq⟩
theorem wx_Twn {p q : Prop} (hq : q) (h : HidP q → p := by (intro hQz; ((repeat' ((try (conv => whnf)); first | (with_reducible first | refine run_cons ?_ | refine runq_cons ?_ | refine code_seq ?_ | refine code_reg ?_ | refine code_cond ?_ | refine run_nil ?_ | refine runq_nil ?_ | refine rund_op rfl ?_ | refine rund_nil ?_ | refine code_block ?_ | refine code_skip ?_ | refine code_exit ?_ | refine code_ret ?_ | refine code_range ?_ | refine rund_fast (by decide +kernel) ?_ | refine rund_slow (by decide +kernel) ?_ | refine br_tt ?_ | refine br_ff ?_ | refine br_n ?_ | refine br_and ?_ | refine br_or ?_ | refine br_t (by assumption) ?_ | refine br_f (by assumption) ?_ | refine eq_i64 (by omega) ?_ | refine el_tn ?_) | ((with_reducible refine br_dt ?_ ?_); focus omega) | ((with_reducible refine br_df ?_ ?_); focus omega) | ((with_reducible apply br_dq hQz) <;> (try intro hsp hQz)) | ((with_reducible refine ck_x ?_ ?_); focus (first | omega | rfl | assumption | decide | (simp only [List.length_map, List.length_cons, List.length_nil]; omega) | exact hk | exact hlr)) | refine eq_of (hk) ?_ | refine eq_of (hlr) ?_ | (with_reducible first | refine eq_tn ?_ | refine eq_tn1 ?_ | refine eq_tn2 ?_ | refine eq_m1 ?_ | refine eq_m2 ?_ | refine eq_zm ?_ | refine eq_z ?_ | refine len_map ?_ | refine len_sl ?_ | refine len_nils ?_ | refine len_own' ?_ | refine len_isl ?_ | refine eq_u8 (by omega) ?_ | refine eq_u16 (by omega) ?_) | refine el_mapE call_len hil hy ?_ | refine el_mapV (fun _ => rfl) hlk hx1 hvb ?_ | refine el_mapV (fun _ => rfl) hlk hx1 hvc ?_ | refine el_mapV (fun _ => rfl) hlk hx1 hvl ?_ | refine el_mapE (fun _ => rfl) hlk hx1 ?_ | (with_reducible first | refine eq_rfl ?_ | refine ChkX.mk (by kernel_rfl) ?_ | refine code_d (by decide +kernel) ?_ | refine end_go rfl ?_) | refine Th.cx_pool hc4 rfl rfl rfl (by decide) (by first | (simp [plain_int, plain_bool, plain_thg, plain_ipt, plain_iptd]; done) | fail) hp4 rfl ?_ | refine Rt.cx_pool hc5 rfl rfl rfl (by decide) (by first | (simp [plain_int, plain_bool, plain_thg, plain_ipt, plain_iptd]; done) | fail) hp5 rfl ?_ | refine Rt.dcx_pool hc5 rfl rfl rfl (by first | (simp [plain_int, plain_bool, plain_thg, plain_ipt, plain_iptd]; done) | fail) hp5 rfl rfl ?_ | refine cx_pool w0 rfl rfl rfl (by decide) (by first | (simp [plain_int, plain_bool]; done) | fail) hp0 rfl ?_ | refine Th.cx_pool w1 rfl rfl rfl (by decide) (by first | (simp [plain_int, plain_bool]; done) | fail) hp1 rfl ?_ | refine Rt.cx_pool w2 rfl rfl rfl (by decide) (by first | (simp [plain_int, plain_bool]; done) | fail) hp2 rfl ?_ | refine cx_pureS zs ?_ | refine cx_pureS z1 ?_ | refine cx_pureS z2 ?_ | refine cx_pureS z3 ?_ | refine cx_pureS zk ?_ | refine len_map ?_ | refine len_isl ?_ | refine el_of rfl rfl ?_ | refine del_own ?_ | refine del_own' rfl ?_ | refine as_go rfl ?_ | refine rd_go rfl ?_ | refine rg_end rfl ?_ | refine flat_ownX ?_ | refine EqLX.mk ?_ | ((with_reducible apply br_bq hQz) <;> (try intro hsp hQz)) | exact hQz.out)) <;> (try (conv => whnf))))) : p := h ⟨hq⟩
theorem plain_il {n : Nat} {F : Nat → Int} : Plain (.isl ((List.range n).map fun i => [.int .i64 (F i)])) := plain_intsL
theorem plain_hl {n : Nat} {V W : Nat → PV} : Plain (.isl ((List.range n).map fun i => [(V i).1, (W i).1])) := Th.plain_vals
theorem plain_kl {n : Nat} {V : Nat → PV} : Plain (.isl ((List.range n).map fun i => [(V i).1])) := Rt.plain_vals
theorem types_far (a : Int) (l : List Cl) (h : a < 1 ∨ 60 < a ∨ 60 < l.length) : PureC Try.prog G0 3 [.int .i64 a, callsA l] (.bool true) := by
  have zk := PureS.mk k_awake
  refine pure_x hmix b3 plainG ⟨plain_int, plain_calls, trivial⟩ plain_bool rfl ?_
  unfold c3 callsA
  (refine wx_Tw ?_; repeat' (first | with_reducible refine And.intro ?_ ?_ | intro hsp))
  all_goals exact end_bool rfl
theorem rel0 : Th.Rel (fun _ => []) (fun _ => 0) (fun _ => Th.z0) (fun _ => Th.w0) := ⟨fun t ht => by obtain ⟨i, hi⟩ := ht; cases hi⟩
theorem relK : Rt.Rel (fun _ => []) (fun _ => 0) (fun _ => Rt.z0) := ⟨fun t ht => (by obtain ⟨i, hi⟩ := ht; cases hi), fun _ => .inl rfl⟩
set_option maxHeartbeats 8000000 in
theorem types_good (n : Nat) (l : List Cl) (hn : 1 ≤ n) (hn2 : n ≤ 60) (hl : l.length ≤ 60) (hx : ∀ x ∈ l, x.1 < 256) : PureC Try.prog G0 3 [.int .i64 (n : Nat), callsA l] (.bool true) := by
  have zk := PureS.mk k_awake
  refine pure_x hmix b3 plainG ⟨plain_int, plain_calls, trivial⟩ plain_bool rfl ?_
  unfold c3 callsA
  (refine wx_Tw ?_; repeat' (first | with_reducible refine And.intro ?_ ?_ | intro hsp))
  rename_i V Q S hg T hT
  have hTl := hsp
  clear hsp
  (refine wx_Tw ?_; repeat' (first | with_reducible refine And.intro ?_ ?_ | intro hsp))
  (refine loop_x [1] (fun (q : Nat × ((Nat → PV) × (Nat → PV) × PS) × ((Nat → PV) × PS)) => [(5, .ptr 0 0), (7, .ptr 6 0), (9, .ptr 9 0), (11, .int .i64 (q.1 : Nat))]) (fun (q : Nat × ((Nat → PV) × (Nat → PV) × PS) × ((Nat → PV) × PS)) => ⟨bothAt 0 n 3 V Q S ++ Th.poolAt 6 n 3 q.2.1.1 q.2.1.2.1 q.2.1.2.2 ++ Rt.poolAt 9 n 3 q.2.2.1 q.2.2.2, 12⟩) (fun (q : Nat × ((Nat → PV) × (Nat → PV) × PS) × ((Nat → PV) × PS)) => q.1 ≤ l.length ∧ Th.GoodP n 3 q.2.1.1 q.2.1.2.1 (T q.1).2 q.2.1.2.2 ∧ Th.Rel (T q.1).2 (T q.1).1 q.2.1.1 q.2.1.2.1 ∧ Rt.GoodP n 3 q.2.2.1 (T q.1).2 q.2.2.2 ∧ Rt.Rel (T q.1).2 (T q.1).1 q.2.2.1) (fun (q : Nat × ((Nat → PV) × (Nat → PV) × PS) × ((Nat → PV) × PS)) => l.length - q.1) ((0, ((fun _ => Th.z0), (fun _ => Th.w0), S0 n 3), ((fun _ => Rt.z0), S0 n 3))) [] rfl (fun _ => by first | exact Nat.zero_le _ | (dsimp only; omega)) ?_ (by ((try (conv => whnf)); exact wkx_Tw)) ?_)
  · dsimp only
    rw [hT.1]
    exact ⟨Nat.zero_le _, Th.good_0 (by omega) (by omega) (by decide), rel0, Rt.good_0 (by omega) (by omega) (by decide), relK⟩
  rintro ⟨i, ⟨V2, W2, S2⟩, V3, S3⟩ ⟨hi, hg2, hr2, hg3, hr3⟩
  dsimp only at hi hg2 hr2 hg3 hr3 ⊢
  by_cases hil : i < l.length
  · have hst := hT.2 i hil
    have hx8 := hx _ (nth_mem (d := (0, 0, 0, 0, false)) hil)
    unfold stepC at hst
    generalize hy : nth (0, 0, 0, 0, false) l i = y at hst hx8
    obtain ⟨w, s, li, v, b⟩ := y
    dsimp only at hst hx8
    have hk : (w : Int).tmod 10 = ((w % 10 : Nat) : Int) := by rw [Int.tmod_eq_emod_of_nonneg (by omega)]; omega
    have hk9 : w % 10 < 10 := Nat.mod_lt _ (by decide)
    generalize w % 10 = kd at hk hk9 hst
    by_cases h3 : kd = 3
    · rw [show opC kd = 3 by subst h3; rfl] at hst
      obtain ⟨V4, W4, S4, r4, hp4, hg4, hr4, hc4⟩ := Th.f_after hg2 hr2 hst
      obtain ⟨V5, S5, r5, hp5, hg5, hr5, hc5⟩ := Rt.f_after hg3 hr3 hst
      (refine wx_Twn ?_; repeat' (first | with_reducible refine And.intro ?_ ?_ | intro hsp))
      all_goals exact next_x (i + 1, (V4, W4, S4), V5, S5) [] ⟨by dsimp only; omega, hg4, hr4, hg5, hr5⟩ (by first | omega | (dsimp only; omega)) rfl (by exact wkx_Tw)
    by_cases h4 : kd = 4
    · rw [show opC kd = 4 by subst h4; rfl] at hst
      obtain ⟨V4, W4, S4, r4, hp4, hg4, hr4, hc4⟩ := Th.f_take hg2 hr2 hst
      obtain ⟨V5, S5, r5, hp5, hg5, hr5, hc5⟩ := Rt.f_take hg3 hr3 hst
      (refine wx_Twn ?_; repeat' (first | with_reducible refine And.intro ?_ ?_ | intro hsp))
      all_goals exact next_x (i + 1, (V4, W4, S4), V5, S5) [] ⟨by dsimp only; omega, hg4, hr4, hg5, hr5⟩ (by first | omega | (dsimp only; omega)) rfl (by exact wkx_Tw)
    by_cases h5 : kd = 5
    · rw [show opC kd = 5 by subst h5; rfl] at hst
      obtain ⟨V4, W4, S4, r4, hp4, hg4, hr4, hc4⟩ := Th.f_move hg2 hr2 hst
      obtain ⟨V5, S5, r5, hp5, hg5, hr5, hc5⟩ := Rt.f_move hg3 hr3 hst
      (refine wx_Twn ?_; repeat' (first | with_reducible refine And.intro ?_ ?_ | intro hsp))
      all_goals exact next_x (i + 1, (V4, W4, S4), V5, S5) [] ⟨by dsimp only; omega, hg4, hr4, hg5, hr5⟩ (by first | omega | (dsimp only; omega)) rfl (by exact wkx_Tw)
    by_cases h6 : kd = 6
    · rw [show opC kd = 6 by subst h6; rfl] at hst
      obtain ⟨V4, W4, S4, r4, hp4, hg4, hr4, hc4⟩ := Th.f_put hg2 hr2 hst
      obtain ⟨V5, S5, r5, hp5, hg5, hr5, hc5⟩ := Rt.f_put hg3 hr3 hst
      (refine wx_Twn ?_; repeat' (first | with_reducible refine And.intro ?_ ?_ | intro hsp))
      all_goals exact next_x (i + 1, (V4, W4, S4), V5, S5) [] ⟨by dsimp only; omega, hg4, hr4, hg5, hr5⟩ (by first | omega | (dsimp only; omega)) rfl (by exact wkx_Tw)
    by_cases h7 : 7 ≤ kd
    · rw [show opC kd = 7 by unfold opC; rw [if_neg (by omega), if_neg (by omega)]] at hst
      obtain ⟨hv', hq'⟩ := Th.f_look hst
      rw [← hv', ← hq'] at hr2 hr3
      rw [← hq'] at hg2 hg3
      (refine wx_Twn ?_; repeat' (first | with_reducible refine And.intro ?_ ?_ | intro hsp))
      all_goals exact next_x (i + 1, (V2, W2, S2), V3, S3) [] ⟨by dsimp only; omega, hg2, hr2, hg3, hr3⟩ (by first | omega | (dsimp only; omega)) rfl (by exact wkx_Tw)
    rw [show opC kd = 0 by unfold opC; rw [if_pos (by omega)]] at hst
    obtain ⟨V4, W4, S4, r4, hp4, hg4, hr4, hc4⟩ := Th.f_push hg2 hr2 hst
    obtain ⟨V5, S5, r5, hp5, hg5, hr5, hc5⟩ := Rt.f_push hg3 hr3 hst
    (refine wx_Twn ?_; repeat' (first | with_reducible refine And.intro ?_ ?_ | intro hsp))
    all_goals exact next_x (i + 1, (V4, W4, S4), V5, S5) [] ⟨by dsimp only; omega, hg4, hr4, hg5, hr5⟩ (by first | omega | (dsimp only; omega)) rfl (by exact wkx_Tw)
  · obtain rfl : i = l.length := by omega
    rw [hTl] at hg2 hr2 hg3 hr3
    dsimp only at hg2 hr2 hg3 hr3
    obtain ⟨e1, e2⟩ := hg.inv.st.uniq hg2.inv.st
    obtain ⟨e3, e4⟩ := hg.inv.st.uniq hg3.inv.st
    have w0 := p_save hg (by decide)
    have w1 := Th.l_save (n := n) (m := 3) (fr := S2.fr) (V := V2) (W := W2) (L := S2.L) (N := S2.N) (P := S2.P) (A := S2.A) (B := S2.B) (C := S2.C) (by omega) (by omega) (by decide) (by decide)
    have w2 := Rt.l_save (n := n) (m := 3) (fr := S3.fr) (V := V3) (L := S3.L) (N := S3.N) (P := S3.P) (A := S3.A) (B := S3.B) (C := S3.C) (by omega) (by omega) (by decide) (by decide) hr3.al
    have z0 := k_same n 3 V S.L S.N S.P S.A S.B (by omega) (by decide)
    have z1 := PureS.mk (k_sameL n S.L (by omega))
    have z2 := PureS.mk (k_sameL n S.N (by omega))
    have z3 := PureS.mk (k_sameL n S.P (by omega))
    have zs := PureS.mk z0
    unfold Th.stateV Th.valsL at w1
    unfold Rt.stateV Rt.valsL at w2
    unfold saveS stateLk at w0
    unfold stateLk at zs
    rw [← intsL_congr fun s hs => (e1 s hs).1, ← intsL_congr fun s hs => (e1 s hs).2.1, ← intsL_congr fun s hs => (e1 s hs).2.2, ← intsL_congr fun i hi => (e2 i hi).1, ← intsL_congr fun i hi => (e2 i hi).2] at w1
    rw [← intsL_congr fun s hs => (e3 s hs).1, ← intsL_congr fun s hs => (e3 s hs).2.1, ← intsL_congr fun s hs => (e3 s hs).2.2, ← intsL_congr fun i hi => (e4 i hi).1, ← intsL_congr fun i hi => (e4 i hi).2] at w2
    unfold intsL at w0 w1 w2 z1 z2 z3 zs
    have hp0 : Plain (.agg [.isl ((List.range n).map fun i => [.int .i64 (V i)]), .isl ((List.range n).map fun i => [.int .i64 (S.L i)]), .isl ((List.range n).map fun i => [.int .i64 (S.N i)]), .isl ((List.range n).map fun i => [.int .i64 (S.P i)]), .isl ((List.range 3).map fun i => [.int .i64 (S.A i)]), .isl ((List.range 3).map fun i => [.int .i64 (S.B i)])]) := plain_stateLk
    have hp1 : Plain (.agg [.isl ((List.range n).map fun i => [(V2 i).1, (W2 i).1]), .isl ((List.range n).map fun i => [.int .i64 (S.L i)]), .isl ((List.range n).map fun i => [.int .i64 (S.N i)]), .isl ((List.range n).map fun i => [.int .i64 (S.P i)]), .isl ((List.range 3).map fun i => [.int .i64 (S.A i)]), .isl ((List.range 3).map fun i => [.int .i64 (S.B i)])]) := Th.plain_stateV
    have hp2 : Plain (.agg [.isl ((List.range n).map fun i => [(V3 i).1]), .isl ((List.range n).map fun i => [.int .i64 (S.L i)]), .isl ((List.range n).map fun i => [.int .i64 (S.N i)]), .isl ((List.range n).map fun i => [.int .i64 (S.P i)]), .isl ((List.range 3).map fun i => [.int .i64 (S.A i)]), .isl ((List.range 3).map fun i => [.int .i64 (S.B i)])]) := Rt.plain_stateV
    (refine wx_Twn ?_; repeat' (first | with_reducible refine And.intro ?_ ?_ | intro hsp))
    (refine loop_x [] (fun (k : Nat) => [(13, .ptr 0 0), (14, .ptr 1 0), (15, .ptr 2 0), (16, .int .i64 (k : Nat))]) (fun (k : Nat) => ⟨[(0, .cells [.isl ((List.range n).map fun i => [.int .i64 (V i)]), .isl ((List.range n).map fun i => [.int .i64 (S.L i)]), .isl ((List.range n).map fun i => [.int .i64 (S.N i)]), .isl ((List.range n).map fun i => [.int .i64 (S.P i)]), .isl ((List.range 3).map fun i => [.int .i64 (S.A i)]), .isl ((List.range 3).map fun i => [.int .i64 (S.B i)])]), (1, .cells [.isl ((List.range n).map fun i => [(V2 i).1, (W2 i).1]), .isl ((List.range n).map fun i => [.int .i64 (S.L i)]), .isl ((List.range n).map fun i => [.int .i64 (S.N i)]), .isl ((List.range n).map fun i => [.int .i64 (S.P i)]), .isl ((List.range 3).map fun i => [.int .i64 (S.A i)]), .isl ((List.range 3).map fun i => [.int .i64 (S.B i)])]), (2, .cells [.isl ((List.range n).map fun i => [(V3 i).1]), .isl ((List.range n).map fun i => [.int .i64 (S.L i)]), .isl ((List.range n).map fun i => [.int .i64 (S.N i)]), .isl ((List.range n).map fun i => [.int .i64 (S.P i)]), .isl ((List.range 3).map fun i => [.int .i64 (S.A i)]), .isl ((List.range 3).map fun i => [.int .i64 (S.B i)])])], 3⟩) (fun (k : Nat) => k ≤ n) (fun (k : Nat) => n - k) (0) [(0, 12), (1, 13), (2, 14)] rfl (fun _ => by first | exact Nat.zero_le _ | (dsimp only; omega)) ?_ (by ((try (conv => whnf)); exact wkx_Tw)) ?_)
    · exact Nat.zero_le _
    intro k hkn
    have hlr : (List.range n).length = n := List.length_range
    by_cases hk : k < n
    · have hx1 : nth 0 (List.range n) k = k := nth_range hk
      have hlk : k < (List.range n).length := by omega
      by_cases hu : usedQ Q k
      · obtain ⟨j, hj⟩ := hu
        have hLj : S.L k = (j : Nat) := (hg.inv.st.us j k hj).2
        obtain ⟨hv1, hv2⟩ := hr2.us k ⟨j, hj⟩
        obtain ⟨b, hv3⟩ := hr3.us k ⟨j, hj⟩
        have hvb : [(V2 k).1, (W2 k).1] = [.str ⟨#[116, 104, 105, 110, 103]⟩, .int .i64 (V k)] := by rw [hv1, hv2]; rfl
        have hvc : [(V3 k).1] = [.iptr [.int .i64 (V k), .bool b]] := by rw [hv3]; rfl
        have hvl : [AV.int .i64 (S.L k)] = [.int .i64 ((j : Nat) : Int)] := by rw [hLj]
        (refine wx_Twn ?_; repeat' (first | with_reducible refine And.intro ?_ ?_ | intro hsp))
        all_goals first | (exfalso; simp at hsp; done) | exact next_x (k + 1) [] (by (try dsimp only); omega) (by first | omega | (dsimp only; omega)) rfl (by exact wkx_Tw)
      · have hnu : ∀ j, k ∉ Q j := fun j hj => hu ⟨j, hj⟩
        have hLj : S.L k = -1 := hg.inv.st.unused hk hnu
        obtain ⟨hv1, hv2⟩ := hg2.inv.val k hk (hg2.inv.st.unused hk hnu)
        have hv3 := hg3.inv.val k hk (hg3.inv.st.unused hk hnu)
        have hvb : [(V2 k).1, (W2 k).1] = [.str ⟨#[]⟩, .int .i64 0] := by rw [hv1, hv2]; rfl
        have hvc : [(V3 k).1] = [.nilp] := by rw [hv3]; rfl
        have hvl : [AV.int .i64 (S.L k)] = [.int .i64 (-1)] := by rw [hLj]
        (refine wx_Twn ?_; repeat' (first | with_reducible refine And.intro ?_ ?_ | intro hsp))
        all_goals first | (exfalso; simp at hsp; done) | exact next_x (k + 1) [] (by (try dsimp only); omega) (by first | omega | (dsimp only; omega)) rfl (by exact wkx_Tw)
    · (refine wx_Twn ?_; repeat' (first | with_reducible refine And.intro ?_ ?_ | intro hsp))
      all_goals exact end_bool rfl
end Go.Proofs.Ytkjimnhmiojcdaa
