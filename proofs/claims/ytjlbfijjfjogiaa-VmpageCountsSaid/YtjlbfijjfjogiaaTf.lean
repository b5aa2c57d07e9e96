/-
  New, Plan, Write, Read, Kind of both systems over the plain state.
-/
import Derived.Test.YtjlbfijjfjogiaaTe
set_option linter.unusedSimpArgs false
set_option linter.unusedVariables false
namespace Go.Pol
open Go.Am
theorem rep_get {z : List AV} (hz : 0 < z.length) : ∀ {n i : Nat}, i < n * z.length → ((List.replicate n z).flatten)[i]? = z[i % z.length]?
  | 0, i, h => by omega
  | n + 1, i, h => by
    rw [List.replicate_succ, List.flatten_cons]
    by_cases hi : i < z.length
    · rw [List.getElem?_append_left hi, Nat.mod_eq_of_lt hi]
    · rw [List.getElem?_append_right (by omega), rep_get hz (by rw [Nat.succ_mul] at h; omega)]
      congr 1
      conv => rhs; rw [show i = (i - z.length) + z.length by omega, Nat.add_mod_right]
theorem rep_len {z : List AV} {n : Nat} : ((List.replicate n z).flatten).length = n * z.length := by simp
def zP : List AV := .nils :: List.replicate 14 (.int .i64 0)
theorem zP_len : zP.length = 15 := rfl
theorem zP_get {m : Nat} (h : m < 15) : zP[m]? = some (zP[m]?.getD .undef) := by
  rw [List.getElem?_eq_getElem (by rw [zP_len]; exact h)]; rfl
theorem pg0_len : pg0.length = 66 := rfl
theorem pg0_get {j : Nat} (h : j < 66) : pg0[j]? = some (pageF (fun _ => 0) (fun _ => false) (fun _ _ => 0) 0 j) := by
  unfold pageF pg0
  match j with
  | 0 => rfl
  | 1 => rfl
  | j + 2 => rw [if_neg (by omega), if_neg (by omega), List.getElem?_cons_succ, List.getElem?_cons_succ, List.getElem?_replicate, if_pos (by omega)]
theorem sysZ_len : sysZ.length = 67600 := by unfold sysZ; rw [List.length_cons, List.length_append, rep_len]; rfl
theorem sysZ_0 : sysZ.set 0 (.bool true) = sysB (fun _ => 0) (fun _ => false) (fun _ _ => 0) zP := by
  refine List.ext_getElem? fun i => ?_
  by_cases hi : i < 67600
  · unfold sysB
    rw [memA_get hi]
    unfold sysZ sysF
    rw [List.set_cons_zero]
    by_cases h0 : i = 0
    · rw [if_pos h0, h0]; rfl
    · rw [if_neg h0]
      obtain ⟨k, rfl⟩ : ∃ k, i = k + 1 := ⟨i - 1, by omega⟩
      rw [List.getElem?_cons_succ]
      by_cases h1 : k + 1 < 67585
      · rw [if_pos h1, List.getElem?_append_left (by rw [rep_len, pg0_len]; omega), rep_get (by decide) (by rw [pg0_len]; omega), pg0_len, pg0_get (by omega)]
        rw [Nat.add_sub_cancel]; rfl
      · rw [if_neg h1, List.getElem?_append_right (by rw [rep_len, pg0_len]; omega), rep_len, pg0_len, show k - 1024 * 66 = k + 1 - 67585 by omega]
        have hm : k + 1 - 67585 < 15 := by omega
        generalize k + 1 - 67585 = m at *
        exact zP_get hm
  · rw [List.getElem?_eq_none (by rw [List.length_set, sysZ_len]; omega), List.getElem?_eq_none (by rw [sys_len]; omega)]
theorem refZ_len : refZ.length = 66639 := by
  unfold refZ; rw [List.length_append, List.length_append, List.length_append, rep_len, List.length_replicate, List.length_replicate, List.length_replicate]; rfl
theorem refZ_eq : refZ = refK (fun _ => 0) (fun _ => false) (fun _ _ => 0) zP := by
  refine List.ext_getElem? fun i => ?_
  by_cases hi : i < 66639
  · unfold refK
    rw [memA_get hi]
    unfold refZ refF
    by_cases h0 : i < 1024
    · rw [if_pos h0, List.getElem?_append_left (by rw [List.length_replicate]; omega), List.getElem?_replicate, if_pos h0]
    · rw [if_neg h0, List.getElem?_append_right (by rw [List.length_replicate]; omega), List.length_replicate]
      by_cases h1 : i < 1088
      · rw [if_pos h1, List.getElem?_append_left (by rw [List.length_replicate]; omega), List.getElem?_replicate, if_pos (by omega)]
      · rw [if_neg h1, List.getElem?_append_right (by rw [List.length_replicate]; omega), List.length_replicate]
        by_cases h2 : i < 66624
        · rw [if_pos h2, List.getElem?_append_left (by rw [rep_len, List.length_replicate]; omega), rep_get (by rw [List.length_replicate]; omega) (by rw [List.length_replicate]; omega), List.length_replicate, List.getElem?_replicate, if_pos (by omega)]
        · rw [if_neg h2, List.getElem?_append_right (by rw [rep_len, List.length_replicate]; omega), rep_len, List.length_replicate, show i - 1024 - 64 - 1024 * 64 = i - 66624 by omega]
          have hm : i - 66624 < 15 := by omega
          generalize i - 66624 = m at *
          exact zP_get hm
  · rw [List.getElem?_eq_none (by rw [refZ_len]; omega), List.getElem?_eq_none (by rw [ref_len]; omega)]
theorem new_a {l : List Rl} {o : Nat} {z : List AV} (hz : z = sysZ) (h : o = 67585) : over (z.set 0 (.bool true)) o (stA l (fun _ => 0) fun _ => 0) = (Sy.new l).a := by
  rw [hz, sysZ_0, sys_setPlanO h rfl]; unfold Sy.a; rfl
theorem new_b {l : List Rl} {o : Nat} {z : List AV} (hz : z = refZ) (h : o = 66624) : over z o (stA l (fun _ => 0) fun _ => 0) = (Sy.new l).b := by
  rw [hz, refZ_eq, rfk_setPlanO h rfl]; unfold Sy.b; rfl
theorem plan_a {s : Sy} {l : List Rl} {o : Nat} (h : o = 67585) : over s.a o (stA l (fun _ => 0) fun _ => 0) = (Sy.mk s.K s.G s.B l (fun _ => 0) fun _ => 0).a := by
  unfold Sy.a; exact sys_setPlanO h rfl
theorem plan_b {s : Sy} {l : List Rl} {o : Nat} (h : o = 66624) : over s.b o (stA l (fun _ => 0) fun _ => 0) = (Sy.mk s.K s.G s.B l (fun _ => 0) fun _ => 0).b := by
  unfold Sy.b; exact rfk_setPlanO h rfl
theorem a_len {s : Sy} : s.a.length = 67600 := by unfold Sy.a; exact sys_len
theorem b_len {s : Sy} : s.b.length = 66639 := by unfold Sy.b; exact ref_len
theorem a_made {s : Sy} : s.a[0]? = some (.bool true) := by unfold Sy.a; exact sys_made
theorem sysZ_lenE {z : List AV} (hz : z = sysZ) : z.length = 67600 := by rw [hz, sysZ_len]
theorem refZ_lenE {z : List AV} (hz : z = refZ) : z.length = 66639 := by rw [hz, refZ_len]
end Go.Pol
namespace Go.Proofs.Ytjlbfijjfjogiaa
open Go Go.Am Go.Pol
theorem filtK_nil : ∀ {l : List (Nat × AObj)} {k : List (Nat × AObj) → Prop}, k l → filtK [] l k
  | [], _, h => h
  | a :: l, k, h => filtK_nil (l := l) (k := fun r => k (a :: r)) h
/-- A call that makes a block of plain cells, and hands it out with a number. -/
structure LocN (f : Nat) (avs : List AV) (e : Int) (ds : List AV) : Prop where
  out : LocC Try.prog G0 f avs [] 0 fun x h => x = .tup [.ptr 0 0, .int .i64 e] ∧ h = ⟨[(0, .cells ds)], 1⟩
  pd : ∀ x ∈ ds, Plain x
  pa : ∀ x ∈ avs, Plain x
theorem end_new {top : Bool} {h : Hp} {x : AV} {i : Nat} {cs ds : List AV} {e : Int} (hx : x = .tup [.ptr i 0, .int .i64 e]) (hc : cs = ds) (h0 : lk h.l i = some (.cells cs)) (pd : ∀ x ∈ ds, Plain x) : EndX top Try.prog 0 h x (fun r' h' => r' = .tup [.ptr 0 0, .int .i64 e] ∧ h' = ⟨[(0, .cells ds)], 1⟩) := by
  subst hx; subst hc
  have e0 : rn [(0, i)] 0 = i := rfl
  have hs : SubH (rn [(0, i)]) h ⟨[(0, .cells cs)], 1⟩ := fun j o hj => by
    simp only [lk] at hj
    split at hj
    · rename_i e; subst e; exact ⟨_, h0⟩
    · cases hj
  exact end_loc [(0, i)] rfl (Nat.zero_le _) (oneOf_of rfl) (wk_tup (wkl_cons (wk_ptr e0 (show 0 < 1 by decide)) (wkl_cons (wk_int rfl) wkl_nil))) (wko_plain hs (show 0 < 1 by decide) (by rw [e0]; exact h0) rfl pd wko_nil) ⟨rfl, rfl⟩
theorem cx_locN {f nx : Nat} {avs : List AV} {e : Int} {ds : List AV} {l : List (Nat × AObj)} {K : AV → Hp → Prop} (hc : LocN f avs e ds) (hk : K (.tup [.ptr nx 0, .int .i64 e]) ⟨(nx, .cells ds) :: l, nx + 1⟩) : CallX Try.prog G0 (.fn f [] []) avs ⟨l, nx⟩ K := by
  have k0 : back [] nx 0 nx := rfl
  refine cx_loc (r' := .tup [.ptr nx 0, .int .i64 e]) (l1 := [(nx, .cells ds)]) [] hc.out plainG rfl .nil (by simpa using rnl_plain hc.pa) (by simp) (rn_tup ⟨rn_ptr k0, rn_plain plain_int, trivial⟩)
    (.cons k0 (rnl_plain hc.pd) .nil) (filtK_nil hk)
theorem wtf {p q : Prop} (hq : q) (h : HidP q → p := by (intro hQz; ((repeat' ((try (conv => whnf)); first | (with_reducible first | refine run_cons ?_ | refine runq_cons ?_ | refine code_seq ?_ | refine code_reg ?_ | refine code_cond ?_ | refine run_nil ?_ | refine runq_nil ?_ | refine rund_op rfl ?_ | refine rund_nil ?_ | refine code_block ?_ | refine code_skip ?_ | refine code_exit ?_ | refine code_ret ?_ | refine code_range ?_ | refine rund_fast (by decide +kernel) ?_ | refine rund_slow (by decide +kernel) ?_ | refine br_tt ?_ | refine br_ff ?_ | refine br_n ?_ | refine br_and ?_ | refine br_or ?_ | refine br_t (by assumption) ?_ | refine br_f (by assumption) ?_ | refine eq_i64 (by omega) ?_ | refine el_tn ?_) | ((with_reducible refine br_dt ?_ ?_); focus omega) | ((with_reducible refine br_df ?_ ?_); focus omega) | ((with_reducible apply br_dq hQz) <;> (try intro hsp hQz)) | ((with_reducible refine ck_x ?_ ?_); focus (first | omega | rfl | assumption | decide | (simp only [List.length_map, List.length_cons, List.length_nil]; omega))) | (with_reducible first | refine eq_tn ?_ | refine eq_tn1 ?_ | refine eq_tn2 ?_ | refine eq_m1 ?_ | refine eq_m2 ?_ | refine eq_zm ?_ | refine eq_z ?_ | refine len_map ?_ | refine len_sl ?_ | refine len_nils ?_ | refine len_own' ?_ | refine len_isl ?_ | refine eq_u8 (by omega) ?_ | refine eq_u16 (by omega) ?_) | refine nthK_of (by with_reducible assumption) ?_ | refine nthK_of a_made ?_ | refine eq_of (by with_reducible assumption) ?_ | refine overK_cons (by first | (simp only [List.length_cons, List.length_nil, List.length_set]; omega) | fail) (by with_reducible assumption) ?_ | (with_reducible first | refine eq_rfl ?_ | refine ChkX.mk (by kernel_rfl) ?_ | refine code_q rfl ?_ | refine code_d (by decide +kernel) ?_ | refine end_go rfl ?_) | refine cx_locS (by assumption) rfl (by omega) ?_ | refine dcx_locS (by assumption) rfl rfl ?_ | refine cx_pureS (by assumption) ?_ | refine dcx_pureS (by assumption) ?_ | refine qcx_pureS (by assumption) ?_ | (refine cx_in hmix b47 rfl ?_; unfold c47) | refine len_map ?_ | refine len_isl ?_ | refine el_of rfl rfl ?_ | refine del_own ?_ | refine del_own' rfl ?_ | refine as_go rfl ?_ | refine rd_go rfl ?_ | refine rg_end rfl ?_ | refine flat_ownX ?_ | refine EqLX.mk ?_ | ((with_reducible apply br_bq hQz) <;> (try intro hsp hQz)) | exact hQz.out)) <;> (try (conv => whnf))))) : p := h ⟨hq⟩
section
variable {s : Sy} {l : List Rl} {i e : Int}
set_option maxHeartbeats 1600000 in
theorem p_new_no (hc : chkP l = (i, e)) (he : e ≠ 0) : PureS 21 [.agg [.isl (l.map rlA)]] (.tup [.nilp, .int .i64 e]) := by
  have z := k_start_no hc he
  refine PureS.mk (pure_x hmix b21 plainG ⟨plain_pl, trivial⟩ (plain_tup (plain_2 plain_nilp plain_int)) rfl ?_)
  unfold c21
  (refine wtf ?_; repeat' (first | with_reducible refine And.intro ?_ ?_ | intro hsp))
  all_goals exact end_plain rfl (plain_tup (plain_2 plain_nilp plain_int))
set_option maxHeartbeats 1600000 in
theorem q_new_no (hc : chkP l = (i, e)) (he : e ≠ 0) : PureS 22 [.agg [.isl (l.map rlA)]] (.tup [.nilp, .int .i64 e]) := by
  have z := r_start_no hc he
  refine PureS.mk (pure_x hmix b22 plainG ⟨plain_pl, trivial⟩ (plain_tup (plain_2 plain_nilp plain_int)) rfl ?_)
  unfold c22
  (refine wtf ?_; repeat' (first | with_reducible refine And.intro ?_ ?_ | intro hsp))
  all_goals exact end_plain rfl (plain_tup (plain_2 plain_nilp plain_int))
set_option maxHeartbeats 1600000 in
theorem p_new (hc : chkP l = (i, 0)) : LocN 21 [.agg [.isl (l.map rlA)]] 0 (Sy.new l).a := by
  have z := k_start hc (by have := (chk_ok hc).2; omega)
  refine LocN.mk (loc_x hmix b21 rfl ?_) a_plain (plain_1 plain_pl)
  unfold c21
  obtain ⟨o, ho⟩ : ∃ o, o = 67585 := ⟨_, rfl⟩
  obtain ⟨y, hy⟩ : ∃ y, y = sysZ := ⟨_, rfl⟩
  rw [← ho, ← hy]
  have hl := sysZ_lenE hy
  have hov := new_a (l := l) hy ho
  unfold stA at hov
  (refine wtf ?_; repeat' (first | with_reducible refine And.intro ?_ ?_ | intro hsp))
  rw [show Nat.ble (0 + 1) y.length = true from Nat.ble_eq_true_of_le (by omega)]
  (refine wtf ?_; repeat' (first | with_reducible refine And.intro ?_ ?_ | intro hsp))
  refine set1K_of (by omega) rfl ?_
  (refine wtf ?_; repeat' (first | with_reducible refine And.intro ?_ ?_ | intro hsp))
  rw [show Nat.ble (o + 15) (y.set 0 (.bool true)).length = true from Nat.ble_eq_true_of_le (by rw [List.length_set]; omega)]
  (refine wtf ?_; repeat' (first | with_reducible refine And.intro ?_ ?_ | intro hsp))
  all_goals exact end_new rfl rfl rfl a_plain
set_option maxHeartbeats 1600000 in
theorem q_new (hc : chkP l = (i, 0)) : LocN 22 [.agg [.isl (l.map rlA)]] 0 (Sy.new l).b := by
  have z := r_start hc
  refine LocN.mk (loc_x hmix b22 rfl ?_) b_plain (plain_1 plain_pl)
  unfold c22
  obtain ⟨o, ho⟩ : ∃ o, o = 66624 := ⟨_, rfl⟩
  obtain ⟨y, hy⟩ : ∃ y, y = refZ := ⟨_, rfl⟩
  rw [← ho, ← hy]
  have hl := refZ_lenE hy
  have hov := new_b (l := l) hy ho
  unfold stA at hov
  (refine wtf ?_; repeat' (first | with_reducible refine And.intro ?_ ?_ | intro hsp))
  rw [show Nat.ble (o + 15) y.length = true from Nat.ble_eq_true_of_le (by omega)]
  (refine wtf ?_; repeat' (first | with_reducible refine And.intro ?_ ?_ | intro hsp))
  all_goals exact end_new rfl rfl rfl b_plain
set_option maxHeartbeats 1600000 in
theorem p_plan (s : Sy) (l : List Rl) : LocS 26 [.agg [.isl (l.map rlA)]] s.a (.int .i64 (s.plan l).1) (s.plan l).2.a := by
  refine LocS.mk (loc_x hmix b26 rfl ?_) a_plain a_plain (plain_1 plain_pl) plain_int
  unfold c26
  obtain ⟨o, ho⟩ : ∃ o, o = 67585 := ⟨_, rfl⟩
  rw [← ho]
  have hc : chkP l = ((chkP l).1, (chkP l).2) := rfl
  unfold Sy.plan
  by_cases he : (chkP l).2 = 0
  · rw [if_pos he]
    rw [he] at hc
    have z := k_start hc (by have := (chk_ok hc).2; omega)
    have hl := a_len (s := s)
    have hov := plan_a (s := s) (l := l) ho
    unfold stA at hov
    (refine wtf ?_; repeat' (first | with_reducible refine And.intro ?_ ?_ | intro hsp))
    all_goals exact end_s rfl plain_int rfl a_plain
  · rw [if_neg he]
    have z := k_start_no hc he
    (refine wtf ?_; repeat' (first | with_reducible refine And.intro ?_ ?_ | intro hsp))
    all_goals exact end_s rfl plain_int rfl a_plain
set_option maxHeartbeats 1600000 in
theorem q_plan (s : Sy) (l : List Rl) : LocS 65 [.agg [.isl (l.map rlA)]] s.b (.int .i64 (s.plan l).1) (s.plan l).2.b := by
  refine LocS.mk (loc_x hmix b65 rfl ?_) b_plain b_plain (plain_1 plain_pl) plain_int
  unfold c65
  obtain ⟨o, ho⟩ : ∃ o, o = 66624 := ⟨_, rfl⟩
  rw [← ho]
  have hc : chkP l = ((chkP l).1, (chkP l).2) := rfl
  unfold Sy.plan
  by_cases he : (chkP l).2 = 0
  · rw [if_pos he]
    rw [he] at hc
    have z := r_start hc
    have hl := b_len (s := s)
    have hov := plan_b (s := s) (l := l) ho
    unfold stA at hov
    (refine wtf ?_; repeat' (first | with_reducible refine And.intro ?_ ?_ | intro hsp))
    all_goals exact end_s rfl plain_int rfl b_plain
  · rw [if_neg he]
    have z := r_start_no hc he
    (refine wtf ?_; repeat' (first | with_reducible refine And.intro ?_ ?_ | intro hsp))
    all_goals exact end_s rfl plain_int rfl b_plain
end
end Go.Proofs.Ytjlbfijjfjogiaa
