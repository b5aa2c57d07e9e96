/-
  ZeroingOrder: the law's function returns true, at any list of acts and any span.
-/
import Derived.Test.YtjhmknnokloneaaDoorOb
set_option linter.unusedSimpArgs false
set_option linter.unusedVariables false
namespace Go.Proofs.YtjhmknnokloneaaDoor
open Go Go.Am Go.Pol
theorem order_far (l : List ZAct) (p n : Int) (hl : 10 < l.length) :
    PureC Tryd.prog G0 8 [actsA l, .agg [.int .i64 p, .int .i64 n]] (.bool true) := by
  refine pure_x hmix b8 plainG ⟨plain_acts, plain_cut (c := (p, n)), trivial⟩ plain_bool rfl ?_
  unfold c8
  have haw := k_awake
  simp only [actsA]
  ((repeat' ((try (conv => whnf)); first | (with_reducible first | refine run_cons ?_ | refine runq_cons ?_ | refine code_seq ?_ | refine code_reg ?_ | refine code_cond ?_ | refine run_nil ?_ | refine runq_nil ?_ | refine rund_op rfl ?_ | refine rund_nil ?_ | refine code_block ?_ | refine code_skip ?_ | refine code_exit ?_ | refine code_ret ?_ | refine code_range ?_ | refine rund_fast (by decide +kernel) ?_ | refine rund_slow (by decide +kernel) ?_ | refine br_tt ?_ | refine br_ff ?_ | refine br_n ?_ | refine br_and ?_ | refine br_or ?_ | refine br_t (by assumption) ?_ | refine br_f (by assumption) ?_ | refine eq_i64 (by omega) ?_ | refine el_tn ?_) | (with_reducible refine br_d ?_ ?_ <;> intro hsp <;> first | (exfalso; omega) | skip) | ((with_reducible refine ck_x ?_ ?_); focus (first | omega | rfl | assumption | decide | (simp only [List.length_map, List.length_cons, List.length_nil]; omega))) | (with_reducible first | refine eq_tn ?_ | refine eq_tn1 ?_ | refine eq_tn2 ?_ | refine eq_m1 ?_ | refine eq_m2 ?_ | refine eq_zm ?_ | refine eq_z ?_ | refine len_map ?_ | refine len_sl ?_ | refine len_nils ?_ | refine len_own' ?_ | refine len_isl ?_ | refine eq_u8 (by omega) ?_ | refine eq_u16 (by omega) ?_) | (with_reducible first | refine eq_rfl ?_ | refine ChkX.mk (by kernel_rfl) ?_ | refine code_q rfl ?_ | refine code_d (by decide +kernel) ?_ | refine end_go rfl ?_) | refine cx_pure (haw) ?_ | refine qcx (haw) ?_ | refine dcx_pure (haw) ?_ | refine len_map ?_ | refine len_isl ?_ | refine el_of rfl rfl ?_ | refine del_own ?_ | refine del_own' rfl ?_ | refine as_go rfl ?_ | refine rd_go rfl ?_ | refine rg_end rfl ?_ | refine flat_ownX ?_ | (with_reducible refine br_b ?_ ?_ <;> intro hsp))) <;> (try (conv => whnf)))
  all_goals exact end_bool rfl
theorem order_many (l : List ZAct) (p n : Int) (hl : l.length ≤ 10) (hf : PureC Tryd.prog G0 31 [actsA l] (.bool false)) :
    PureC Tryd.prog G0 8 [actsA l, .agg [.int .i64 p, .int .i64 n]] (.bool true) := by
  refine pure_x hmix b8 plainG ⟨plain_acts, plain_cut (c := (p, n)), trivial⟩ plain_bool rfl ?_
  unfold c8
  have haw := k_awake
  simp only [actsA] at *
  ((repeat' ((try (conv => whnf)); first | (with_reducible first | refine run_cons ?_ | refine runq_cons ?_ | refine code_seq ?_ | refine code_reg ?_ | refine code_cond ?_ | refine run_nil ?_ | refine runq_nil ?_ | refine rund_op rfl ?_ | refine rund_nil ?_ | refine code_block ?_ | refine code_skip ?_ | refine code_exit ?_ | refine code_ret ?_ | refine code_range ?_ | refine rund_fast (by decide +kernel) ?_ | refine rund_slow (by decide +kernel) ?_ | refine br_tt ?_ | refine br_ff ?_ | refine br_n ?_ | refine br_and ?_ | refine br_or ?_ | refine br_t (by assumption) ?_ | refine br_f (by assumption) ?_ | refine eq_i64 (by omega) ?_ | refine el_tn ?_) | (with_reducible refine br_d ?_ ?_ <;> intro hsp <;> first | (exfalso; omega) | skip) | ((with_reducible refine ck_x ?_ ?_); focus (first | omega | rfl | assumption | decide | (simp only [List.length_map, List.length_cons, List.length_nil]; omega))) | (with_reducible first | refine eq_tn ?_ | refine eq_tn1 ?_ | refine eq_tn2 ?_ | refine eq_m1 ?_ | refine eq_m2 ?_ | refine eq_zm ?_ | refine eq_z ?_ | refine len_map ?_ | refine len_sl ?_ | refine len_nils ?_ | refine len_own' ?_ | refine len_isl ?_ | refine eq_u8 (by omega) ?_ | refine eq_u16 (by omega) ?_) | (with_reducible first | refine eq_rfl ?_ | refine ChkX.mk (by kernel_rfl) ?_ | refine code_q rfl ?_ | refine code_d (by decide +kernel) ?_ | refine end_go rfl ?_) | refine cx_pure (hf) ?_ | refine qcx (hf) ?_ | refine dcx_pure (hf) ?_ | refine cx_pure (haw) ?_ | refine qcx (haw) ?_ | refine dcx_pure (haw) ?_ | refine len_map ?_ | refine len_isl ?_ | refine el_of rfl rfl ?_ | refine del_own ?_ | refine del_own' rfl ?_ | refine as_go rfl ?_ | refine rd_go rfl ?_ | refine rg_end rfl ?_ | refine flat_ownX ?_ | (with_reducible refine br_b ?_ ?_ <;> intro hsp))) <;> (try (conv => whnf)))
  all_goals exact end_bool rfl
theorem wrote_state {z : List Zn} (hz : ∀ x ∈ z, x.1 + x.2 ≤ 1024) (h4 : ∀ k, z.countP (Pol.meets k) ≤ 4) (y : Zn) (hy : y.1 + y.2 ≤ 1024) :
    PureC Tryd.prog G0 11 [stateA (stateM (wrL z) 1024), .int .i64 (y.1 : Nat), .int .i64 (y.2 : Nat)] (.tup [stateA (stateM (wrL (z ++ [y])) 1024), .int .i64 0]) := by
  have hU := wrL_u64 z
  have h0 := check_state hU
  have hcan := stateM_can hU
  have hok : askM (stateM (wrL z) 1024) (y.1 : Nat) (y.2 : Nat) = 0 := by
    rw [askM, if_pos h0, if_pos]
    simp only [okZone, decide_eq_true_eq]; omega
  have hw := k_wrote (stateM (wrL z) 1024) (y.1 : Nat) (y.2 : Nat) (by have := stateM_length (wrL z) 1024; omega) (fun p hp => by have := can_four hcan p hp; omega) fun _ => ⟨(check_good h0).1, by omega, by omega, by omega⟩
  rw [hok, if_pos rfl, Int.toNat_natCast, Int.toNat_natCast, wr_open hz h4, ← wrL_snoc] at hw
  exact hw
theorem k_order (l : List ZAct) (p n : Int) (hr : ∀ x ∈ l, x.2.1 < 65536 ∧ x.2.2 < 256) :
    PureC Tryd.prog G0 8 [actsA l, .agg [.int .i64 p, .int .i64 n]] (.bool true) := by
  by_cases hl : 10 < l.length
  · exact order_far l p n hl
  have hf := k_few l (by omega) hr
  by_cases hfw : fewM l = true
  · rw [hfw] at hf
    have hz := zonesN_le l
    have h4 := few_all hz (fewM_iff.1 hfw)
    have hpre : ∀ (z : List Zn), (∀ x ∈ z, x.1 + x.2 ≤ 1024) → (∀ k, z.countP (Pol.meets k) ≤ 4) → ∀ i, (∀ x ∈ z.take i, x.1 + x.2 ≤ 1024) ∧ ∀ k, (z.take i).countP (Pol.meets k) ≤ 4 := fun z h1 h2 i =>
      ⟨fun x hx => h1 x (List.mem_of_mem_take hx), fun k => Nat.le_trans ((List.take_sublist i z).countP_le) (h2 k)⟩
    have hzr : ∀ x ∈ (l.map zoneN).reverse, x.1 + x.2 ≤ 1024 := fun x hx => hz x (List.mem_reverse.1 hx)
    have h4r : ∀ k, (l.map zoneN).reverse.countP (Pol.meets k) ≤ 4 := fun k => by rw [List.countP_reverse]; exact h4 k
    have hend : stateM (wrL ((l.map zoneN).reverse.take l.length)) 1024 = stateM (wrL ((l.map zoneN).take l.length)) 1024 := by
      rw [List.take_of_length_le (by simp), List.take_of_length_le (by simp), wrL_rev]
    have hU := wrL_u64 ((l.map zoneN).take l.length)
    have hW : openM (stateM (wrL ((l.map zoneN).take l.length)) 1024) = wrL ((l.map zoneN).take l.length) := wr_open (hpre _ hz h4 _).1 (hpre _ hz h4 _).2
    have h0 := check_state hU
    have hcan := stateM_can hU
    have hlen := stateM_length (wrL ((l.map zoneN).take l.length)) 1024
    have hc : ∀ p ∈ stateM (wrL ((l.map zoneN).take l.length)) 1024, p.2.length ≤ 100 := fun p hp => by have := can_four hcan p hp; omega
    have hs := k_same _ _ (by omega) hc (by omega) hc
    rw [sameP_self] at hs
    have hv := k_valid3 p n
    have hcl : ∀ k, U64 (clearM (wrL ((l.map zoneN).take l.length)) p.toNat n.toNat k) := fun k => by
      unfold clearM; split; exact (by decide : (0 : Nat) < 18446744073709551616); exact hU k
    have hlen2 := stateM_length (clearM (wrL ((l.map zoneN).take l.length)) p.toNat n.toNat) 1024
    have hc2 : ∀ q ∈ stateM (clearM (wrL ((l.map zoneN).take l.length)) p.toNat n.toNat) 1024, q.2.length ≤ 100 := fun q hq => by have := can_four (stateM_can hcl) q hq; omega
    have hs2 := k_same _ _ (by omega) hc2 (by omega) hc2
    rw [sameP_self] at hs2
    have hb : okSpan p n = true → 0 ≤ p ∧ p < 1024 ∧ 1 ≤ n ∧ n ≤ 1024 - p := fun h => by simpa [okSpan] using h
    refine order_walk l p n (by omega) hr (fun i => stateM (wrL ((l.map zoneN).take i)) 1024) (fun i => stateM (wrL ((l.map zoneN).reverse.take i)) 1024) ?_ ?_ hf (fun i hi => ?_) (fun i hi => ?_) (by rw [hend]; exact hs) (okSpan p n) hv (stateM (clearM (wrL ((l.map zoneN).take l.length)) p.toNat n.toNat) 1024) (fun ho => ?_) (fun ho => ?_) (fun ho => by have := hb ho; omega) hs2
    · show stateM (wrL []) 1024 = []
      rw [stateM_stC (wrL_u64 []), stC_stR]
      exact stR_nil _ _ fun k _ => (down_nil (wrL_u64 [] k)).2 rfl
    · show stateM (wrL []) 1024 = []
      rw [stateM_stC (wrL_u64 []), stC_stR]
      exact stR_nil _ _ fun k _ => (down_nil (wrL_u64 [] k)).2 rfl
    · have h := wrote_state (hpre _ hz h4 i).1 (hpre _ hz h4 i).2 (zoneN (nth (0, 0, 0) l i)) (zoneN_le _)
      have e : (l.map zoneN).take (i + 1) = (l.map zoneN).take i ++ [zoneN (nth (0, 0, 0) l i)] := by
        rw [← List.map_take, take_nth (d := (0, 0, 0)) hi, List.map_append, List.map_take]; rfl
      rw [← e] at h
      exact h
    · have h := wrote_state (hpre _ hzr h4r i).1 (hpre _ hzr h4r i).2 (zoneN (nth (0, 0, 0) l (l.length - 1 - i))) (zoneN_le _)
      have e : (l.map zoneN).reverse.take (i + 1) = (l.map zoneN).reverse.take i ++ [zoneN (nth (0, 0, 0) l (l.length - 1 - i))] := by
        have hi2 : l.length - 1 - i < l.length := by omega
        rw [← List.map_reverse, ← List.map_take, take_nth (d := (0, 0, 0)) (by simpa using hi), List.map_append, List.map_take]
        congr 2
        rw [nth_get (by simpa using hi), nth_get hi2]
        simp
      rw [← e] at h
      exact h
    · have hbb := hb ho
      have hfr := k_fresh _ p n (by omega) hc fun h => (check_good h).1
      rw [if_pos ⟨h0, ho⟩, if_pos h0, if_pos ho, hW] at hfr
      exact hfr
    · have hbb := hb ho
      obtain ⟨q, rfl⟩ := Int.eq_ofNat_of_zero_le (show 0 ≤ p by omega)
      obtain ⟨m, rfl⟩ := Int.eq_ofNat_of_zero_le (show 0 ≤ n by omega)
      have hok : askM (stateM (wrL ((l.map zoneN).take l.length)) 1024) ((q : Int) * 64) ((m : Int) * 64) = 0 := by
        rw [askM, if_pos h0, if_pos]
        simp only [okZone, decide_eq_true_eq]; omega
      have hze := k_zeroed (stateM (wrL ((l.map zoneN).take l.length)) 1024) ((q : Int) * 64) ((m : Int) * 64) (by omega) hc fun _ => ⟨(check_good h0).1, by omega, by omega, by omega⟩
      rw [hok, if_pos rfl, hW, show ((q : Int) * 64).toNat = q * 64 by omega, show ((m : Int) * 64).toNat = m * 64 by omega, fresh_zeroed hU] at hze
      simp only [Int.toNat_natCast]
      exact hze
  · rw [show fewM l = false by simpa using hfw] at hf
    exact order_many l p n (by omega) hf
end Go.Proofs.YtjhmknnokloneaaDoor
