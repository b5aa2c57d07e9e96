/-
  ZeroingWrites: what the law's function returns: true, at any state and zone.
-/
import Derived.Test.YtjhmknnokloneaaDoorZs
import Derived.Test.YtjhmknnokloneaaDoorZt
set_option linter.unusedSimpArgs false
set_option linter.unusedVariables false
namespace Go.Pol
theorem far_false {s : List Page} (h : farM s = false) : (s.length ≤ 60 ∨ 1024 < s.length) ∧ s.length ≤ 1100 ∧ ∀ p ∈ s, p.2.length ≤ 8 := by
  simp only [farM, Bool.or_eq_false_iff, decide_eq_false_iff_not, List.any_eq_false, decide_eq_true_eq] at h
  exact ⟨by omega, by omega, fun p hp => by have := h.2 p hp; omega⟩
theorem check_good {s : List Page} (h : checkM s = 0) : (∀ p ∈ s, 0 ≤ p.1 ∧ p.1 < 1024 ∧ ∀ c ∈ p.2, badCut c = false) ∧ Can (-1) s := by
  obtain ⟨_, h2, h3⟩ := check_valid h
  refine ⟨fun p hp => ?_, okFrom_can h2 h3⟩
  have := h2 p hp
  simp only [okPage, Bool.and_eq_true, decide_eq_true_eq, Bool.not_eq_true', List.any_eq_false] at this
  exact ⟨this.1.1, this.1.2, fun c hc => by simpa using this.2 c hc⟩
theorem sameP_self (s : List Page) : sameP s s = true := decide_eq_true rfl
end Go.Pol
namespace Go.Proofs.YtjhmknnokloneaaDoor
open Go Go.Am Go.Pol
theorem ask_zero {s : List Page} {a n : Int} (h : askM s a n = 0) : checkM s = 0 ∧ 0 ≤ a ∧ 0 ≤ n ∧ a + n ≤ 65536 := by
  unfold askM at h
  split at h
  · rename_i h1
    split at h
    · rename_i h2
      simp only [okZone, decide_eq_true_eq] at h2
      exact ⟨h1, by omega, by omega, by omega⟩
    · cases h
  · rename_i h1; exact absurd h h1
theorem k_same_self (s : List Page) (h : s.length ≤ 3000) (hc : ∀ p ∈ s, p.2.length ≤ 100) : PureC Tryd.prog G0 15 [stateA s, stateA s] (.bool true) := by
  have := k_same s s h hc h hc
  rwa [sameP_self] at this
/-- The four calls of the law, by one list each way. -/
theorem law_walk (s r1 r2 : List Page) (a n e : Int) (hfar : PureC Tryd.prog G0 9 [stateA s] (.bool false))
    (h1 : PureC Tryd.prog G0 11 [stateA s, .int .i64 a, .int .i64 n] (.tup [stateA r1, .int .i64 e]))
    (h2 : PureC Tryd.prog G0 12 [stateA s, .int .i64 a, .int .i64 n] (.tup [stateA r1, .int .i64 e]))
    (h3 : PureC Tryd.prog G0 13 [stateA s, .int .i64 a, .int .i64 n] (.tup [stateA r2, .int .i64 e]))
    (h4 : PureC Tryd.prog G0 14 [stateA s, .int .i64 a, .int .i64 n] (.tup [stateA r2, .int .i64 e]))
    (h5 : PureC Tryd.prog G0 15 [stateA r1, stateA r1] (.bool true)) (h6 : PureC Tryd.prog G0 15 [stateA r2, stateA r2] (.bool true)) :
    PureC Tryd.prog G0 3 [stateA s, .agg [.int .i64 a, .int .i64 n]] (.bool true) := by
  refine pure_of hmix b3 plainG ⟨plain_state, plain_agg (PlainL.all ⟨plain_int, plain_int, trivial⟩), trivial⟩ plain_bool ?_
  rw [c3]
  have h7 := k_awake
  simp only [stateA, pagesA] at *
  generalize s.map pageA = S at *
  generalize r1.map pageA = R1 at *
  generalize r2.map pageA = R2 at *
  (repeat' (first | with_reducible apply And.intro | refine goCall_pure (hfar) ?_ | refine goQCall_pure (hfar) ?_ | refine dcall_pure rfl rfl rfl (hfar) ?_ | refine goDCall_pure (hfar) ?_ | refine goCall_pure (h1) ?_ | refine goQCall_pure (h1) ?_ | refine dcall_pure rfl rfl rfl (h1) ?_ | refine goDCall_pure (h1) ?_ | refine goCall_pure (h2) ?_ | refine goQCall_pure (h2) ?_ | refine dcall_pure rfl rfl rfl (h2) ?_ | refine goDCall_pure (h2) ?_ | refine goCall_pure (h3) ?_ | refine goQCall_pure (h3) ?_ | refine dcall_pure rfl rfl rfl (h3) ?_ | refine goDCall_pure (h3) ?_ | refine goCall_pure (h4) ?_ | refine goQCall_pure (h4) ?_ | refine dcall_pure rfl rfl rfl (h4) ?_ | refine goDCall_pure (h4) ?_ | refine goCall_pure (h5) ?_ | refine goQCall_pure (h5) ?_ | refine dcall_pure rfl rfl rfl (h5) ?_ | refine goDCall_pure (h5) ?_ | refine goCall_pure (h6) ?_ | refine goQCall_pure (h6) ?_ | refine dcall_pure rfl rfl rfl (h6) ?_ | refine goDCall_pure (h6) ?_ | refine goCall_pure (h7) ?_ | refine goQCall_pure (h7) ?_ | refine dcall_pure rfl rfl rfl (h7) ?_ | refine goDCall_pure (h7) ?_ | (refine go_app2 rfl (by first  | rfl) (by first | decide | omega) ⟨by omega, by omega⟩ ?_) | (refine goD_app2 rfl (by first  | rfl) (by first | decide | omega) ⟨by omega, by omega⟩ ?_) | (refine regD_quiet rfl ?_) | (refine regD_go rfl ?_) | exact chk_ok rfl | (simp (config := { maxSteps := 4000000 }) (disch := first | (simp only [simC]; done) | omega) only [simK, List.contains_cons, List.contains_nil, sim, simL, simQ, simS, simG, simV, simB, simE, ev_load, ev_store, ev_bslice, ev_build, ev_slA, ev_slS, ev_clear, ev_append, app_eq, app1_ite, src_sl, simA, d_nil, d_op, d_opG, goD_some, goD_ite, goD_iteN, goDG_s, Hp.appD, load_ptr, load_iptr, store_ptr, part_t, part_f, cells_lk, vals_nil, vals_cons, parts_nil, parts_cons, fillL, over, AV.flat, AV.one, AV.cells, pureR_ite, pureR_iteN, bind_ite, map_ite, ldR_ite, stR_ite, clR_ite, goS_ite, goS_iteN, goQ_ite, goQ_iteN, finN, finR, resVs, resV, packV, nchkV, faddrV, fldV, extV, lenV, Hp.app, hasKey, puts, put, List.any_cons, List.any_nil, Option.bind_some, Option.bind_none, Option.map_some, Option.map_none, List.getElem?_cons_succ, List.getElem?_cons_zero, List.set_cons_succ, List.set_cons_zero, List.cons_append, List.nil_append, List.append_nil, List.replicate, List.drop_zero, List.drop_succ_cons, List.take_succ_cons, List.take_zero, List.length_cons, List.length_nil, decide_eq_true_eq, decide_true, decide_false, pick_u1, pick_u2, pick_t1, pick_t2, decide_eq_false_iff_not, Bool.not_true, Bool.not_false, Bool.not_eq_true, Bool.true_eq_false, Bool.false_eq_true, reduceCtorEq, Nat.reduceAdd, Nat.reduceSub, Nat.reduceMul, Nat.reduceLeDiff, Nat.reduceLT, Nat.reduceEqDiff, Nat.reduceBEq, Nat.zero_add, Nat.add_zero, reduceIte, if_true, if_false, and_true, true_and, and_false, false_and, true_implies, false_implies, implies_true, not_true_eq_false, not_false_eq_true, beq_self_eq_true, Bool.or_false, Bool.or_true, Bool.false_or, Bool.true_or, IntWalk.i64_in, Int.toNat_natCast, toNat_succ, eq_self, decide_true]) | ((first | rw [condS_d] | rw [condS_b] | simp only [simD] | rw [goG_b] | rw [goQG_b] | rw [goCG_b] | rw [goQCG_b] | rw [goDG_t]); with_reducible apply And.intro <;> with_reducible intro hsp <;> first | (exfalso; omega) | (try simp only [hsp, decide_true, decide_false, Bool.not_true, Bool.not_false])) | (refine dcall_pivot rfl rfl rfl rfl ?_) | with_reducible intro _ | omega))
  all_goals exact fin_bool rfl
theorem law_far (s : List Page) (a n : Int) (hfar : PureC Tryd.prog G0 9 [stateA s] (.bool true)) :
    PureC Tryd.prog G0 3 [stateA s, .agg [.int .i64 a, .int .i64 n]] (.bool true) := by
  refine pure_of hmix b3 plainG ⟨plain_state, plain_agg (PlainL.all ⟨plain_int, plain_int, trivial⟩), trivial⟩ plain_bool ?_
  rw [c3]
  have h7 := k_awake
  simp only [stateA, pagesA] at *
  generalize s.map pageA = S at *
  (repeat' (first | with_reducible apply And.intro | refine goCall_pure (hfar) ?_ | refine goQCall_pure (hfar) ?_ | refine dcall_pure rfl rfl rfl (hfar) ?_ | refine goDCall_pure (hfar) ?_ | refine goCall_pure (h7) ?_ | refine goQCall_pure (h7) ?_ | refine dcall_pure rfl rfl rfl (h7) ?_ | refine goDCall_pure (h7) ?_ | (refine go_app2 rfl (by first  | rfl) (by first | decide | omega) ⟨by omega, by omega⟩ ?_) | (refine goD_app2 rfl (by first  | rfl) (by first | decide | omega) ⟨by omega, by omega⟩ ?_) | (refine regD_quiet rfl ?_) | (refine regD_go rfl ?_) | exact chk_ok rfl | (simp (config := { maxSteps := 4000000 }) (disch := first | (simp only [simC]; done) | omega) only [simK, List.contains_cons, List.contains_nil, sim, simL, simQ, simS, simG, simV, simB, simE, ev_load, ev_store, ev_bslice, ev_build, ev_slA, ev_slS, ev_clear, ev_append, app_eq, app1_ite, src_sl, simA, d_nil, d_op, d_opG, goD_some, goD_ite, goD_iteN, goDG_s, Hp.appD, load_ptr, load_iptr, store_ptr, part_t, part_f, cells_lk, vals_nil, vals_cons, parts_nil, parts_cons, fillL, over, AV.flat, AV.one, AV.cells, pureR_ite, pureR_iteN, bind_ite, map_ite, ldR_ite, stR_ite, clR_ite, goS_ite, goS_iteN, goQ_ite, goQ_iteN, finN, finR, resVs, resV, packV, nchkV, faddrV, fldV, extV, lenV, Hp.app, hasKey, puts, put, List.any_cons, List.any_nil, Option.bind_some, Option.bind_none, Option.map_some, Option.map_none, List.getElem?_cons_succ, List.getElem?_cons_zero, List.set_cons_succ, List.set_cons_zero, List.cons_append, List.nil_append, List.append_nil, List.replicate, List.drop_zero, List.drop_succ_cons, List.take_succ_cons, List.take_zero, List.length_cons, List.length_nil, decide_eq_true_eq, decide_true, decide_false, pick_u1, pick_u2, pick_t1, pick_t2, decide_eq_false_iff_not, Bool.not_true, Bool.not_false, Bool.not_eq_true, Bool.true_eq_false, Bool.false_eq_true, reduceCtorEq, Nat.reduceAdd, Nat.reduceSub, Nat.reduceMul, Nat.reduceLeDiff, Nat.reduceLT, Nat.reduceEqDiff, Nat.reduceBEq, Nat.zero_add, Nat.add_zero, reduceIte, if_true, if_false, and_true, true_and, and_false, false_and, true_implies, false_implies, implies_true, not_true_eq_false, not_false_eq_true, beq_self_eq_true, Bool.or_false, Bool.or_true, Bool.false_or, Bool.true_or, IntWalk.i64_in, Int.toNat_natCast, toNat_succ]) | ((first | rw [condS_d] | rw [condS_b] | simp only [simD] | rw [goG_b] | rw [goQG_b] | rw [goCG_b] | rw [goQCG_b] | rw [goDG_t]); with_reducible apply And.intro <;> with_reducible intro hsp <;> first | (exfalso; omega) | (try simp only [hsp, decide_true, decide_false, Bool.not_true, Bool.not_false])) | (refine dcall_pivot rfl rfl rfl rfl ?_) | with_reducible intro _ | omega))
  all_goals exact fin_bool rfl
theorem refSet_good {s : List Page} {a n : Int} {is : Bool} (hg : ∀ p ∈ s, goodP p) (han : a + n ≤ 65536) : (refSet s a n is).length ≤ s.length + 1024 ∧ ∀ p ∈ refSet s a n is, p.2.length ≤ 100 := by
  obtain ⟨h1, h2⟩ := setN_good (a := a) (n := n) (is := is) (p0 := (a / 64).toNat) hg (lastPg a n - (a / 64).toNat)
  have hl : lastPg a n ≤ 1024 := by unfold lastPg; omega
  exact ⟨Nat.le_trans h2 (by omega), fun p hp => (h1 p hp).1⟩
theorem k_law (s : List Page) (a n : Int) (hs : s.length ≤ 9223372036854775807) (hc : ∀ p ∈ s, p.2.length ≤ 9223372036854775807) :
    PureC Tryd.prog G0 3 [stateA s, .agg [.int .i64 a, .int .i64 n]] (.bool true) := by
  have hfar := k_far s hs hc
  by_cases hf : farM s = true
  · rw [hf] at hfar
    exact law_far s a n hfar
  · have hf' : farM s = false := by simpa using hf
    rw [hf'] at hfar
    obtain ⟨g1, g2, g3⟩ := far_false hf'
    have g4 : ∀ p ∈ s, p.2.length ≤ 100 := fun p hp => by have := g3 p hp; omega
    by_cases h0 : askM s a n = 0
    · obtain ⟨c0, ha, hn, han⟩ := ask_zero h0
      obtain ⟨hg, hcan⟩ := check_good c0
      have hlen := (check_valid c0).1
      have hgood : ∀ p ∈ s, goodP p := fun p hp => ⟨g4 p hp, (hg p hp).2.2⟩
      have w1 := k_wrote s a n (by omega) g4 fun _ => ⟨hg, ha, hn, han⟩
      have w2 := k_rwrote s a n (by omega) g4 fun _ => ⟨by omega, hgood, ha, hn, han⟩
      have w3 := k_zeroed s a n (by omega) g4 fun _ => ⟨hg, ha, hn, han⟩
      have w4 := k_rzeroed s a n (by omega) g4 fun _ => ⟨by omega, hgood, ha, hn, han⟩
      rw [if_pos h0, h0] at w1 w2 w3 w4
      rw [turn_ref bit_or hcan ha hn han] at w1
      rw [turn_ref bit_off hcan ha hn han] at w3
      have r1 := refSet_good (is := true) hgood han
      have r2 := refSet_good (is := false) hgood han
      exact law_walk s _ _ a n 0 hfar w1 w2 w3 w4 (k_same_self _ (by omega) r1.2) (k_same_self _ (by omega) r2.2)
    · have w1 := k_wrote s a n (by omega) g4 fun h => absurd h h0
      have w2 := k_rwrote s a n (by omega) g4 fun h => absurd h h0
      have w3 := k_zeroed s a n (by omega) g4 fun h => absurd h h0
      have w4 := k_rzeroed s a n (by omega) g4 fun h => absurd h h0
      rw [if_neg h0] at w1 w2 w3 w4
      have r : PureC Tryd.prog G0 15 [stateA [], stateA []] (.bool true) := k_same_self [] (by simp) (fun p hp => by cases hp)
      exact law_walk s [] [] a n _ hfar w1 w2 w3 w4 r r
end Go.Proofs.YtjhmknnokloneaaDoor
