/-
  What is asked ahead of a call: ask.
-/
import Derived.Test.YtjhmknnokloneaaDoorZd
set_option linter.unusedSimpArgs false
set_option linter.unusedVariables false
namespace Go.Proofs.YtjhmknnokloneaaDoor
open Go Go.Am Go.Pol
def askM (s : List Page) (a b : Int) : Int := if checkM s = 0 then (if okZone a b then 0 else 7) else checkM s
theorem k_ask (s : List Page) (a b : Int) (hs : s.length ≤ 2000) (hc : ∀ p ∈ s, p.2.length ≤ 100) : PureC Tryd.prog G0 35 [stateA s, .int .i64 a, .int .i64 b] (.int .i64 (askM s a b)) := by
  refine pure_of hmix b35 plainG ⟨plain_state, plain_int, plain_int, trivial⟩ plain_int ?_
  have kc := k_check s hs hc
  rw [c35]
  rw [stateA] at *
  (repeat' (first | with_reducible apply And.intro | refine goCall_pure (kc) ?_ | refine goQCall_pure (kc) ?_ | refine dcall_pure rfl rfl rfl (kc) ?_ | refine goDCall_pure (kc) ?_ | (refine go_app2 rfl (by first  | rfl) (by first | decide | omega) ⟨by omega, by omega⟩ ?_) | (refine goD_app2 rfl (by first  | rfl) (by first | decide | omega) ⟨by omega, by omega⟩ ?_) | (refine regD_quiet rfl ?_) | (refine regD_go rfl ?_) | exact chk_ok rfl | (simp (config := { maxSteps := 4000000 }) (disch := first | (simp only [simC]; done) | omega) only [simK, List.contains_cons, List.contains_nil, sim, simL, simQ, simS, simG, simV, simB, simE, ev_load, ev_store, ev_bslice, ev_build, ev_slA, ev_slS, ev_clear, ev_append, app_eq, app1_ite, src_sl, simA, d_nil, d_op, d_opG, goD_some, goD_ite, goD_iteN, goDG_s, Hp.appD, load_ptr, load_iptr, store_ptr, part_t, part_f, cells_lk, vals_nil, vals_cons, parts_nil, parts_cons, fillL, over, AV.flat, AV.one, AV.cells, pureR_ite, pureR_iteN, bind_ite, map_ite, ldR_ite, stR_ite, clR_ite, goS_ite, goS_iteN, goQ_ite, goQ_iteN, finN, finR, resVs, resV, packV, nchkV, faddrV, fldV, extV, lenV, Hp.app, hasKey, puts, put, List.any_cons, List.any_nil, Option.bind_some, Option.bind_none, Option.map_some, Option.map_none, List.getElem?_cons_succ, List.getElem?_cons_zero, List.set_cons_succ, List.set_cons_zero, List.cons_append, List.nil_append, List.append_nil, List.replicate, List.drop_zero, List.drop_succ_cons, List.take_succ_cons, List.take_zero, List.length_cons, List.length_nil, decide_eq_true_eq, decide_true, decide_false, pick_u1, pick_u2, pick_t1, pick_t2, decide_eq_false_iff_not, Bool.not_true, Bool.not_false, Bool.not_eq_true, Bool.true_eq_false, Bool.false_eq_true, reduceCtorEq, Nat.reduceAdd, Nat.reduceSub, Nat.reduceMul, Nat.reduceLeDiff, Nat.reduceLT, Nat.reduceEqDiff, Nat.reduceBEq, Nat.zero_add, Nat.add_zero, reduceIte, if_true, if_false, and_true, true_and, and_false, false_and, true_implies, false_implies, implies_true, not_true_eq_false, not_false_eq_true, beq_self_eq_true, Bool.or_false, Bool.or_true, Bool.false_or, Bool.true_or, IntWalk.i64_in, Int.toNat_natCast, toNat_succ]) | ((first | rw [condS_d] | rw [condS_b] | simp only [simD] | rw [goG_b] | rw [goQG_b] | rw [goCG_b] | rw [goQCG_b] | rw [goDG_t]); with_reducible apply And.intro <;> with_reducible intro hsp <;> first | (exfalso; omega) | (try simp only [hsp, decide_true, decide_false, Bool.not_true, Bool.not_false])) | (refine dcall_pivot rfl rfl rfl rfl ?_) | with_reducible intro _ | omega))
  all_goals refine fin_int ?_
  all_goals simp only [askM, okZone, *]
  all_goals simp
  all_goals omega
end Go.Proofs.YtjhmknnokloneaaDoor
