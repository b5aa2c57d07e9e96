/-
  LinksLoads: the walk of the law.
-/
import Derived.Test.YtnddcnnangjgeaaMe
set_option linter.unusedSimpArgs false
set_option linter.unusedVariables false
namespace Go.Proofs.Ytnddcnnangjgeaa
open Go Go.Am Go.Pol
def poolAt (a n m : Nat) (V : Nat → Int) (S : PS) : List (Nat × AObj) := [(a, .cells [.sl (a + 1) 0 n n 4, .sl (a + 2) 0 m m 3, .int .i64 (S.fr : Nat)]), (a + 1, .cells (cellsB n V S.L S.N S.P)), (a + 2, .cells (endsB m S.A S.B S.C))]
section
variable {n m : Nat} {V L N P A B C : Nat → Int} {Q : Nat → List Nat}
theorem cx_load {nx : Nat} {l : List (Nat × AObj)} {K : AV → Hp → Prop} (hst : St n m L N P A B C Q) (hc : PureC Try.prog G0 19 [stateLk n m V L N P A B] fineA) (hn : 1 ≤ n) (hn2 : n ≤ 2000) (hm : 1 ≤ m) (hm2 : m ≤ 64)
    (hk : ∀ V' S', GoodP n m V' Q S' → valQ V V' Q → K (.tup [.ptr nx 0, .int .i64 0]) ⟨poolAt nx n m V' S' ++ l, nx + 3⟩) : CallX Try.prog G0 (.fn 21 [] []) [stateLk n m V L N P A B] ⟨l, nx⟩ K := by
  refine ⟨fun c u vs hR hG hmm hu hargs => ?_⟩
  refine callV_loc (h := ⟨l, nx⟩) (K := fun v h' => ∃ hx, Hq h' hx ∧ K v hx) [] (l_load hst hc hn hn2 hm hm2) plainG rfl .nil (rnl_plain (by simp [plain_stateLk])) (by simp) ?_ c u vs hR hG hmm hu hargs
  rintro x h1 ⟨V', S', hg, hv, rfl, rfl⟩
  have k0 : back [] nx 0 nx := rfl
  have k1 : back [] nx 1 (nx + 1) := rfl
  have k2 : back [] nx 2 (nx + 2) := rfl
  refine ⟨.tup [.ptr nx 0, .int .i64 0], poolAt nx n m V' S', rn_tup ⟨rn_ptr k0, rn_plain plain_int, trivial⟩,
    .cons k0 ⟨rn_sl k1, rn_sl k2, rn_plain plain_int, trivial⟩ (.cons k1 (rnl_plain cells_plain) (.cons k2 (rnl_plain ends_plain) .nil)), ⟨poolAt nx n m V' S' ++ l, nx + 3⟩, ⟨?_, rfl⟩, hk V' S' hg hv⟩
  have e : l.filter (fun q => !([] : List Nat).contains q.1) = l := List.filter_eq_self.2 fun _ _ => rfl
  rw [e]
  refine lk_app2 fun i o o' h1 h2 => ?_
  have hlt : i < nx := (hmm.U i).1 (hR.used i o (by rw [hmm.at_]; exact h1))
  simp only [poolAt, lk] at h2
  repeat' (split at h2)
  all_goals first | omega | cases h2
def listsAt (a n m : Nat) (V : Nat → Int) (Q : Nat → List Nat) : List (Nat × AObj) := [(a, .cells (ofB m Q)), (a + 1, .cells (memI n V))]
theorem cx_rload {nx : Nat} {l : List (Nat × AObj)} {K : AV → Hp → Prop} (hst : St n m L N P A B C Q) (hc : PureC Try.prog G0 20 [stateLk n m V L N P A B] fineA) (hn : 1 ≤ n) (hn2 : n ≤ 2000) (hm : 1 ≤ m) (hm2 : m ≤ 64)
    (hk : ∀ V', valZ V V' Q → K (.tup [.agg [.int .i64 (n : Nat), .sl nx 0 m m 1, .sl (nx + 1) 0 n n 1], .int .i64 0]) ⟨listsAt nx n m V' Q ++ l, nx + 2⟩) : CallX Try.prog G0 (.fn 22 [] []) [stateLk n m V L N P A B] ⟨l, nx⟩ K := by
  refine ⟨fun c u vs hR hG hmm hu hargs => ?_⟩
  refine callV_loc (h := ⟨l, nx⟩) (K := fun v h' => ∃ hx, Hq h' hx ∧ K v hx) [] (r_load hst hc hn hn2 hm hm2) plainG rfl .nil (rnl_plain (by simp [plain_stateLk])) (by simp) ?_ c u vs hR hG hmm hu hargs
  rintro x h1 ⟨V', hv, rfl, rfl⟩
  have k0 : back [] nx 0 nx := rfl
  have k1 : back [] nx 1 (nx + 1) := rfl
  refine ⟨.tup [.agg [.int .i64 (n : Nat), .sl nx 0 m m 1, .sl (nx + 1) 0 n n 1], .int .i64 0], listsAt nx n m V' Q, rn_tup ⟨rn_agg ⟨rn_plain plain_int, rn_sl k0, rn_sl k1, trivial⟩, rn_plain plain_int, trivial⟩,
    .cons k0 (rnl_plain (of_plain _ _)) (.cons k1 (rnl_plain (memI_plain _ _)) .nil), ⟨listsAt nx n m V' Q ++ l, nx + 2⟩, ⟨?_, rfl⟩, hk V' hv⟩
  have e : l.filter (fun q => !([] : List Nat).contains q.1) = l := List.filter_eq_self.2 fun _ _ => rfl
  rw [e]
  refine lk_app2 fun i o o' h1 h2 => ?_
  have hlt : i < nx := (hmm.U i).1 (hR.used i o (by rw [hmm.at_]; exact h1))
  simp only [listsAt, lk] at h2
  repeat' (split at h2)
  all_goals first | omega | cases h2
theorem saved_eq {V' Vr : Nat → Int} {S' : PS} (hst : St n m L N P A B C Q) (hC : ∀ i, i < m → C i = ((Q i).length : Nat)) (hg : GoodP n m V' Q S') (h1 : valQ V V' Q) (h2 : valZ V Vr Q) : saveS n m V' S' = stateLk n m Vr L N P A B := by
  obtain ⟨e1, e2⟩ := hg.inv.st.uniq hst
  have hv : ∀ s, s < n → V' s = Vr s := fun s hs => by
    by_cases hu : ∃ j, s ∈ Q j
    · obtain ⟨j, hj⟩ := hu; rw [h1 j s hj, h2.1 j s hj]
    · have hn : ∀ j, s ∉ Q j := fun j hj => hu ⟨j, hj⟩
      rw [hg.inv.val s hs (hg.inv.st.unused hs hn), h2.2 s hn]
  unfold saveS stateLk
  rw [intsL_congr hv, intsL_congr fun s hs => (e1 s hs).1, intsL_congr fun s hs => (e1 s hs).2.1, intsL_congr fun s hs => (e1 s hs).2.2, intsL_congr fun i hi => (e2 i hi).1, intsL_congr fun i hi => (e2 i hi).2]
theorem loads_far {a b c d : Nat} (h : (200 < n ∧ n ≤ 2000) ∨ 2100 < n ∨ 2100 < a ∨ 2100 < b ∨ 2100 < c ∨ 100 < m ∨ 100 < d) : PureC Try.prog G0 4 [stateG a n b c m d V L N P A B] (.bool true) := by
  have zk := PureS.mk k_awake
  refine pure_x hmix b4 plainG ⟨plain_stG, trivial⟩ plain_bool rfl ?_
  unfold c4 stateG intsL
  ((repeat' ((try (conv => whnf)); first | (with_reducible first | refine run_cons ?_ | refine runq_cons ?_ | refine code_seq ?_ | refine code_reg ?_ | refine code_cond ?_ | refine run_nil ?_ | refine runq_nil ?_ | refine rund_op rfl ?_ | refine rund_nil ?_ | refine code_block ?_ | refine code_skip ?_ | refine code_exit ?_ | refine code_ret ?_ | refine code_range ?_ | refine rund_fast (by decide +kernel) ?_ | refine rund_slow (by decide +kernel) ?_ | refine br_tt ?_ | refine br_ff ?_ | refine br_n ?_ | refine br_and ?_ | refine br_or ?_ | refine br_t (by assumption) ?_ | refine br_f (by assumption) ?_ | refine eq_i64 (by omega) ?_ | refine el_tn ?_) | refine len_ints ?_ | (with_reducible refine br_d ?_ ?_ <;> intro hsp <;> first | (exfalso; omega) | skip) | ((with_reducible refine ck_x ?_ ?_); focus (first | omega | rfl | assumption | decide | (simp only [List.length_map, List.length_cons, List.length_nil]; omega))) | (with_reducible first | refine eq_tn ?_ | refine eq_tn1 ?_ | refine eq_tn2 ?_ | refine eq_m1 ?_ | refine eq_m2 ?_ | refine eq_zm ?_ | refine eq_z ?_ | refine len_map ?_ | refine len_sl ?_ | refine len_nils ?_ | refine len_own' ?_ | refine len_isl ?_ | refine eq_u8 (by omega) ?_ | refine eq_u16 (by omega) ?_) | (with_reducible first | refine eq_rfl ?_ | refine ChkX.mk (by kernel_rfl) ?_ | refine code_q rfl ?_ | refine code_d (by decide +kernel) ?_ | refine end_go rfl ?_) | refine cx_pureS zk ?_ | refine len_map ?_ | refine len_isl ?_ | refine el_of rfl rfl ?_ | refine del_own ?_ | refine del_own' rfl ?_ | refine as_go rfl ?_ | refine rd_go rfl ?_ | refine rg_end rfl ?_ | refine flat_ownX ?_ | (with_reducible refine br_b ?_ ?_ <;> intro hsp))) <;> (try (conv => whnf)))
  all_goals exact end_bool rfl
theorem loads_bad {a b c d : Nat} {w i : Int} (hf : ¬ ((200 < n ∧ n ≤ 2000) ∨ 2100 < n ∨ 2100 < a ∨ 2100 < b ∨ 2100 < c ∨ 100 < m ∨ 100 < d)) (h1 : PureC Try.prog G0 19 [stateG a n b c m d V L N P A B] (wrongA w i)) (h2 : PureC Try.prog G0 20 [stateG a n b c m d V L N P A B] (wrongA w i)) : PureC Try.prog G0 4 [stateG a n b c m d V L N P A B] (.bool true) := by
  have zk := PureS.mk k_awake
  have z1 := PureS.mk h1
  have z2 := PureS.mk h2
  have z3 := PureS.mk (l_load_no h1)
  have z4 := PureS.mk (r_load_no h2)
  unfold stateG intsL at z1 z2 z3 z4
  unfold wrongA at z1 z2
  refine pure_x hmix b4 plainG ⟨plain_stG, trivial⟩ plain_bool rfl ?_
  unfold c4 stateG intsL
  ((repeat' ((try (conv => whnf)); first | (with_reducible first | refine run_cons ?_ | refine runq_cons ?_ | refine code_seq ?_ | refine code_reg ?_ | refine code_cond ?_ | refine run_nil ?_ | refine runq_nil ?_ | refine rund_op rfl ?_ | refine rund_nil ?_ | refine code_block ?_ | refine code_skip ?_ | refine code_exit ?_ | refine code_ret ?_ | refine code_range ?_ | refine rund_fast (by decide +kernel) ?_ | refine rund_slow (by decide +kernel) ?_ | refine br_tt ?_ | refine br_ff ?_ | refine br_n ?_ | refine br_and ?_ | refine br_or ?_ | refine br_t (by assumption) ?_ | refine br_f (by assumption) ?_ | refine eq_i64 (by omega) ?_ | refine el_tn ?_) | refine len_ints ?_ | (with_reducible refine br_d ?_ ?_ <;> intro hsp <;> first | (exfalso; omega) | skip) | ((with_reducible refine ck_x ?_ ?_); focus (first | omega | rfl | assumption | decide | (simp only [List.length_map, List.length_cons, List.length_nil]; omega))) | (with_reducible first | refine eq_tn ?_ | refine eq_tn1 ?_ | refine eq_tn2 ?_ | refine eq_m1 ?_ | refine eq_m2 ?_ | refine eq_zm ?_ | refine eq_z ?_ | refine len_map ?_ | refine len_sl ?_ | refine len_nils ?_ | refine len_own' ?_ | refine len_isl ?_ | refine eq_u8 (by omega) ?_ | refine eq_u16 (by omega) ?_) | (with_reducible first | refine eq_rfl ?_ | refine ChkX.mk (by kernel_rfl) ?_ | refine code_d (by decide +kernel) ?_ | refine end_go rfl ?_) | refine cx_pureS z1 ?_ | refine cx_pureS z2 ?_ | refine cx_pureS z3 ?_ | refine cx_pureS z4 ?_ | refine cx_pureS zk ?_ | refine dcx_pureS zk ?_ | refine len_map ?_ | refine len_isl ?_ | refine el_of rfl rfl ?_ | refine del_own ?_ | refine del_own' rfl ?_ | refine as_go rfl ?_ | refine rd_go rfl ?_ | refine rg_end rfl ?_ | refine flat_ownX ?_ | (with_reducible refine br_b ?_ ?_ <;> intro hsp))) <;> (try (conv => whnf)))
  all_goals first | exact end_bool rfl | exact absurd rfl hsp | (exfalso; simp at hsp; done)
set_option maxHeartbeats 1600000 in
theorem loads_good (hst : St n m L N P A B C Q) (hC : ∀ i, i < m → C i = ((Q i).length : Nat)) (hn : 1 ≤ n) (hn2 : n ≤ 200) (hm : 1 ≤ m) (hm2 : m ≤ 64) (h1 : PureC Try.prog G0 19 [stateLk n m V L N P A B] fineA) (h2 : PureC Try.prog G0 20 [stateLk n m V L N P A B] fineA) : PureC Try.prog G0 4 [stateLk n m V L N P A B] (.bool true) := by
  have zk := PureS.mk k_awake
  have z1 := PureS.mk h1
  have z2 := PureS.mk h2
  have hll := fun {nx : Nat} {l : List (Nat × AObj)} {K : AV → Hp → Prop} => cx_load (V := V) (nx := nx) (l := l) (K := K) hst h1 hn (by omega) hm hm2
  have hlr := fun {nx : Nat} {l : List (Nat × AObj)} {K : AV → Hp → Prop} => cx_rload (V := V) (nx := nx) (l := l) (K := K) hst h2 hn (by omega) hm hm2
  unfold stateLk intsL at z1 z2 hll hlr
  unfold fineA at z1 z2
  refine pure_x hmix b4 plainG ⟨plain_stateLk, trivial⟩ plain_bool rfl ?_
  unfold c4 stateLk intsL
  ((repeat' ((try (conv => whnf)); first | (with_reducible first | refine run_cons ?_ | refine runq_cons ?_ | refine code_seq ?_ | refine code_reg ?_ | refine code_cond ?_ | refine run_nil ?_ | refine runq_nil ?_ | refine rund_op rfl ?_ | refine rund_nil ?_ | refine code_block ?_ | refine code_skip ?_ | refine code_exit ?_ | refine code_ret ?_ | refine code_range ?_ | refine rund_fast (by decide +kernel) ?_ | refine rund_slow (by decide +kernel) ?_ | refine br_tt ?_ | refine br_ff ?_ | refine br_n ?_ | refine br_and ?_ | refine br_or ?_ | refine br_t (by assumption) ?_ | refine br_f (by assumption) ?_ | refine eq_i64 (by omega) ?_ | refine el_tn ?_) | refine len_ints ?_ | (with_reducible refine br_d ?_ ?_ <;> intro hsp <;> first | (exfalso; omega) | skip) | ((with_reducible refine ck_x ?_ ?_); focus (first | omega | rfl | assumption | decide | (simp only [List.length_map, List.length_cons, List.length_nil]; omega))) | (with_reducible first | refine eq_tn ?_ | refine eq_tn1 ?_ | refine eq_tn2 ?_ | refine eq_m1 ?_ | refine eq_m2 ?_ | refine eq_zm ?_ | refine eq_z ?_ | refine len_map ?_ | refine len_sl ?_ | refine len_nils ?_ | refine len_own' ?_ | refine len_isl ?_ | refine eq_u8 (by omega) ?_ | refine eq_u16 (by omega) ?_) | (with_reducible first | refine eq_rfl ?_ | refine ChkX.mk (by kernel_rfl) ?_ | refine code_d (by decide +kernel) ?_ | refine end_go rfl ?_) | refine cx_pureS z1 ?_ | refine cx_pureS z2 ?_ | refine hll ?_ | refine len_map ?_ | refine len_isl ?_ | refine el_of rfl rfl ?_ | refine del_own ?_ | refine del_own' rfl ?_ | refine as_go rfl ?_ | refine rd_go rfl ?_ | refine rg_end rfl ?_ | refine flat_ownX ?_ | (with_reducible refine br_b ?_ ?_ <;> intro hsp))) <;> (try (conv => whnf)))
  intro V' S' hg hv
  ((repeat' ((try (conv => whnf)); first | (with_reducible first | refine run_cons ?_ | refine runq_cons ?_ | refine code_seq ?_ | refine code_reg ?_ | refine code_cond ?_ | refine run_nil ?_ | refine runq_nil ?_ | refine rund_op rfl ?_ | refine rund_nil ?_ | refine code_block ?_ | refine code_skip ?_ | refine code_exit ?_ | refine code_ret ?_ | refine code_range ?_ | refine rund_fast (by decide +kernel) ?_ | refine rund_slow (by decide +kernel) ?_ | refine br_tt ?_ | refine br_ff ?_ | refine br_n ?_ | refine br_and ?_ | refine br_or ?_ | refine br_t (by assumption) ?_ | refine br_f (by assumption) ?_ | refine eq_i64 (by omega) ?_ | refine el_tn ?_) | refine len_ints ?_ | (with_reducible refine br_d ?_ ?_ <;> intro hsp <;> first | (exfalso; omega) | skip) | ((with_reducible refine ck_x ?_ ?_); focus (first | omega | rfl | assumption | decide | (simp only [List.length_map, List.length_cons, List.length_nil]; omega))) | (with_reducible first | refine eq_tn ?_ | refine eq_tn1 ?_ | refine eq_tn2 ?_ | refine eq_m1 ?_ | refine eq_m2 ?_ | refine eq_zm ?_ | refine eq_z ?_ | refine len_map ?_ | refine len_sl ?_ | refine len_nils ?_ | refine len_own' ?_ | refine len_isl ?_ | refine eq_u8 (by omega) ?_ | refine eq_u16 (by omega) ?_) | (with_reducible first | refine eq_rfl ?_ | refine ChkX.mk (by kernel_rfl) ?_ | refine code_d (by decide +kernel) ?_ | refine end_go rfl ?_) | refine hlr ?_ | refine len_map ?_ | refine len_isl ?_ | refine el_of rfl rfl ?_ | refine del_own ?_ | refine del_own' rfl ?_ | refine as_go rfl ?_ | refine rd_go rfl ?_ | refine rg_end rfl ?_ | refine flat_ownX ?_ | (with_reducible refine br_b ?_ ?_ <;> intro hsp))) <;> (try (conv => whnf)))
  intro Vr hr
  have w0 := p_save hg hm
  rw [saved_eq hst hC hg hv hr] at w0
  have v0 := q_save (V := Vr) hst hn (by omega) hm hm2 (fun i => Nat.le_trans (hg.inv.len i) (by omega))
  have zs := PureS.mk (k_same n m Vr L N P A B (by omega) hm2)
  ((repeat' ((try (conv => whnf)); first | (with_reducible first | refine run_cons ?_ | refine runq_cons ?_ | refine code_seq ?_ | refine code_reg ?_ | refine code_cond ?_ | refine run_nil ?_ | refine runq_nil ?_ | refine rund_op rfl ?_ | refine rund_nil ?_ | refine code_block ?_ | refine code_skip ?_ | refine code_exit ?_ | refine code_ret ?_ | refine code_range ?_ | refine rund_fast (by decide +kernel) ?_ | refine rund_slow (by decide +kernel) ?_ | refine br_tt ?_ | refine br_ff ?_ | refine br_n ?_ | refine br_and ?_ | refine br_or ?_ | refine br_t (by assumption) ?_ | refine br_f (by assumption) ?_ | refine eq_i64 (by omega) ?_ | refine el_tn ?_) | refine len_ints ?_ | (with_reducible refine br_d ?_ ?_ <;> intro hsp <;> first | (exfalso; omega) | skip) | ((with_reducible refine ck_x ?_ ?_); focus (first | omega | rfl | assumption | decide | (simp only [List.length_map, List.length_cons, List.length_nil]; omega))) | (with_reducible first | refine eq_tn ?_ | refine eq_tn1 ?_ | refine eq_tn2 ?_ | refine eq_m1 ?_ | refine eq_m2 ?_ | refine eq_zm ?_ | refine eq_z ?_ | refine len_map ?_ | refine len_sl ?_ | refine len_nils ?_ | refine len_own' ?_ | refine len_isl ?_ | refine eq_u8 (by omega) ?_ | refine eq_u16 (by omega) ?_) | (with_reducible first | refine eq_rfl ?_ | refine ChkX.mk (by kernel_rfl) ?_ | refine code_d (by decide +kernel) ?_ | refine end_go rfl ?_) | refine cx_pool w0 rfl rfl rfl (by decide) (by simp [plain_int, plain_bool]) plain_stateLk rfl ?_ | refine dcx_pool w0 rfl rfl rfl (by simp [plain_int, plain_bool]) plain_stateLk rfl rfl ?_ | refine cx_ref v0 rfl rfl rfl (by decide) (by simp) plain_stateLk rfl ?_ | refine dcx_ref v0 rfl rfl rfl (by simp) plain_stateLk rfl rfl ?_ | refine cx_pureS zs ?_ | refine dcx_pureS zs ?_ | refine cx_pureS zk ?_ | refine dcx_pureS zk ?_ | refine len_map ?_ | refine len_isl ?_ | refine el_of rfl rfl ?_ | refine del_own ?_ | refine del_own' rfl ?_ | refine as_go rfl ?_ | refine rd_go rfl ?_ | refine rg_end rfl ?_ | refine flat_ownX ?_ | (with_reducible refine br_b ?_ ?_ <;> intro hsp))) <;> (try (conv => whnf)))
  all_goals first | exact end_bool rfl | exact absurd rfl hsp | (exfalso; simp at hsp; done)
end
end Go.Proofs.Ytnddcnnangjgeaa
