/-
  New and Load of a queue.
-/
import Derived.Test.YtggkpagngnnjjaaQe
set_option linter.unusedSimpArgs false
set_option linter.unusedVariables false
namespace Go.Pol
open Go.Am
def x0 (age keep : Int) : QD := ⟨age, 0, keep, fun _ => 0, fun _ => 0, fun _ => 0, fun _ => [], S0 1024 1⟩
def QD.setRef (x : QD) (r : Int) : QD := ⟨x.age, r, x.keep, x.V, x.W, x.F, x.Q, x.S⟩
theorem GQ.setRef {x : QD} (h : GQ x) {r : Int} (hr : 0 ≤ r) : GQ (x.setRef r) := ⟨h.good, h.age_ok, h.keep_ok, hr, h.rng, h.srt, h.at_, h.fre⟩
theorem good_x0 {age keep : Int} (h1 : 0 ≤ age ∧ age ≤ 1000000000000) (h2 : 0 ≤ keep ∧ keep ≤ 1024) : GQ (x0 age keep) := ⟨good_0 (by decide) (by decide) (by decide), h1, h2, Int.le_refl _, fun s hs => (by cases hs), List.Pairwise.nil, fun s hs => (by cases hs), fun _ _ _ => rfl⟩
section
variable {l : List (Int × Int)}
theorem ltP_ne {a b : Int × Int} (h1 : ltP a b) (h2 : ltP b a) : False := by rw [ltP_iff] at *; omega
/-- A page whose number no page of a queue has. -/
theorem GQ.new_page {x : QD} (h : GQ x) {p : Nat} (hp : p < 1024) (hn : ∀ a, a ∈ x.pages → a.1 ≠ (p : Int)) : x.F p = 0 := h.fre p hp fun s hs e => hn (x.pg s) (List.mem_map.2 ⟨s, hs, rfl⟩) e
end
theorem qcells_plain {x : QD} : ∀ v ∈ x.cells, Plain v := cells_plain
theorem qends_plain {x : QD} : ∀ v ∈ x.ends, Plain v := ends_plain
end Go.Pol
namespace Go.Proofs.Ytggkpagngnnjjaa
open Go Go.Am Go.Pol
theorem wkl_px {σ : Nat → Nat} {h h' : Hp} {x : QD} {b c b' c' : Nat} (e1 : σ b' = b) (l1 : b' < h'.next) (e2 : σ c' = c) (l2 : c' < h'.next) : WkL Try.prog σ h h' (x.pool b c) (x.pool b' c') :=
  wkl_cons (wk_sl e1 l1 rfl (Nat.le_refl _) (Nat.le_refl _)) (wkl_cons (wk_sl e2 l2 rfl (Nat.le_refl _) (Nat.le_refl _)) (wkl_cons (wk_int rfl) wkl_nil))
theorem filt_nil : ∀ {l : List (Nat × AObj)} {k : List (Nat × AObj) → Prop}, k l → filtK [] l k := fun {l} => by
  induction l with
  | nil => exact fun h => h
  | cons a l ih => exact fun {k} h => ih (k := fun r => k (a :: r)) h
set_option maxRecDepth 20000 in
theorem cx_pnew {nx : Nat} {l : List (Nat × AObj)} {K : AV → Hp → Prop} (hk : K (.tup [.ptr nx 0, .int .i64 0]) ⟨[(nx, .cells [.sl (nx + 1) 0 1024 1024 5, .sl (nx + 2) 0 1 1 3, .int .i64 0]), (nx + 1, .cells (cellsB 1024 (fun _ => 0) (fun _ => 0) (S0 1024 1).L (S0 1024 1).N (S0 1024 1).P)), (nx + 2, .cells (endsB 1 (S0 1024 1).A (S0 1024 1).B (S0 1024 1).C))] ++ l, nx + 3⟩) :
    CallX Try.prog G0 (.fn 48 [] []) [.int .i64 1024, .int .i64 1] ⟨l, nx⟩ K := by
  have k0 : back [] nx 0 nx := rfl
  have k1 : back [] nx 1 (nx + 1) := rfl
  have k2 : back [] nx 2 (nx + 2) := rfl
  refine cx_loc (r' := .tup [.ptr nx 0, .int .i64 0]) (l1 := [(nx, .cells [.sl (nx + 1) 0 1024 1024 5, .sl (nx + 2) 0 1 1 3, .int .i64 0]), (nx + 1, .cells (cellsB 1024 (fun _ => 0) (fun _ => 0) (S0 1024 1).L (S0 1024 1).N (S0 1024 1).P)), (nx + 2, .cells (endsB 1 (S0 1024 1).A (S0 1024 1).B (S0 1024 1).C))]) [] (l_new 1024 1 (by decide) (by decide) (by decide) (by decide)) plainG rfl .nil (rnl_plain (by simp [plain_int])) (by simp) (rn_tup ⟨rn_ptr k0, rn_plain plain_int, trivial⟩)
    (.cons k0 ⟨rn_sl k1, rn_sl k2, rn_plain plain_int, trivial⟩ (.cons k1 (rnl_plain cells_plain) (.cons k2 (rnl_plain ends_plain) .nil))) (filt_nil hk)
section
variable {age ref keep : Int} {l : List (Int × Int)}
set_option maxHeartbeats 1600000 in
set_option maxRecDepth 20000 in
theorem q_new (h1 : 0 ≤ age ∧ age ≤ 1000000000000) (h2 : 0 ≤ keep ∧ keep ≤ 1024) : LocC Try.prog G0 26 [.int .i64 age, .int .i64 keep] [] 0 fun v h => v = .tup [.ptr 0 0, .int .i64 0] ∧ h = ⟨queS (x0 age keep), 4⟩ := by
  have hpol := k_policy age keep
  rw [if_neg (by omega)] at hpol
  refine loc_x hmix b26 rfl ?_
  unfold c26
  ((repeat' ((try (conv => whnf)); first | (with_reducible first | refine run_cons ?_ | refine runq_cons ?_ | refine code_seq ?_ | refine code_reg ?_ | refine code_cond ?_ | refine run_nil ?_ | refine runq_nil ?_ | refine rund_op rfl ?_ | refine rund_nil ?_ | refine code_block ?_ | refine code_skip ?_ | refine code_exit ?_ | refine code_ret ?_ | refine code_range ?_ | refine rund_fast (by decide +kernel) ?_ | refine rund_slow (by decide +kernel) ?_ | refine br_tt ?_ | refine br_ff ?_ | refine br_n ?_ | refine br_and ?_ | refine br_or ?_ | refine br_t (by assumption) ?_ | refine br_f (by assumption) ?_ | refine eq_i64 (by omega) ?_ | refine el_tn ?_) | (with_reducible refine br_d ?_ ?_ <;> intro hsp <;> first | (exfalso; omega) | skip) | ((with_reducible refine ck_x ?_ ?_); focus (first | omega | rfl | assumption | decide | (simp only [List.length_map, List.length_cons, List.length_nil]; omega))) | (with_reducible first | refine eq_tn ?_ | refine eq_tn1 ?_ | refine eq_tn2 ?_ | refine eq_m1 ?_ | refine eq_m2 ?_ | refine eq_zm ?_ | refine eq_z ?_ | refine len_map ?_ | refine len_sl ?_ | refine len_nils ?_ | refine len_own' ?_ | refine len_isl ?_ | refine eq_u8 (by omega) ?_ | refine eq_u16 (by omega) ?_) | (with_reducible first | refine eq_rfl ?_ | refine ChkX.mk (by kernel_rfl) ?_ | refine code_q rfl ?_ | refine code_d (by decide +kernel) ?_ | refine end_go rfl ?_) | refine cx_pure (hpol) ?_ | refine qcx (hpol) ?_ | refine dcx_pure (hpol) ?_ | refine cx_pnew ?_ | refine len_map ?_ | refine len_isl ?_ | refine el_of rfl rfl ?_ | refine del_own ?_ | refine del_own' rfl ?_ | refine as_go rfl ?_ | refine rd_go rfl ?_ | refine rg_end rfl ?_ | refine flat_ownX ?_ | (with_reducible refine br_b ?_ ?_ <;> intro hsp))) <;> (try (conv => whnf)))
  rw [memI_zero 1024]
  exact end_loc [(0, 3), (1, 0), (2, 1), (3, 2)] rfl (Nat.zero_le 4) (oneOf_of rfl) (wk_tup (wkl_cons (wk_ptr (i := 0) rfl (show 0 < 4 by decide)) (wkl_cons (wk_int rfl) wkl_nil)))
    (wko_cells (show 0 < 4 by decide) rfl (wkl_que (age := age) (ref := 0) (keep := keep) (k := 0) (pl := 0) (pl' := 1) (F := fun _ => 0) (subH_of rfl) rfl (show 1 < 4 by decide)) (wko_cells (show 1 < 4 by decide) rfl (wkl_cons (wk_sl (i := 2) rfl (show 2 < 4 by decide) rfl (Nat.le_refl _) (Nat.le_refl _)) (wkl_cons (wk_sl (i := 3) rfl (show 3 < 4 by decide) rfl (Nat.le_refl _) (Nat.le_refl _)) (wkl_cons (wk_int rfl) wkl_nil)))
    (wko_plain (subH_of rfl) (show 2 < 4 by decide) rfl rfl cells_plain (wko_plain (subH_of rfl) (show 3 < 4 by decide) rfl rfl ends_plain wko_nil)))) ⟨rfl, rfl⟩
set_option maxRecDepth 20000 in
theorem cx_qnew {nx : Nat} {l : List (Nat × AObj)} {K : AV → Hp → Prop} (h1 : 0 ≤ age ∧ age ≤ 1000000000000) (h2 : 0 ≤ keep ∧ keep ≤ 1024) (hk : K (.tup [.ptr nx 0, .int .i64 0]) ⟨[(nx, .cells ((x0 age keep).que (nx + 1))), (nx + 1, .cells ((x0 age keep).pool (nx + 2) (nx + 3))), (nx + 2, .cells (x0 age keep).cells), (nx + 3, .cells (x0 age keep).ends)] ++ l, nx + 4⟩) :
    CallX Try.prog G0 (.fn 26 [] []) [.int .i64 age, .int .i64 keep] ⟨l, nx⟩ K := by
  have k0 : back [] nx 0 nx := rfl
  have k1 : back [] nx 1 (nx + 1) := rfl
  have k2 : back [] nx 2 (nx + 2) := rfl
  have k3 : back [] nx 3 (nx + 3) := rfl
  have hS : RnS (back [] nx) (queS (x0 age keep)) [(nx, .cells ((x0 age keep).que (nx + 1))), (nx + 1, .cells ((x0 age keep).pool (nx + 2) (nx + 3))), (nx + 2, .cells (x0 age keep).cells), (nx + 3, .cells (x0 age keep).ends)] :=
    .cons k0 (show RnL (back [] nx) (queB age 0 keep 0 1 fun _ => 0) (queB age 0 keep 0 (nx + 1) fun _ => 0) from ⟨rn_plain plain_int, rn_plain plain_int, rn_plain plain_int, rn_plain plain_int, rn_ptr k1, rnl_plain (memI_plain 1024 fun _ => 0)⟩) (.cons k1 ⟨rn_sl k2, rn_sl k3, rn_plain plain_int, trivial⟩ (.cons k2 (rnl_plain cells_plain) (.cons k3 (rnl_plain ends_plain) .nil)))
  exact cx_loc [] (q_new h1 h2) plainG rfl .nil (rnl_plain (by simp [plain_int])) (by simp) (rn_tup (show RnL (back [] nx) [.ptr 0 0, .int .i64 0] [.ptr nx 0, .int .i64 0] from ⟨rn_ptr k0, rn_plain plain_int, trivial⟩)) hS (filt_nil hk)
end
end Go.Proofs.Ytggkpagngnnjjaa
