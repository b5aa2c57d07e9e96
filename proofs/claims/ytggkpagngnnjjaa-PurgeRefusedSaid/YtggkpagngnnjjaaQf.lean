/-
  New and Load of a queue.
-/
import Derived.Test.YtggkpagngnnjjaaQe
set_option linter.unusedSimpArgs false
set_option linter.unusedVariables false
namespace Go.Pol
open Go.Am
def x0 (age keep : Int) : QD := ⟨age, 0, keep, fun _ => 0, fun _ => 0, fun _ => 0, fun _ => [], S0 1024 1⟩
def QD.setRef (x : QD) (r : Int) : QD := ⟨x.age, r, x.keep, x.V, x.W, x.F, x.Q, x.S⟩
theorem GQ.setRef {x : QD} (h : GQ x) {r : Int} (hr : 0 ≤ r) : GQ (x.setRef r) := ⟨h.good, h.age_ok, h.keep_ok, hr, h.rng, h.srt, h.at_, h.fre⟩
theorem good_x0 {age keep : Int} (h1 : 0 ≤ age ∧ age ≤ 1000000000000) (h2 : 0 ≤ keep ∧ keep ≤ 1024) : GQ (x0 age keep) := ⟨good_0 (by decide) (by decide) (by decide), h1, h2, Int.le_refl _, fun s hs => (by cases hs), List.Pairwise.nil, fun s hs => (by cases hs), fun _ _ _ => rfl⟩
section
variable {l : List (Int × Int)}
theorem adj_lt (h1 : P2 l) (h2 : P3 l) {j : Nat} (hj : j + 1 < l.length) : ltP (nth d0 l j) (nth d0 l (j + 1)) := by
  have a := h1 j hj
  have b := h2 j (j + 1) (by omega) hj
  rw [ltP_iff] at a ⊢
  omega
theorem all_lt (h1 : P2 l) (h2 : P3 l) {j : Nat} : ∀ d, j + d + 1 < l.length → ltP (nth d0 l j) (nth d0 l (j + d + 1))
  | 0, h => adj_lt h1 h2 h
  | d + 1, h => ltP_trans (all_lt h1 h2 d (by omega)) (adj_lt h1 h2 (j := j + d + 1) h)
theorem take_lt (h1 : P2 l) (h2 : P3 l) {i : Nat} (hi : i < l.length) : ∀ a, a ∈ l.take i → ltP a (nth d0 l i) := fun a ha => by
  obtain ⟨j, hj, e⟩ := List.mem_iff_getElem.1 ha
  rw [List.length_take] at hj
  rw [List.getElem_take] at e
  have := all_lt h1 h2 (j := j) (i - j - 1) (by omega)
  rw [show j + (i - j - 1) + 1 = i by omega, nth_get (show j < l.length by omega), e] at this
  exact this
theorem ltP_ne {a b : Int × Int} (h1 : ltP a b) (h2 : ltP b a) : False := by rw [ltP_iff] at *; omega
/-- A page that is put behind all others. -/
theorem put_end {X Y : List (Int × Int)} {a : Int × Int} {L : List (Int × Int)} (hL : ∀ b, b ∈ L → ltP b a) (h1 : L = X ++ Y) (h2 : ∀ b, b ∈ Y → ltP a b) : X ++ a :: Y = L ++ [a] := by
  cases Y with
  | nil => rw [h1, List.append_nil]
  | cons b Y => exact (ltP_ne (hL b (by rw [h1]; simp)) (h2 b (List.mem_cons_self ..))).elim
/-- A page whose number no page of a queue has. -/
theorem GQ.new_page {x : QD} (h : GQ x) {p : Nat} (hp : p < 1024) (hn : ∀ a, a ∈ x.pages → a.1 ≠ (p : Int)) : x.F p = 0 := h.fre p hp fun s hs e => hn (x.pg s) (List.mem_map.2 ⟨s, hs, rfl⟩) e
end
theorem qcells_plain {x : QD} : ∀ v ∈ x.cells, Plain v := cells_plain
theorem qends_plain {x : QD} : ∀ v ∈ x.ends, Plain v := ends_plain
end Go.Pol
namespace Go.Proofs.Ytggkpagngnnjjaa
open Go Go.Am Go.Pol
theorem wkx_Qf {p : Prop} (h : p := by (refine weak_s (by exact oneOf_of rfl) (by exact subH_of rfl) (by intro hs; (repeat' ((try (conv => whnf)); first | with_reducible exact True.intro | with_reducible refine And.intro ?_ ?_ | (with_reducible refine WkX.mk ?_; first | exact wk_undef | exact wk_int (by first | rfl | omega | (dsimp only; omega)) | exact wk_bool rfl | exact wk_ptr rfl (by first | decide | simp | omega) | exact wk_sl rfl (by first | decide | simp | omega) (by first | rfl | omega | simp) (by first | omega | simp) (by first | omega | simp) | exact wkl_que hs rfl (by first | decide | omega | simp) | exact wkl_px rfl (by first | decide | omega | simp) rfl (by first | decide | omega | simp) | exact wk_own rfl (by first | decide | simp | omega) | exact wk_nil0 (by first | rfl | simp) | exact wk_slown rfl (by first | decide | omega | (simp; done)) (by first | omega | (simp; done)) (by first | rfl | omega | (simp; done) | (simp; omega)) | exact wk_plain hs (by (first | assumption | exact plain_int | exact plain_bool | exact plain_undef | exact plain_nils | exact plain_nilp | exact plain_nilf | exact plain_str | with_reducible apply plain_pg | with_reducible apply plain_pgs | with_reducible apply plain_pgA)) | (with_reducible refine wk_fn ?_ ?_ <;> repeat' (first | with_reducible exact wkl_nil | with_reducible refine wkl_cons ?_ ?_ | exact wk_ptr rfl (by first | decide | simp | omega))) | (with_reducible refine wk_agg ?_; repeat' (first | with_reducible exact wkl_nil | with_reducible refine wkl_cons ?_ ?_ | exact wk_int (by first | rfl | omega | (dsimp only; omega)) | exact wk_bool rfl)) | exact wk_yld rfl (by first | decide | simp | omega))))) (by intro hs; (try dsimp only); (repeat' (first | with_reducible exact wko_nil | refine wko_plain hs (by first | decide | omega | simp) rfl (by first | rfl) (by (first | with_reducible assumption | with_reducible apply cells_plain | with_reducible apply ends_plain | with_reducible apply memI_plain _ _ | with_reducible apply pgA_plain _ | with_reducible apply qcells_plain | with_reducible apply qends_plain | with_reducible apply plain_map (fun _ => plain_int) | with_reducible apply plain_map (fun _ => plain_bool) | ((repeat' (first | exact plain_all0 | refine plain_all2 ?_ ?_ | exact plain_int | first | assumption | exact plain_int | exact plain_bool | exact plain_undef | exact plain_nils | exact plain_nilp | exact plain_nilf | exact plain_str | with_reducible apply plain_pg | with_reducible apply plain_pgs | with_reducible apply plain_pgA)); done) | ((refine plain_app ?_ ?_) <;> (first | with_reducible assumption | with_reducible apply cells_plain | with_reducible apply ends_plain | with_reducible apply memI_plain _ _ | with_reducible apply pgA_plain _ | with_reducible apply qcells_plain | with_reducible apply qends_plain | with_reducible apply plain_map (fun _ => plain_int) | with_reducible apply plain_map (fun _ => plain_bool) | ((repeat' (first | exact plain_all0 | refine plain_all2 ?_ ?_ | exact plain_int | first | assumption | exact plain_int | exact plain_bool | exact plain_undef | exact plain_nils | exact plain_nilp | exact plain_nilf | exact plain_str | with_reducible apply plain_pg | with_reducible apply plain_pgs | with_reducible apply plain_pgA)); done))))) ?_ | refine wko_cells (by first | decide | omega | simp) rfl (by repeat' (first | with_reducible exact wkl_nil | with_reducible refine wkl_cons ?_ ?_ | (first | exact wk_undef | exact wk_int (by first | rfl | omega | (dsimp only; omega)) | exact wk_bool rfl | exact wk_ptr rfl (by first | decide | simp | omega) | exact wk_sl rfl (by first | decide | simp | omega) (by first | rfl | omega | simp) (by first | omega | simp) (by first | omega | simp) | exact wkl_que hs rfl (by first | decide | omega | simp) | exact wkl_px rfl (by first | decide | omega | simp) rfl (by first | decide | omega | simp) | exact wk_own rfl (by first | decide | simp | omega) | exact wk_nil0 (by first | rfl | simp) | exact wk_slown rfl (by first | decide | omega | (simp; done)) (by first | omega | (simp; done)) (by first | rfl | omega | (simp; done) | (simp; omega)) | exact wk_plain hs (by (first | assumption | exact plain_int | exact plain_bool | exact plain_undef | exact plain_nils | exact plain_nilp | exact plain_nilf | exact plain_str | with_reducible apply plain_pg | with_reducible apply plain_pgs | with_reducible apply plain_pgA)) | (with_reducible refine wk_fn ?_ ?_ <;> repeat' (first | with_reducible exact wkl_nil | with_reducible refine wkl_cons ?_ ?_ | exact wk_ptr rfl (by first | decide | simp | omega))) | (with_reducible refine wk_agg ?_; repeat' (first | with_reducible exact wkl_nil | with_reducible refine wkl_cons ?_ ?_ | exact wk_int (by first | rfl | omega | (dsimp only; omega)) | exact wk_bool rfl)) | exact wk_yld rfl (by first | decide | simp | omega)))) ?_ | refine wko_loop (by first | decide | omega | simp) rfl (by ((try subst hF); (try subst hF2); exact wkl_sd (wkf_sget (by (repeat' ((try (conv => whnf)); first | with_reducible exact True.intro | with_reducible refine And.intro ?_ ?_ | (with_reducible refine WkX.mk ?_; first | exact wk_undef | exact wk_int (by first | rfl | omega | (dsimp only; omega)) | exact wk_bool rfl | exact wk_ptr rfl (by first | decide | simp | omega) | exact wk_sl rfl (by first | decide | simp | omega) (by first | rfl | omega | simp) (by first | omega | simp) (by first | omega | simp) | exact wkl_que hs rfl (by first | decide | omega | simp) | exact wkl_px rfl (by first | decide | omega | simp) rfl (by first | decide | omega | simp) | exact wk_own rfl (by first | decide | simp | omega) | exact wk_nil0 (by first | rfl | simp) | exact wk_slown rfl (by first | decide | omega | (simp; done)) (by first | omega | (simp; done)) (by first | rfl | omega | (simp; done) | (simp; omega)) | exact wk_plain hs (by (first | assumption | exact plain_int | exact plain_bool | exact plain_undef | exact plain_nils | exact plain_nilp | exact plain_nilf | exact plain_str | with_reducible apply plain_pg | with_reducible apply plain_pgs | with_reducible apply plain_pgA)) | (with_reducible refine wk_fn ?_ ?_ <;> repeat' (first | with_reducible exact wkl_nil | with_reducible refine wkl_cons ?_ ?_ | exact wk_ptr rfl (by first | decide | simp | omega))) | (with_reducible refine wk_agg ?_; repeat' (first | with_reducible exact wkl_nil | with_reducible refine wkl_cons ?_ ?_ | exact wk_int (by first | rfl | omega | (dsimp only; omega)) | exact wk_bool rfl)) | exact wk_yld rfl (by first | decide | simp | omega)))))))) ?_ | exact wko_nil))))) : p := h
theorem end_mono {top : Bool} {P : Program} {N : Nat} {h : Hp} {x : AV} {K K' : AV → Hp → Prop} (he : EndX top P N h x K) (hk : ∀ r' h', K r' h' → K' r' h') : EndX top P N h x K' :=
  have ⟨σ, r', h', a, b, c, d⟩ := he.out
  ⟨σ, r', h', a, b, c, hk _ _ d⟩
theorem wkl_px {σ : Nat → Nat} {h h' : Hp} {x : QD} {b c b' c' : Nat} (e1 : σ b' = b) (l1 : b' < h'.next) (e2 : σ c' = c) (l2 : c' < h'.next) : WkL Try.prog σ h h' (x.pool b c) (x.pool b' c') :=
  wkl_cons (wk_sl e1 l1 rfl (Nat.le_refl _) (Nat.le_refl _)) (wkl_cons (wk_sl e2 l2 rfl (Nat.le_refl _) (Nat.le_refl _)) (wkl_cons (wk_int rfl) wkl_nil))
theorem filt_nil : ∀ {l : List (Nat × AObj)} {k : List (Nat × AObj) → Prop}, k l → filtK [] l k := fun {l} => by
  induction l with
  | nil => exact fun h => h
  | cons a l ih => exact fun {k} h => ih (k := fun r => k (a :: r)) h
set_option maxRecDepth 20000 in
theorem cx_pnew {nx : Nat} {l : List (Nat × AObj)} {K : AV → Hp → Prop} (hk : K (.tup [.ptr nx 0, .int .i64 0]) ⟨[(nx, .cells [.sl (nx + 1) 0 1024 1024 5, .sl (nx + 2) 0 1 1 3, .int .i64 0]), (nx + 1, .cells (cellsB 1024 (fun _ => 0) (fun _ => 0) (S0 1024 1).L (S0 1024 1).N (S0 1024 1).P)), (nx + 2, .cells (endsB 1 (S0 1024 1).A (S0 1024 1).B (S0 1024 1).C))] ++ l, nx + 3⟩) :
    CallX Try.prog G0 (.fn 48 [] []) [.int .i64 1024, .int .i64 1] ⟨l, nx⟩ K := by
  have k0 : back [] nx 0 nx := rfl
  have k1 : back [] nx 1 (nx + 1) := rfl
  have k2 : back [] nx 2 (nx + 2) := rfl
  refine cx_loc (r' := .tup [.ptr nx 0, .int .i64 0]) (l1 := [(nx, .cells [.sl (nx + 1) 0 1024 1024 5, .sl (nx + 2) 0 1 1 3, .int .i64 0]), (nx + 1, .cells (cellsB 1024 (fun _ => 0) (fun _ => 0) (S0 1024 1).L (S0 1024 1).N (S0 1024 1).P)), (nx + 2, .cells (endsB 1 (S0 1024 1).A (S0 1024 1).B (S0 1024 1).C))]) [] (l_new 1024 1 (by decide) (by decide) (by decide) (by decide)) plainG rfl .nil (rnl_plain (by simp [plain_int])) (by simp) (rn_tup ⟨rn_ptr k0, rn_plain plain_int, trivial⟩)
    (.cons k0 ⟨rn_sl k1, rn_sl k2, rn_plain plain_int, trivial⟩ (.cons k1 (rnl_plain cells_plain) (.cons k2 (rnl_plain ends_plain) .nil))) (filt_nil hk)
section
variable {age ref keep : Int} {l : List (Int × Int)}
set_option maxHeartbeats 1600000 in
set_option maxRecDepth 20000 in
theorem q_new (h1 : 0 ≤ age ∧ age ≤ 1000000000000) (h2 : 0 ≤ keep ∧ keep ≤ 1024) : LocC Try.prog G0 26 [.int .i64 age, .int .i64 keep] [] 0 fun v h => v = .tup [.ptr 0 0, .int .i64 0] ∧ h = ⟨queS (x0 age keep), 4⟩ := by
  have hpol := k_policy age keep
  rw [if_neg (by omega)] at hpol
  refine loc_x hmix b26 rfl ?_
  unfold c26
  ((repeat' ((try (conv => whnf)); first | (with_reducible first | refine run_cons ?_ | refine runq_cons ?_ | refine code_seq ?_ | refine code_reg ?_ | refine code_cond ?_ | refine run_nil ?_ | refine runq_nil ?_ | refine rund_op rfl ?_ | refine rund_nil ?_ | refine code_block ?_ | refine code_skip ?_ | refine code_exit ?_ | refine code_ret ?_ | refine code_range ?_ | refine rund_fast (by decide +kernel) ?_ | refine rund_slow (by decide +kernel) ?_ | refine br_tt ?_ | refine br_ff ?_ | refine br_n ?_ | refine br_and ?_ | refine br_or ?_ | refine br_t (by assumption) ?_ | refine br_f (by assumption) ?_ | refine eq_i64 (by omega) ?_ | refine el_tn ?_) | (with_reducible refine br_d ?_ ?_ <;> intro hsp <;> first | (exfalso; omega) | skip) | ((with_reducible refine ck_x ?_ ?_); focus (first | omega | rfl | assumption | decide | (simp only [List.length_map, List.length_cons, List.length_nil]; omega))) | (with_reducible first | refine eq_tn ?_ | refine eq_tn1 ?_ | refine eq_tn2 ?_ | refine eq_m1 ?_ | refine eq_m2 ?_ | refine eq_zm ?_ | refine eq_z ?_ | refine len_map ?_ | refine len_sl ?_ | refine len_nils ?_ | refine len_own' ?_ | refine len_isl ?_ | refine eq_u8 (by omega) ?_ | refine eq_u16 (by omega) ?_) | (with_reducible first | refine eq_rfl ?_ | refine ChkX.mk (by kernel_rfl) ?_ | refine code_q rfl ?_ | refine code_d (by decide +kernel) ?_ | refine end_go rfl ?_) | refine cx_pure (hpol) ?_ | refine qcx (hpol) ?_ | refine dcx_pure (hpol) ?_ | refine cx_pnew ?_ | refine len_map ?_ | refine len_isl ?_ | refine el_of rfl rfl ?_ | refine del_own ?_ | refine del_own' rfl ?_ | refine as_go rfl ?_ | refine rd_go rfl ?_ | refine rg_end rfl ?_ | refine flat_ownX ?_ | (with_reducible refine br_b ?_ ?_ <;> intro hsp))) <;> (try (conv => whnf)))
  rw [memI_zero 1024]
  exact end_loc [(0, 3), (1, 0), (2, 1), (3, 2)] rfl (Nat.zero_le 4) (oneOf_of rfl) (wk_tup (wkl_cons (wk_ptr (i := 0) rfl (show 0 < 4 by decide)) (wkl_cons (wk_int rfl) wkl_nil)))
    (wko_cells (show 0 < 4 by decide) rfl (wkl_que (age := age) (ref := 0) (keep := keep) (k := 0) (pl := 0) (pl' := 1) (F := fun _ => 0) (subH_of rfl) rfl (show 1 < 4 by decide)) (wko_cells (show 1 < 4 by decide) rfl (wkl_cons (wk_sl (i := 2) rfl (show 2 < 4 by decide) rfl (Nat.le_refl _) (Nat.le_refl _)) (wkl_cons (wk_sl (i := 3) rfl (show 3 < 4 by decide) rfl (Nat.le_refl _) (Nat.le_refl _)) (wkl_cons (wk_int rfl) wkl_nil)))
    (wko_plain (subH_of rfl) (show 2 < 4 by decide) rfl rfl cells_plain (wko_plain (subH_of rfl) (show 3 < 4 by decide) rfl rfl ends_plain wko_nil)))) ⟨rfl, rfl⟩
set_option maxRecDepth 20000 in
theorem cx_qnew {nx : Nat} {l : List (Nat × AObj)} {K : AV → Hp → Prop} (h1 : 0 ≤ age ∧ age ≤ 1000000000000) (h2 : 0 ≤ keep ∧ keep ≤ 1024) (hk : K (.tup [.ptr nx 0, .int .i64 0]) ⟨[(nx, .cells ((x0 age keep).que (nx + 1))), (nx + 1, .cells ((x0 age keep).pool (nx + 2) (nx + 3))), (nx + 2, .cells (x0 age keep).cells), (nx + 3, .cells (x0 age keep).ends)] ++ l, nx + 4⟩) :
    CallX Try.prog G0 (.fn 26 [] []) [.int .i64 age, .int .i64 keep] ⟨l, nx⟩ K := by
  have k0 : back [] nx 0 nx := rfl
  have k1 : back [] nx 1 (nx + 1) := rfl
  have k2 : back [] nx 2 (nx + 2) := rfl
  have k3 : back [] nx 3 (nx + 3) := rfl
  have hS : RnS (back [] nx) (queS (x0 age keep)) [(nx, .cells ((x0 age keep).que (nx + 1))), (nx + 1, .cells ((x0 age keep).pool (nx + 2) (nx + 3))), (nx + 2, .cells (x0 age keep).cells), (nx + 3, .cells (x0 age keep).ends)] :=
    .cons k0 (show RnL (back [] nx) (queB age 0 keep 0 1 fun _ => 0) (queB age 0 keep 0 (nx + 1) fun _ => 0) from ⟨rn_plain plain_int, rn_plain plain_int, rn_plain plain_int, rn_plain plain_int, rn_ptr k1, rnl_plain (memI_plain 1024 fun _ => 0)⟩) (.cons k1 ⟨rn_sl k2, rn_sl k3, rn_plain plain_int, trivial⟩ (.cons k2 (rnl_plain cells_plain) (.cons k3 (rnl_plain ends_plain) .nil)))
  exact cx_loc [] (q_new h1 h2) plainG rfl .nil (rnl_plain (by simp [plain_int])) (by simp) (rn_tup (show RnL (back [] nx) [.ptr 0 0, .int .i64 0] [.ptr nx 0, .int .i64 0] from ⟨rn_ptr k0, rn_plain plain_int, trivial⟩)) hS (filt_nil hk)
set_option maxHeartbeats 1600000 in
set_option maxRecDepth 20000 in
theorem q_load (h : Chk age ref keep l 0) (hl : l.length ≤ 100000) : LocC Try.prog G0 12 [stP age ref keep l] [] 0 fun v h => ∃ x, GQ x ∧ x.age = age ∧ x.ref = ref ∧ x.keep = keep ∧ x.pages = l ∧ v = .tup [.ptr 0 0, .int .i64 0] ∧ h = ⟨queS x, 4⟩ := by
  have zc := PureS.mk (k_check h hl)
  obtain ⟨hb, hP1, hP2, hP3⟩ : ¬ badSt age ref keep ∧ P1 l ∧ P2 l ∧ P3 l := by
    rcases h with h | h | h | h | h
    · exact absurd h.2 (by decide)
    · exact absurd h.2.2 (by decide)
    · exact absurd h.2.2.2 (by decide)
    · exact absurd h.2.2.2.2 (by decide)
    · exact ⟨h.1, h.2.1, h.2.2.1, h.2.2.2.1⟩
  unfold badSt at hb
  unfold stP at zc
  refine loc_x hmix b12 rfl ?_
  unfold c12 stP
  ((repeat' ((try (conv => whnf)); first | (with_reducible first | refine run_cons ?_ | refine runq_cons ?_ | refine code_seq ?_ | refine code_reg ?_ | refine code_cond ?_ | refine run_nil ?_ | refine runq_nil ?_ | refine rund_op rfl ?_ | refine rund_nil ?_ | refine code_block ?_ | refine code_skip ?_ | refine code_exit ?_ | refine code_ret ?_ | refine code_range ?_ | refine rund_fast (by decide +kernel) ?_ | refine rund_slow (by decide +kernel) ?_ | refine br_tt ?_ | refine br_ff ?_ | refine br_n ?_ | refine br_and ?_ | refine br_or ?_ | refine br_t (by assumption) ?_ | refine br_f (by assumption) ?_ | refine eq_i64 (by omega) ?_ | refine el_tn ?_) | (with_reducible refine br_d ?_ ?_ <;> intro hsp <;> first | (exfalso; omega) | skip) | ((with_reducible refine ck_x ?_ ?_); focus (first | omega | rfl | assumption | decide | (simp only [List.length_map, List.length_cons, List.length_nil]; omega))) | (with_reducible first | refine eq_tn ?_ | refine eq_tn1 ?_ | refine eq_tn2 ?_ | refine eq_m1 ?_ | refine eq_m2 ?_ | refine eq_zm ?_ | refine eq_z ?_ | refine len_map ?_ | refine len_sl ?_ | refine len_nils ?_ | refine len_own' ?_ | refine len_isl ?_ | refine eq_u8 (by omega) ?_ | refine eq_u16 (by omega) ?_) | (with_reducible first | refine eq_rfl ?_ | refine ChkX.mk (by kernel_rfl) ?_ | refine code_q rfl ?_ | refine code_d (by decide +kernel) ?_ | refine end_go rfl ?_) | refine cx_pureS zc ?_ | refine cx_qnew (by omega) (by omega) ?_ | refine len_map ?_ | refine len_isl ?_ | refine el_of rfl rfl ?_ | refine del_own ?_ | refine del_own' rfl ?_ | refine as_go rfl ?_ | refine rd_go rfl ?_ | refine rg_end rfl ?_ | refine flat_ownX ?_ | (with_reducible refine br_b ?_ ?_ <;> intro hsp))) <;> (try (conv => whnf)))
  (refine loop_x [28] (fun (q : Nat × QD) => [(5, .ptr 0 0), (29, .int .i64 (l.length : Nat)), (30, .int .i64 (q.1 : Nat))]) (fun (q : Nat × QD) => ⟨[(0, .cells (q.2.que 1)), (1, .cells (q.2.pool 2 3)), (2, .cells q.2.cells), (3, .cells q.2.ends)], 4⟩) (fun (q : Nat × QD) => q.1 ≤ l.length ∧ GQ q.2 ∧ q.2.age = age ∧ q.2.ref = ref ∧ q.2.keep = keep ∧ q.2.pages = l.take q.1) (fun (q : Nat × QD) => l.length - q.1) ((0, (x0 age keep).setRef ref)) [(0, 1), (1, 2), (2, 3), (3, 4)] rfl (fun _ => by first | exact Nat.zero_le _ | (dsimp only; omega)) ?_ (by ((try (conv => whnf)); exact wkx_Qf)) ?_)
  · exact ⟨Nat.zero_le _, (good_x0 (by omega) (by omega)).setRef (by omega), rfl, rfl, rfl, by simp [QD.pages, QD.setRef, x0]⟩
  rintro ⟨i, x⟩ ⟨hi, hg, g1, g2, g3, g4⟩
  dsimp only at hi hg g1 g2 g3 g4 ⊢
  by_cases hil : i < l.length
  · obtain ⟨p, st, ha⟩ : ∃ (p : Nat) (st : Int), nth d0 l i = ((p : Int), st) := ⟨(nth d0 l i).1.toNat, (nth d0 l i).2, by
      have := (hP1 i hil).1
      refine Prod.ext ?_ rfl
      show (nth d0 l i).1 = (((nth d0 l i).1.toNat : Nat) : Int)
      omega⟩
    have hok := hP1 i hil
    have hlt := take_lt hP2 hP3 hil
    have htk := take_nth (d := d0) hil
    rw [ha] at hok hlt htk
    have hpl : p < 1024 := by have := hok.2.1; dsimp only at this; omega
    have hF : x.F p = 0 := hg.new_page hpl fun a hm e => by
      rw [g4] at hm
      obtain ⟨j, hj, e2⟩ := List.mem_iff_getElem.1 hm
      rw [List.length_take] at hj
      rw [List.getElem_take] at e2
      have := hP3 j i (by omega) hil
      rw [ha, nth_get (show j < l.length by omega), e2] at this
      exact this e
    obtain ⟨x', X, Y, g', e1, e2, e3, e4, e5, e6, e7, hput⟩ := q_put hg hok hF
    have hpg : x'.pages = l.take (i + 1) := by
      rw [e5, htk, ← g4]
      exact put_end (by rw [g4]; exact hlt) e4 e7
    ((repeat' ((try (conv => whnf)); first | (with_reducible first | refine run_cons ?_ | refine runq_cons ?_ | refine code_seq ?_ | refine code_reg ?_ | refine code_cond ?_ | refine run_nil ?_ | refine runq_nil ?_ | refine rund_op rfl ?_ | refine rund_nil ?_ | refine code_block ?_ | refine code_skip ?_ | refine code_exit ?_ | refine code_ret ?_ | refine code_range ?_ | refine rund_fast (by decide +kernel) ?_ | refine rund_slow (by decide +kernel) ?_ | refine br_tt ?_ | refine br_ff ?_ | refine br_n ?_ | refine br_and ?_ | refine br_or ?_ | refine br_t (by assumption) ?_ | refine br_f (by assumption) ?_ | refine eq_i64 (by omega) ?_ | refine el_tn ?_) | (with_reducible refine br_d ?_ ?_ <;> intro hsp <;> first | (exfalso; omega) | skip) | ((with_reducible refine ck_x ?_ ?_); focus (first | omega | rfl | assumption | decide | (simp only [List.length_map, List.length_cons, List.length_nil]; omega))) | (with_reducible first | refine eq_tn ?_ | refine eq_tn1 ?_ | refine eq_tn2 ?_ | refine eq_m1 ?_ | refine eq_m2 ?_ | refine eq_zm ?_ | refine eq_z ?_ | refine len_map ?_ | refine len_sl ?_ | refine len_nils ?_ | refine len_own' ?_ | refine len_isl ?_ | refine eq_u8 (by omega) ?_ | refine eq_u16 (by omega) ?_) | refine el_mapE pg_len hil ha ?_ | (with_reducible first | refine eq_rfl ?_ | refine ChkX.mk (by kernel_rfl) ?_ | refine code_q rfl ?_ | refine code_d (by decide +kernel) ?_ | refine end_go rfl ?_) | refine cx_que hput rfl rfl rfl rfl (by decide) (by simp [plain_pg]) plain_none rfl ?_ | refine len_map ?_ | refine len_isl ?_ | refine el_of rfl rfl ?_ | refine del_own ?_ | refine del_own' rfl ?_ | refine as_go rfl ?_ | refine rd_go rfl ?_ | refine rg_end rfl ?_ | refine flat_ownX ?_ | (with_reducible refine br_b ?_ ?_ <;> intro hsp))) <;> (try (conv => whnf)))
    exact next_x (i + 1, x') [] ⟨by dsimp only; omega, g', e1.trans g1, e2.trans g2, e3.trans g3, hpg⟩ (by first | omega | (dsimp only; omega)) rfl (by exact wkx_Qf)
  · rw [List.take_of_length_le (by omega)] at g4
    ((repeat' ((try (conv => whnf)); first | (with_reducible first | refine run_cons ?_ | refine runq_cons ?_ | refine code_seq ?_ | refine code_reg ?_ | refine code_cond ?_ | refine run_nil ?_ | refine runq_nil ?_ | refine rund_op rfl ?_ | refine rund_nil ?_ | refine code_block ?_ | refine code_skip ?_ | refine code_exit ?_ | refine code_ret ?_ | refine code_range ?_ | refine rund_fast (by decide +kernel) ?_ | refine rund_slow (by decide +kernel) ?_ | refine br_tt ?_ | refine br_ff ?_ | refine br_n ?_ | refine br_and ?_ | refine br_or ?_ | refine br_t (by assumption) ?_ | refine br_f (by assumption) ?_ | refine eq_i64 (by omega) ?_ | refine el_tn ?_) | (with_reducible refine br_d ?_ ?_ <;> intro hsp <;> first | (exfalso; omega) | skip) | ((with_reducible refine ck_x ?_ ?_); focus (first | omega | rfl | assumption | decide | (simp only [List.length_map, List.length_cons, List.length_nil]; omega))) | (with_reducible first | refine eq_tn ?_ | refine eq_tn1 ?_ | refine eq_tn2 ?_ | refine eq_m1 ?_ | refine eq_m2 ?_ | refine eq_zm ?_ | refine eq_z ?_ | refine len_map ?_ | refine len_sl ?_ | refine len_nils ?_ | refine len_own' ?_ | refine len_isl ?_ | refine eq_u8 (by omega) ?_ | refine eq_u16 (by omega) ?_) | (with_reducible first | refine eq_rfl ?_ | refine ChkX.mk (by kernel_rfl) ?_ | refine code_q rfl ?_ | refine code_d (by decide +kernel) ?_ | refine end_go rfl ?_) | refine len_map ?_ | refine len_isl ?_ | refine el_of rfl rfl ?_ | refine del_own ?_ | refine del_own' rfl ?_ | refine as_go rfl ?_ | refine rd_go rfl ?_ | refine rg_end rfl ?_ | refine flat_ownX ?_ | (with_reducible refine br_b ?_ ?_ <;> intro hsp))) <;> (try (conv => whnf)))
    exact end_mono (end_que (x := x) (r := .tup [.ptr 0 0, .int .i64 0]) (wk_tup (wkl_cons (wk_ptr rfl (show 0 < 4 by decide)) (wkl_cons (wk_int rfl) wkl_nil))) rfl rfl rfl rfl) fun r' h' hh => ⟨x, hg, g1, g2, g3, g4, hh.1, hh.2⟩
end
end Go.Proofs.Ytggkpagngnnjjaa
