/-
  Save.
-/
import Derived.Test.YtkjimnhmiojcdaaAmWt
import Derived.Test.YtkjimnhmiojcdaaKm
import Derived.Test.YtkjimnhmiojcdaaLn
set_option linter.unusedSimpArgs false
set_option linter.unusedVariables false
namespace Go.Proofs.Ytkjimnhmiojcdaa.Rt
open Go Go.Am Go.Pol
theorem wkx_Kn {p : Prop} (h : p := by (refine weak_s (by exact oneOf_of rfl) (by exact subH_of rfl) (by intro hs; (repeat' ((try (conv => whnf)); first | with_reducible exact True.intro | with_reducible refine And.intro ?_ ?_ | (with_reducible refine WkX.mk ?_; first | exact wk_undef | exact wk_int (by first | rfl | omega | (dsimp only; omega)) | exact wk_bool rfl | exact wk_ptr rfl (by first | decide | simp | omega) | exact wk_sl rfl (by first | decide | simp | omega) (by first | rfl | omega | simp) (by first | omega | simp) (by first | omega | simp) | exact wk_own rfl (by first | decide | simp | omega) | exact wk_nil0 (by first | rfl | simp) | exact wk_slown rfl (by first | decide | omega | (simp; done)) (by first | omega | (simp; done)) (by first | rfl | omega | (simp; done) | (simp; omega)) | exact wk_plain hs (by (first | assumption | exact plain_int | exact plain_bool | exact plain_undef | exact plain_nils | exact plain_nilp | exact plain_nilf | exact plain_str | with_reducible apply plainV | with_reducible apply plainI | with_reducible apply plain_pg)) | (with_reducible refine wk_fn ?_ ?_ <;> repeat' (first | with_reducible exact wkl_nil | with_reducible refine wkl_cons ?_ ?_ | exact wk_ptr rfl (by first | decide | simp | omega))) | (with_reducible refine wk_agg ?_; repeat' (first | with_reducible exact wkl_nil | with_reducible refine wkl_cons ?_ ?_ | exact wk_int (by first | rfl | omega | (dsimp only; omega)) | exact wk_bool rfl)) | exact wk_yld rfl (by first | decide | simp | omega))))) (by intro hs; (try dsimp only); (repeat' (first | with_reducible exact wko_nil | refine wko_plain hs (by first | decide | omega | simp) rfl (by first | rfl | exact memV_one h | exact memI_snoc rfl | exact memV_snoc h | exact memV_snoc rfl) (by (first | with_reducible assumption | with_reducible apply cells_plain | with_reducible apply ends_plain | with_reducible apply of_plain _ _ | with_reducible apply memI_plain _ _ | with_reducible apply memV_plain fun _ => plainV | with_reducible apply plain_map (fun _ => plain_int) | with_reducible apply plain_map (fun _ => plain_bool) | ((repeat' (first | exact plain_all0 | refine plain_all2 ?_ ?_ | exact plain_int | first | assumption | exact plain_int | exact plain_bool | exact plain_undef | exact plain_nils | exact plain_nilp | exact plain_nilf | exact plain_str | with_reducible apply plainV | with_reducible apply plainI | with_reducible apply plain_pg)); done) | ((refine plain_app ?_ ?_) <;> (first | with_reducible assumption | with_reducible apply cells_plain | with_reducible apply ends_plain | with_reducible apply of_plain _ _ | with_reducible apply memI_plain _ _ | with_reducible apply memV_plain fun _ => plainV | with_reducible apply plain_map (fun _ => plain_int) | with_reducible apply plain_map (fun _ => plain_bool) | ((repeat' (first | exact plain_all0 | refine plain_all2 ?_ ?_ | exact plain_int | first | assumption | exact plain_int | exact plain_bool | exact plain_undef | exact plain_nils | exact plain_nilp | exact plain_nilf | exact plain_str | with_reducible apply plainV | with_reducible apply plainI | with_reducible apply plain_pg)); done))))) ?_ | refine wko_cells (by first | decide | omega | simp) rfl (by repeat' (first | with_reducible exact wkl_nil | with_reducible refine wkl_cons ?_ ?_ | (first | exact wk_undef | exact wk_int (by first | rfl | omega | (dsimp only; omega)) | exact wk_bool rfl | exact wk_ptr rfl (by first | decide | simp | omega) | exact wk_sl rfl (by first | decide | simp | omega) (by first | rfl | omega | simp) (by first | omega | simp) (by first | omega | simp) | exact wk_own rfl (by first | decide | simp | omega) | exact wk_nil0 (by first | rfl | simp) | exact wk_slown rfl (by first | decide | omega | (simp; done)) (by first | omega | (simp; done)) (by first | rfl | omega | (simp; done) | (simp; omega)) | exact wk_plain hs (by (first | assumption | exact plain_int | exact plain_bool | exact plain_undef | exact plain_nils | exact plain_nilp | exact plain_nilf | exact plain_str | with_reducible apply plainV | with_reducible apply plainI | with_reducible apply plain_pg)) | (with_reducible refine wk_fn ?_ ?_ <;> repeat' (first | with_reducible exact wkl_nil | with_reducible refine wkl_cons ?_ ?_ | exact wk_ptr rfl (by first | decide | simp | omega))) | (with_reducible refine wk_agg ?_; repeat' (first | with_reducible exact wkl_nil | with_reducible refine wkl_cons ?_ ?_ | exact wk_int (by first | rfl | omega | (dsimp only; omega)) | exact wk_bool rfl)) | exact wk_yld rfl (by first | decide | simp | omega)))) ?_ | refine wko_loop (by first | decide | omega | simp) rfl (by ((try subst hF); (try subst hF2); exact wkl_sd (wkf_sget (by (repeat' ((try (conv => whnf)); first | with_reducible exact True.intro | with_reducible refine And.intro ?_ ?_ | (with_reducible refine WkX.mk ?_; first | exact wk_undef | exact wk_int (by first | rfl | omega | (dsimp only; omega)) | exact wk_bool rfl | exact wk_ptr rfl (by first | decide | simp | omega) | exact wk_sl rfl (by first | decide | simp | omega) (by first | rfl | omega | simp) (by first | omega | simp) (by first | omega | simp) | exact wk_own rfl (by first | decide | simp | omega) | exact wk_nil0 (by first | rfl | simp) | exact wk_slown rfl (by first | decide | omega | (simp; done)) (by first | omega | (simp; done)) (by first | rfl | omega | (simp; done) | (simp; omega)) | exact wk_plain hs (by (first | assumption | exact plain_int | exact plain_bool | exact plain_undef | exact plain_nils | exact plain_nilp | exact plain_nilf | exact plain_str | with_reducible apply plainV | with_reducible apply plainI | with_reducible apply plain_pg)) | (with_reducible refine wk_fn ?_ ?_ <;> repeat' (first | with_reducible exact wkl_nil | with_reducible refine wkl_cons ?_ ?_ | exact wk_ptr rfl (by first | decide | simp | omega))) | (with_reducible refine wk_agg ?_; repeat' (first | with_reducible exact wkl_nil | with_reducible refine wkl_cons ?_ ?_ | exact wk_int (by first | rfl | omega | (dsimp only; omega)) | exact wk_bool rfl)) | exact wk_yld rfl (by first | decide | simp | omega)))))))) ?_ | exact wko_nil))))) : p := h
theorem wx_Kn {p q : Prop} (hq : q) (h : HidP q → p := by (intro hQz; ((repeat' ((try (conv => whnf)); first | (with_reducible first | refine run_cons ?_ | refine runq_cons ?_ | refine code_seq ?_ | refine code_reg ?_ | refine code_cond ?_ | refine run_nil ?_ | refine runq_nil ?_ | refine rund_op rfl ?_ | refine rund_nil ?_ | refine code_block ?_ | refine code_skip ?_ | refine code_exit ?_ | refine code_ret ?_ | refine code_range ?_ | refine rund_fast (by decide +kernel) ?_ | refine rund_slow (by decide +kernel) ?_ | refine br_tt ?_ | refine br_ff ?_ | refine br_n ?_ | refine br_and ?_ | refine br_or ?_ | refine br_t (by assumption) ?_ | refine br_f (by assumption) ?_ | refine eq_i64 (by omega) ?_ | refine el_tn ?_) | ((with_reducible refine br_dt ?_ ?_); focus omega) | ((with_reducible refine br_df ?_ ?_); focus omega) | ((with_reducible apply br_dq hQz) <;> (try intro hsp hQz)) | ((with_reducible refine ck_x ?_ ?_); focus (first | omega | rfl | assumption | decide | (simp only [List.length_map, List.length_cons, List.length_nil]; omega))) | (with_reducible first | refine eq_tn ?_ | refine eq_tn1 ?_ | refine eq_tn2 ?_ | refine eq_m1 ?_ | refine eq_m2 ?_ | refine eq_zm ?_ | refine eq_z ?_ | refine len_map ?_ | refine len_sl ?_ | refine len_nils ?_ | refine len_own' ?_ | refine len_isl ?_ | refine eq_u8 (by omega) ?_ | refine eq_u16 (by omega) ?_) | refine dropK_of (by rw [cells_len]; omega) rfl (takeK_of (by rw [List.length_drop, cells_len]; omega) ht ?_) | refine app_some (appV_nil (src_of rfl rfl) (by decide) (by decide)) ?_ | refine app_some (appV_sl (src_of rfl rfl) rfl (by first | (rw [memI_len, Nat.mul_one]; done) | (rw [memV_len, Nat.mul_one]; done) | (rw [memV_len]; done) | fail) (by decide) ⟨by omega, by omega⟩) ?_ | refine dropK_of (by rw [ends_len]; omega) rfl (takeK_of (by rw [List.length_drop, ends_len]; omega) (tk3 (by omega)) ?_) | (with_reducible first | refine eq_rfl ?_ | refine ChkX.mk (by kernel_rfl) ?_ | refine code_q rfl ?_ | refine code_d (by decide +kernel) ?_ | refine end_go rfl ?_) | (refine cx_in hmix b45 rfl ?_; unfold c45) | refine len_map ?_ | refine len_isl ?_ | refine el_of rfl rfl ?_ | refine del_own ?_ | refine del_own' rfl ?_ | refine as_go rfl ?_ | refine rd_go rfl ?_ | refine rg_end rfl ?_ | refine flat_ownX ?_ | refine EqLX.mk ?_ | ((with_reducible apply br_bq hQz) <;> (try intro hsp hQz)) | exact hQz.out)) <;> (try (conv => whnf))))) : p := h ⟨hq⟩
section
variable {n m : Nat} {V : Nat → PV} {Q : Nat → List Nat}
def valsL (n : Nat) (V : Nat → PV) : AV := .isl ((List.range n).map fun i => [(V i).1])
theorem memV_one {V : Nat → PV} {v : AV} (h : (V 0).1 = v) : [v] = memV (0 + 1) (fun i => (V i).1) := by rw [← h]; rfl
def stateV (n m : Nat) (V : Nat → PV) (L N P A B : Nat → Int) : AV := .agg [valsL n V, intsL n L, intsL n N, intsL n P, intsL m A, intsL m B]
def sv4 (V : Nat → PV) (L N P : Nat → Int) : Nat → List (Nat × AObj)
  | 0 => [(4, .cells [.nils, .nils, .nils, .nils, .nils, .nils])]
  | k + 1 => [(4, .cells [.sl 5 0 (k + 1) (k + 1) 1, .sl 6 0 (k + 1) (k + 1) 1, .sl 7 0 (k + 1) (k + 1) 1, .sl 8 0 (k + 1) (k + 1) 1, .nils, .nils]), (5, .cells (memV (k + 1) (fun i => (V i).1))), (6, .cells (memI (k + 1) L)), (7, .cells (memI (k + 1) N)), (8, .cells (memI (k + 1) P))]
def sv6 (n : Nat) (V : Nat → PV) (L N P A B : Nat → Int) : Nat → List (Nat × AObj)
  | 0 => [(4, .cells [.sl 5 0 n n 1, .sl 6 0 n n 1, .sl 7 0 n n 1, .sl 8 0 n n 1, .nils, .nils]), (5, .cells (memV n (fun i => (V i).1))), (6, .cells (memI n L)), (7, .cells (memI n N)), (8, .cells (memI n P))]
  | j + 1 => [(4, .cells [.sl 5 0 n n 1, .sl 6 0 n n 1, .sl 7 0 n n 1, .sl 8 0 n n 1, .sl 9 0 (j + 1) (j + 1) 1, .sl 10 0 (j + 1) (j + 1) 1]), (5, .cells (memV n (fun i => (V i).1))), (6, .cells (memI n L)), (7, .cells (memI n N)), (8, .cells (memI n P)), (9, .cells (memI (j + 1) A)), (10, .cells (memI (j + 1) B))]
theorem tkc {n : Nat} {V : Nat → PV} {L N P : Nat → Int} {s : Nat} (h : s < n) : ((cellsB n V L N P).drop (s * 4)).take 4 = [(V s).1, .int .i64 (L s), .int .i64 (N s), .int .i64 (P s)] := by
  refine List.ext_getElem? fun j => ?_
  rw [List.getElem?_take, List.getElem?_drop]
  match j with
  | 0 => exact gc0 h
  | 1 => exact gc1 h
  | 2 => exact gc2 h
  | 3 => exact gc3 h
  | j + 4 => rw [if_neg (by omega)]; rfl
theorem flat_row {V : Nat → PV} : ∀ n : Nat, memV n (fun i => (V i).1) = ((List.range n).map fun i => [(V i).1]).flatten
  | 0 => rfl
  | n + 1 => by
    rw [List.range_succ, List.map_append, List.flatten_append, ← flat_row n]
    exact (memV_snoc rfl).symm
theorem wk_frzV {σ : Nat → Nat} {h h' : Hp} {d n : Nat} {V : Nat → PV} (hi : lk h.l d = some (.cells (memV n (fun i => (V i).1)))) (hi' : ∀ j o, lk h'.l j = some o → σ j ≠ d) (hs : SubH σ h h') : WkV Try.prog σ h h' (.sl d 0 n n 1) (valsL n V) := by
  refine wk_frz hi hi' hs (by simp) (fun e he => ?_) ?_ fun e he x hx => ?_
  · obtain ⟨i, _, rfl⟩ := List.mem_map.1 he; rfl
  · rw [List.drop_zero, List.take_of_length_le (by rw [memV_len]; omega), flat_row]
  · obtain ⟨i, _, rfl⟩ := List.mem_map.1 he
    simp only [List.mem_cons, List.not_mem_nil, or_false] at hx
    obtain rfl := hx; exact plainV
theorem l_save {fr : Int} {L N P A B C : Nat → Int} (hn : 0 < n) (hn2 : n ≤ 8000) (hm : 0 < m) (hm2 : m ≤ 64) (hv : ∀ s, (V s).1 = .nilp ∨ ∃ c, (V s).1 = .iptr c) : LocP 20 [] n m (poolB n m fr V L N P A B C) (stateV n m V L N P A B) (poolB n m fr V L N P A B C) := by
  refine LocP.mk (loc_x hmix b20 rfl ?_)
  unfold c20
  (refine wx_Kn ?_; repeat' (first | with_reducible refine And.intro ?_ ?_ | intro hsp))
  (refine loop_x [0, 16] (fun (k : Nat) => [(2, .ptr 3 0), (3, .ptr 4 0), (15, .sl 1 0 n n 4), (17, .int .i64 (k : Nat))]) (fun (k : Nat) => ⟨poolB n m fr V L N P A B C ++ [(3, .cells [.nils, .nils, .nils, .nils, .nils, .nils])] ++ sv4 V L N P k, 9⟩) (fun (k : Nat) => k ≤ n) (fun (k : Nat) => n - k) (0) [] rfl (fun _ => by first | exact Nat.zero_le _ | (dsimp only; omega)) ?_ (by ((try (conv => whnf)); exact wkx_Kn)) ?_)
  · exact Nat.zero_le _
  intro k hk
  by_cases hkn : k < n
  · cases k with
    | zero =>
      rcases hv 0 with h | ⟨c, h⟩
      · have ht := tkc (n := n) (V := V) (L := L) (N := N) (P := P) (s := 0) (by omega)
        rw [h] at ht
        (refine wx_Kn ?_; repeat' (first | with_reducible refine And.intro ?_ ?_ | intro hsp))
        exact next_x 1 [(5, 15), (6, 21), (7, 31), (8, 37)] (by (try dsimp only); omega) (by first | omega | (dsimp only; omega)) rfl (by exact wkx_Kn)
      · have hpc : Plain (.iptr c) := by rw [← h]; exact plainV
        have ht := tkc (n := n) (V := V) (L := L) (N := N) (P := P) (s := 0) (by omega)
        rw [h] at ht
        (refine wx_Kn ?_; repeat' (first | with_reducible refine And.intro ?_ ?_ | intro hsp))
        exact next_x 1 [(5, 15), (6, 21), (7, 31), (8, 37)] (by (try dsimp only); omega) (by first | omega | (dsimp only; omega)) rfl (by exact wkx_Kn)
    | succ k =>
      rcases hv (k + 1) with h | ⟨c, h⟩
      · have ht := tkc (n := n) (V := V) (L := L) (N := N) (P := P) (s := (k + 1)) (by omega)
        rw [h] at ht
        (refine wx_Kn ?_; repeat' (first | with_reducible refine And.intro ?_ ?_ | intro hsp))
        exact next_x (k + 2) [(5, 15), (6, 21), (7, 31), (8, 37)] (by (try dsimp only); omega) (by first | omega | (dsimp only; omega)) rfl (by exact wkx_Kn)
      · have hpc : Plain (.iptr c) := by rw [← h]; exact plainV
        have ht := tkc (n := n) (V := V) (L := L) (N := N) (P := P) (s := (k + 1)) (by omega)
        rw [h] at ht
        (refine wx_Kn ?_; repeat' (first | with_reducible refine And.intro ?_ ?_ | intro hsp))
        exact next_x (k + 2) [(5, 15), (6, 21), (7, 31), (8, 37)] (by (try dsimp only); omega) (by first | omega | (dsimp only; omega)) rfl (by exact wkx_Kn)
  · obtain rfl : k = n := by omega
    obtain ⟨k, rfl⟩ : ∃ k', k = k' + 1 := ⟨k - 1, by omega⟩
    (refine wx_Kn ?_; repeat' (first | with_reducible refine And.intro ?_ ?_ | intro hsp))
    (refine loop_x [0, 54] (fun (j : Nat) => [(2, .ptr 3 0), (3, .ptr 4 0), (53, .sl 2 0 m m 3), (55, .int .i64 (j : Nat))]) (fun (j : Nat) => ⟨poolB (k + 1) m fr V L N P A B C ++ [(3, .cells [.nils, .nils, .nils, .nils, .nils, .nils])] ++ sv6 (k + 1) V L N P A B j, 11⟩) (fun (j : Nat) => j ≤ m) (fun (j : Nat) => m - j) (0) [] rfl (fun _ => by first | exact Nat.zero_le _ | (dsimp only; omega)) ?_ (by ((try (conv => whnf)); exact wkx_Kn)) ?_)
    · exact Nat.zero_le _
    intro j hj
    by_cases hjm : j < m
    · cases j with
      | zero =>
        (refine wx_Kn ?_; repeat' (first | with_reducible refine And.intro ?_ ?_ | intro hsp))
        exact next_x 1 [(9, 17), (10, 23)] (by (try dsimp only); omega) (by first | omega | (dsimp only; omega)) rfl (by exact wkx_Kn)
      | succ j =>
        (refine wx_Kn ?_; repeat' (first | with_reducible refine And.intro ?_ ?_ | intro hsp))
        exact next_x (j + 2) [(9, 17), (10, 23)] (by (try dsimp only); omega) (by first | omega | (dsimp only; omega)) rfl (by exact wkx_Kn)
    · obtain rfl : j = m := by omega
      obtain ⟨j, rfl⟩ : ∃ j', j = j' + 1 := ⟨j - 1, by omega⟩
      (refine wx_Kn ?_; repeat' (first | with_reducible refine And.intro ?_ ?_ | intro hsp))
      refine end_pool ?_ rfl rfl rfl
      exact wk_agg ⟨wk_frzV rfl (pool_not (by decide)) (pool_sub ⟨_, rfl⟩ ⟨_, rfl⟩ ⟨_, rfl⟩), wk_frzM rfl (pool_not (by decide)) (pool_sub ⟨_, rfl⟩ ⟨_, rfl⟩ ⟨_, rfl⟩), wk_frzM rfl (pool_not (by decide)) (pool_sub ⟨_, rfl⟩ ⟨_, rfl⟩ ⟨_, rfl⟩), wk_frzM rfl (pool_not (by decide)) (pool_sub ⟨_, rfl⟩ ⟨_, rfl⟩ ⟨_, rfl⟩), wk_frzM rfl (pool_not (by decide)) (pool_sub ⟨_, rfl⟩ ⟨_, rfl⟩ ⟨_, rfl⟩), wk_frzM rfl (pool_not (by decide)) (pool_sub ⟨_, rfl⟩ ⟨_, rfl⟩ ⟨_, rfl⟩), trivial⟩
end
end Go.Proofs.Ytkjimnhmiojcdaa.Rt
