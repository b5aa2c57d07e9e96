/-
  New.
-/
import Derived.Test.YtkjimnhmiojcdaaAmWt
import Derived.Test.YtkjimnhmiojcdaaHf
import Derived.Test.YtkjimnhmiojcdaaLm
set_option linter.unusedSimpArgs false
set_option linter.unusedVariables false
namespace Go.Proofs.Ytkjimnhmiojcdaa.Th
open Go Go.Am Go.Pol
theorem wkx_Hm {p : Prop} (h : p := by (refine weak_s (by exact oneOf_of rfl) (by exact subH_of rfl) (by intro hs; (repeat' ((try (conv => whnf)); first | with_reducible exact True.intro | with_reducible refine And.intro ?_ ?_ | (with_reducible refine WkX.mk ?_; first | exact wk_int (by first | rfl | omega | (dsimp only; omega)) | exact wk_bool rfl | exact wk_ptr rfl (by first | decide | omega | simp) | exact wk_sl rfl (by first | decide | omega | simp) (by first | rfl | omega | simp) (by first | omega | simp) (by first | omega | simp) | exact wk_plain hs (by (first | assumption | exact plain_int | exact plain_bool | exact plain_undef | exact plain_nils | exact plain_nilp | exact plain_nilf | exact plain_str | with_reducible apply plainV | with_reducible apply plainI | with_reducible apply plain_pg)))))) (by intro hs; (try dsimp only); (repeat' (first | with_reducible exact wko_nil | refine wko_plain hs (by first | decide | omega | simp) rfl (by first | rfl) (by (first | with_reducible assumption | with_reducible apply cells_plain | with_reducible apply ends_plain | with_reducible apply of_plain _ _ | with_reducible apply memI_plain _ _ | with_reducible apply plain_map (fun _ => plain_int) | with_reducible apply plain_map (fun _ => plain_bool) | ((repeat' (first | exact plain_all0 | refine plain_all2 ?_ ?_ | exact plain_int | first | assumption | exact plain_int | exact plain_bool | exact plain_undef | exact plain_nils | exact plain_nilp | exact plain_nilf | exact plain_str | with_reducible apply plainV | with_reducible apply plainI | with_reducible apply plain_pg)); done) | ((refine plain_app ?_ ?_) <;> (first | with_reducible assumption | with_reducible apply cells_plain | with_reducible apply ends_plain | with_reducible apply of_plain _ _ | with_reducible apply memI_plain _ _ | with_reducible apply plain_map (fun _ => plain_int) | with_reducible apply plain_map (fun _ => plain_bool) | ((repeat' (first | exact plain_all0 | refine plain_all2 ?_ ?_ | exact plain_int | first | assumption | exact plain_int | exact plain_bool | exact plain_undef | exact plain_nils | exact plain_nilp | exact plain_nilf | exact plain_str | with_reducible apply plainV | with_reducible apply plainI | with_reducible apply plain_pg)); done))))) ?_ | refine wko_cells (by first | decide | omega | simp) rfl (by repeat' (first | with_reducible exact wkl_nil | with_reducible refine wkl_cons ?_ ?_ | (first | exact wk_int (by first | rfl | omega | (dsimp only; omega)) | exact wk_bool rfl | exact wk_ptr rfl (by first | decide | omega | simp) | exact wk_sl rfl (by first | decide | omega | simp) (by first | rfl | omega | simp) (by first | omega | simp) (by first | omega | simp) | exact wk_plain hs (by (first | assumption | exact plain_int | exact plain_bool | exact plain_undef | exact plain_nils | exact plain_nilp | exact plain_nilf | exact plain_str | with_reducible apply plainV | with_reducible apply plainI | with_reducible apply plain_pg))))) ?_ | exact wko_nil))))) : p := h
theorem wx_Hm {p q : Prop} (hq : q) (h : HidP q → p := by (intro hQz; ((repeat' ((try (conv => whnf)); first | (with_reducible first | refine run_cons ?_ | refine runq_cons ?_ | refine code_seq ?_ | refine code_reg ?_ | refine code_cond ?_ | refine run_nil ?_ | refine runq_nil ?_ | refine rund_op rfl ?_ | refine rund_nil ?_ | refine code_block ?_ | refine code_skip ?_ | refine code_exit ?_ | refine code_ret ?_ | refine code_range ?_ | refine rund_fast (by decide +kernel) ?_ | refine rund_slow (by decide +kernel) ?_ | refine br_tt ?_ | refine br_ff ?_ | refine br_n ?_ | refine br_and ?_ | refine br_or ?_ | refine br_t (by assumption) ?_ | refine br_f (by assumption) ?_ | refine eq_i64 (by omega) ?_ | refine el_tn ?_) | ((with_reducible refine br_dt ?_ ?_); focus omega) | ((with_reducible refine br_df ?_ ?_); focus omega) | ((with_reducible apply br_dq hQz) <;> (try intro hsp hQz)) | ((with_reducible refine ck_x ?_ ?_); focus (first | omega | rfl | assumption | decide | (simp only [List.length_map, List.length_cons, List.length_nil]; omega) | exact (cells_make n) | exact (ends_make m) | exact (show ((n : Nat) : Int).toNat = n from rfl) | exact (show ((m : Nat) : Int).toNat = m from rfl))) | refine eq_of ((cells_make n)) ?_ | refine eq_of ((ends_make m)) ?_ | refine eq_of ((show ((n : Nat) : Int).toNat = n from rfl)) ?_ | refine eq_of ((show ((m : Nat) : Int).toNat = m from rfl)) ?_ | (with_reducible first | refine eq_tn ?_ | refine eq_tn1 ?_ | refine eq_tn2 ?_ | refine eq_m1 ?_ | refine eq_m2 ?_ | refine eq_zm ?_ | refine eq_z ?_ | refine len_map ?_ | refine len_sl ?_ | refine len_nils ?_ | refine len_own' ?_ | refine len_isl ?_ | refine eq_u8 (by omega) ?_ | refine eq_u16 (by omega) ?_) | refine set1K_of (by rw [cells_len]; omega) sc0 ?_ | refine set1K_of (by rw [cells_len]; omega) sc0b ?_ | refine set1K_of (by rw [cells_len]; omega) sc0z ?_ | refine set1K_of (by rw [cells_len]; omega) sc0bz ?_ | refine set1K_of (by rw [cells_len]; omega) sc1 ?_ | refine set1K_of (by rw [cells_len]; omega) sc2 ?_ | refine set1K_of (by rw [cells_len]; omega) sc3 ?_ | refine set1K_of (by rw [ends_len]; omega) se0 ?_ | refine set1K_of (by rw [ends_len]; omega) se1 ?_ | refine set1K_of (by rw [ends_len]; omega) se2 ?_ | (with_reducible first | refine eq_rfl ?_ | refine ChkX.mk (by kernel_rfl) ?_ | refine code_q rfl ?_ | refine code_d (by decide +kernel) ?_ | refine end_go rfl ?_) | (refine cx_in hmix b29 rfl ?_; unfold c29) | refine len_map ?_ | refine len_isl ?_ | refine el_of rfl rfl ?_ | refine del_own ?_ | refine del_own' rfl ?_ | refine as_go rfl ?_ | refine rd_go rfl ?_ | refine rg_end rfl ?_ | refine flat_ownX ?_ | refine EqLX.mk ?_ | ((with_reducible apply br_bq hQz) <;> (try intro hsp hQz)) | exact hQz.out)) <;> (try (conv => whnf))))) : p := h ⟨hq⟩
section
theorem cells_make (n : Nat) : (List.replicate n [AV.str ByteArray.empty, AV.int .i64 0, AV.int .i64 0, AV.int .i64 0, AV.int .i64 0]).flatten = cellsB n (fun _ => z0) (fun _ => w0) (fun _ => 0) (fun _ => 0) fun _ => 0 := by
  refine List.ext_getElem? fun i => ?_
  by_cases hi : i < n * 5
  · rw [rep_getL (by decide) (by simpa using hi), cellsB, memV_get hi]
    have hm : i % 5 = 0 ∨ i % 5 = 1 ∨ i % 5 = 2 ∨ i % 5 = 3 ∨ i % 5 = 4 := by omega
    unfold sel
    rcases hm with h | h | h | h | h
    all_goals simp [h, z0, w0]
  · rw [List.getElem?_eq_none (by rw [rep_lenL]; simpa using hi), List.getElem?_eq_none (by rw [cells_len]; omega)]
structure GoodP (n m : Nat) (V W : Nat → PV) (Q : Nat → List Nat) (S : PS) : Prop where
  inv : Inv n m V W Q S
  m_le : m ≤ 64
  n_le : n ≤ 8000
  n_pos : 0 < n
theorem good_0 {n m : Nat} (hn : 0 < n) (hn2 : n ≤ 2000) (hm : m ≤ 64) : GoodP n m (fun _ => z0) (fun _ => w0) (fun _ => []) (S0 n m) := by
  have h : ∀ {k s : Nat}, s < k → upTo k (-1) s = -1 := fun {k s} hs => if_pos hs
  refine ⟨⟨⟨fun _ _ => rfl, fun i s hs => (by cases hs), fun s hs => .inl ⟨h hs, h hs, h hs⟩, fun _ => List.nodup_nil, fun i X s Y e => (by simp at e), fun i hi => ⟨h hi, h hi, rfl⟩⟩, fun _ _ _ => ⟨rfl, rfl⟩, Nat.zero_le _, fun t ht => (by cases ht)⟩, hm, by omega, hn⟩
theorem updV_z0 (k : Nat) : updV (fun _ => z0) k z0 = fun _ => z0 := by funext s; unfold updV; split <;> rfl
theorem updV_w0 (k : Nat) : updV (fun _ => w0) k w0 = fun _ => w0 := by funext s; unfold updV; split <;> rfl
theorem l_new (n m : Nat) (h1 : 1 ≤ n) (h2 : n ≤ 2000) (h3 : 1 ≤ m) (h4 : m ≤ 64) :
    LocC Try.prog G0 6 [.int .i64 (n : Nat), .int .i64 (m : Nat)] [] 0 fun x h => x = .tup [.ptr 0 0, .int .i64 0] ∧ h = ⟨poolS n m (fun _ => z0) (fun _ => w0) (S0 n m), 3⟩ := by
  refine loc_x hmix b6 rfl ?_
  unfold c6
  (refine wx_Hm ?_; repeat' (first | with_reducible refine And.intro ?_ ?_ | intro hsp))
  (refine loop_x [18] (fun (k : Nat) => [(5, .ptr 0 0), (19, .int .i64 (k : Nat))]) (fun (k : Nat) => ⟨[(0, .cells [.sl 1 0 n n 5, .sl 2 0 m m 3, .int .i64 0]), (1, .cells (cellsB n (fun _ => z0) (fun _ => w0) (upTo k (-1)) (upTo k (-1)) (upTo k (-1)))), (2, .cells (endsB m (fun _ => 0) (fun _ => 0) fun _ => 0))], 3⟩) (fun (k : Nat) => k ≤ n) (fun (k : Nat) => n - k) (0) [(0, 5), (1, 1), (2, 3)] rfl (fun _ => by first | exact Nat.zero_le _ | (dsimp only; omega)) ?_ (by ((try (conv => whnf)); (rw [upTo_0]); exact wkx_Hm)) ?_)
  · exact Nat.zero_le _
  intro k hk
  by_cases hkn : k < n
  · (refine wx_Hm ?_; repeat' (first | with_reducible refine And.intro ?_ ?_ | intro hsp))
    exact next_x (k + 1) [] (by (try dsimp only); omega) (by first | omega | (dsimp only; omega)) rfl (by ((try dsimp only); rw [updV_z0, updV_w0, upTo_s]); exact wkx_Hm)
  · obtain rfl : k = n := by omega
    (refine wx_Hm ?_; repeat' (first | with_reducible refine And.intro ?_ ?_ | intro hsp))
    (refine loop_x [34] (fun (j : Nat) => [(5, .ptr 0 0), (35, .int .i64 (j : Nat))]) (fun (j : Nat) => ⟨[(0, .cells [.sl 1 0 k k 5, .sl 2 0 m m 3, .int .i64 0]), (1, .cells (cellsB k (fun _ => z0) (fun _ => w0) (upTo k (-1)) (upTo k (-1)) (upTo k (-1)))), (2, .cells (endsB m (upTo j (-1)) (upTo j (-1)) fun _ => 0))], 3⟩) (fun (j : Nat) => j ≤ m) (fun (j : Nat) => m - j) (0) [] rfl (fun _ => by first | exact Nat.zero_le _ | (dsimp only; omega)) ?_ (by ((try (conv => whnf)); (rw [upTo_0]); exact wkx_Hm)) ?_)
    · exact Nat.zero_le _
    intro j hj
    by_cases hjm : j < m
    · (refine wx_Hm ?_; repeat' (first | with_reducible refine And.intro ?_ ?_ | intro hsp))
      exact next_x (j + 1) [] (by (try dsimp only); omega) (by first | omega | (dsimp only; omega)) rfl (by ((try dsimp only); rw [upd_zero, upTo_s]); exact wkx_Hm)
    · obtain rfl : j = m := by omega
      (refine wx_Hm ?_; repeat' (first | with_reducible refine And.intro ?_ ?_ | intro hsp))
      exact end_pool (wk_tup ⟨wk_ptr rfl (show 0 < 3 by decide), wk_int rfl, trivial⟩) rfl rfl rfl
end
end Go.Proofs.Ytkjimnhmiojcdaa.Th
