/-
  New: a pool, and the document's lists.
-/
import Derived.Test.YtkjimnhmiojcdaaAmWt
import Derived.Test.YtkjimnhmiojcdaaLl
set_option linter.unusedSimpArgs false
set_option linter.unusedVariables false
namespace Go.Pol
open Go.Am
theorem memI_zero (n : Nat) : List.replicate n (AV.int .i64 0) = memI n fun _ => 0 := by
  unfold memI; rw [List.map_const', List.length_range]
theorem memI_snoc {n : Nat} {F : Nat → Int} {v : Int} (h : F n = v) : memI n F ++ [.int .i64 v] = memI (n + 1) F := by
  unfold memI; rw [List.range_succ, List.map_append]; simp [h]
theorem rep_flat (n k : Nat) : (List.replicate n (List.replicate k (AV.int .i64 0))).flatten = List.replicate (n * k) (AV.int .i64 0) := by
  induction n with
  | zero => simp
  | succ n ih => rw [List.replicate_succ, List.flatten_cons, ih, List.replicate_append_replicate, show k + n * k = (n + 1) * k by rw [Nat.succ_mul]; omega]
theorem cells_make (n : Nat) : (List.replicate n [AV.int .i64 0, AV.int .i64 0, AV.int .i64 0, AV.int .i64 0]).flatten = cellsB n (fun _ => 0) (fun _ => 0) (fun _ => 0) fun _ => 0 := by
  rw [show [AV.int .i64 0, AV.int .i64 0, AV.int .i64 0, AV.int .i64 0] = List.replicate 4 (AV.int .i64 0) from rfl, rep_flat, memI_zero, cellsB]
  congr 1; funext k; unfold sel4; split <;> (try rfl); split <;> (try rfl); split <;> rfl
theorem ends_make (n : Nat) : (List.replicate n [AV.int .i64 0, AV.int .i64 0, AV.int .i64 0]).flatten = endsB n (fun _ => 0) (fun _ => 0) fun _ => 0 := by
  rw [show [AV.int .i64 0, AV.int .i64 0, AV.int .i64 0] = List.replicate 3 (AV.int .i64 0) from rfl, rep_flat, memI_zero, endsB]
  congr 1; funext k; unfold sel3; split <;> (try rfl); split <;> rfl
theorem ints_make (n : Nat) : (List.replicate n [AV.int .i64 0]).flatten = memI n fun _ => 0 := by
  rw [show [AV.int .i64 0] = List.replicate 1 (AV.int .i64 0) from rfl, rep_flat, memI_zero, Nat.mul_one]
def upTo (k : Nat) (v : Int) : Nat → Int := fun s => if s < k then v else 0
theorem upTo_0 (v : Int) : upTo 0 v = fun _ => 0 := by funext s; unfold upTo; rw [if_neg (by omega)]
theorem upTo_s (k : Nat) (v : Int) : updI (upTo k v) k v = upTo (k + 1) v := by
  funext s; unfold updI upTo
  by_cases e : s = k
  · rw [if_pos e, if_pos (by omega)]
  · rw [if_neg e]
    by_cases h : s < k
    · rw [if_pos h, if_pos (by omega)]
    · rw [if_neg h, if_neg (by omega)]
theorem upd_zero (k : Nat) : updI (fun _ => 0) k 0 = fun _ => 0 := by funext s; unfold updI; split <;> rfl
def S0 (n m : Nat) : PS := ⟨0, upTo n (-1), upTo n (-1), upTo n (-1), upTo m (-1), upTo m (-1), fun _ => 0⟩
theorem good_0 {n m : Nat} (hn : 0 < n) (hn2 : n ≤ 2000) (hm : m ≤ 64) : GoodP n m (fun _ => 0) (fun _ => []) (S0 n m) := by
  have h : ∀ {k s : Nat}, s < k → upTo k (-1) s = -1 := fun {k s} hs => if_pos hs
  refine ⟨⟨⟨fun _ _ => rfl, fun i s hs => (by cases hs), fun s hs => .inl ⟨h hs, h hs, h hs⟩, fun _ => List.nodup_nil, fun i X s Y e => (by simp at e), fun i hi => ⟨h hi, h hi, rfl⟩⟩, fun _ _ _ => rfl, Nat.zero_le _, fun t ht => (by cases ht)⟩, hm, by omega, hn⟩
end Go.Pol
namespace Go.Proofs.Ytkjimnhmiojcdaa
open Go Go.Am Go.Pol
theorem wkx_Lm {p : Prop} (h : p := by (refine weak_s (by exact oneOf_of rfl) (by exact subH_of rfl) (by intro hs; (repeat' ((try (conv => whnf)); first | with_reducible exact True.intro | with_reducible refine And.intro ?_ ?_ | (with_reducible refine WkX.mk ?_; first | exact wk_int (by first | rfl | omega | (dsimp only; omega)) | exact wk_bool rfl | exact wk_ptr rfl (by first | decide | omega | simp) | exact wk_sl rfl (by first | decide | omega | simp) (by first | rfl | omega | simp) (by first | omega | simp) (by first | omega | simp) | exact wk_plain hs (by (first | assumption | exact plain_int | exact plain_bool | exact plain_undef | exact plain_nils | exact plain_nilp | exact plain_nilf | exact plain_str)))))) (by intro hs; (try dsimp only); (repeat' (first | with_reducible exact wko_nil | refine wko_plain hs (by first | decide | omega | simp) rfl (by first | rfl) (by (first | with_reducible assumption | with_reducible apply cells_plain | with_reducible apply ends_plain | with_reducible apply of_plain _ _ | with_reducible apply memI_plain _ _ | with_reducible apply plain_map (fun _ => plain_int) | with_reducible apply plain_map (fun _ => plain_bool) | ((repeat' (first | exact plain_all0 | refine plain_all2 ?_ ?_ | exact plain_int | first | assumption | exact plain_int | exact plain_bool | exact plain_undef | exact plain_nils | exact plain_nilp | exact plain_nilf | exact plain_str)); done) | ((refine plain_app ?_ ?_) <;> (first | with_reducible assumption | with_reducible apply cells_plain | with_reducible apply ends_plain | with_reducible apply of_plain _ _ | with_reducible apply memI_plain _ _ | with_reducible apply plain_map (fun _ => plain_int) | with_reducible apply plain_map (fun _ => plain_bool) | ((repeat' (first | exact plain_all0 | refine plain_all2 ?_ ?_ | exact plain_int | first | assumption | exact plain_int | exact plain_bool | exact plain_undef | exact plain_nils | exact plain_nilp | exact plain_nilf | exact plain_str)); done))))) ?_ | refine wko_cells (by first | decide | omega | simp) rfl (by repeat' (first | with_reducible exact wkl_nil | with_reducible refine wkl_cons ?_ ?_ | (first | exact wk_int (by first | rfl | omega | (dsimp only; omega)) | exact wk_bool rfl | exact wk_ptr rfl (by first | decide | omega | simp) | exact wk_sl rfl (by first | decide | omega | simp) (by first | rfl | omega | simp) (by first | omega | simp) (by first | omega | simp) | exact wk_plain hs (by (first | assumption | exact plain_int | exact plain_bool | exact plain_undef | exact plain_nils | exact plain_nilp | exact plain_nilf | exact plain_str))))) ?_ | exact wko_nil))))) : p := h
theorem wx_Lm {p q : Prop} (hq : q) (h : HidP q → p := by (intro hQz; ((repeat' ((try (conv => whnf)); first | (with_reducible first | refine run_cons ?_ | refine runq_cons ?_ | refine code_seq ?_ | refine code_reg ?_ | refine code_cond ?_ | refine run_nil ?_ | refine runq_nil ?_ | refine rund_op rfl ?_ | refine rund_nil ?_ | refine code_block ?_ | refine code_skip ?_ | refine code_exit ?_ | refine code_ret ?_ | refine code_range ?_ | refine rund_fast (by decide +kernel) ?_ | refine rund_slow (by decide +kernel) ?_ | refine br_tt ?_ | refine br_ff ?_ | refine br_n ?_ | refine br_and ?_ | refine br_or ?_ | refine br_t (by assumption) ?_ | refine br_f (by assumption) ?_ | refine eq_i64 (by omega) ?_ | refine el_tn ?_) | ((with_reducible refine br_dt ?_ ?_); focus omega) | ((with_reducible refine br_df ?_ ?_); focus omega) | ((with_reducible apply br_dq hQz) <;> (try intro hsp hQz)) | ((with_reducible refine ck_x ?_ ?_); focus (first | omega | rfl | assumption | decide | (simp only [List.length_map, List.length_cons, List.length_nil]; omega) | exact (cells_make n) | exact (ends_make m) | exact (show ((n : Nat) : Int).toNat = n from rfl) | exact (show ((m : Nat) : Int).toNat = m from rfl))) | refine eq_of ((cells_make n)) ?_ | refine eq_of ((ends_make m)) ?_ | refine eq_of ((show ((n : Nat) : Int).toNat = n from rfl)) ?_ | refine eq_of ((show ((m : Nat) : Int).toNat = m from rfl)) ?_ | (with_reducible first | refine eq_tn ?_ | refine eq_tn1 ?_ | refine eq_tn2 ?_ | refine eq_m1 ?_ | refine eq_m2 ?_ | refine eq_zm ?_ | refine eq_z ?_ | refine len_map ?_ | refine len_sl ?_ | refine len_nils ?_ | refine len_own' ?_ | refine len_isl ?_ | refine eq_u8 (by omega) ?_ | refine eq_u16 (by omega) ?_) | refine set1K_of (by rw [cells_len]; omega) sc0 ?_ | refine set1K_of (by rw [cells_len]; omega) sc1 ?_ | refine set1K_of (by rw [cells_len]; omega) sc2 ?_ | refine set1K_of (by rw [cells_len]; omega) sc3 ?_ | refine set1K_of (by rw [ends_len]; omega) se0 ?_ | refine set1K_of (by rw [ends_len]; omega) se1 ?_ | refine set1K_of (by rw [ends_len]; omega) se2 ?_ | (with_reducible first | refine eq_rfl ?_ | refine ChkX.mk (by kernel_rfl) ?_ | refine code_q rfl ?_ | refine code_d (by decide +kernel) ?_ | refine end_go rfl ?_) | (refine cx_in hmix b52 rfl ?_; unfold c52) | refine len_map ?_ | refine len_isl ?_ | refine el_of rfl rfl ?_ | refine del_own ?_ | refine del_own' rfl ?_ | refine as_go rfl ?_ | refine rd_go rfl ?_ | refine rg_end rfl ?_ | refine flat_ownX ?_ | refine EqLX.mk ?_ | ((with_reducible apply br_bq hQz) <;> (try intro hsp hQz)) | exact hQz.out)) <;> (try (conv => whnf))))) : p := h ⟨hq⟩
theorem l_new (n m : Nat) (h1 : 1 ≤ n) (h2 : n ≤ 2000) (h3 : 1 ≤ m) (h4 : m ≤ 64) :
    LocC Try.prog G0 26 [.int .i64 (n : Nat), .int .i64 (m : Nat)] [] 0 fun x h => x = .tup [.ptr 0 0, .int .i64 0] ∧ h = ⟨poolS n m (fun _ => 0) (S0 n m), 3⟩ := by
  refine loc_x hmix b26 rfl ?_
  unfold c26
  (refine wx_Lm ?_; repeat' (first | with_reducible refine And.intro ?_ ?_ | intro hsp))
  (refine loop_x [18] (fun (k : Nat) => [(5, .ptr 0 0), (19, .int .i64 (k : Nat))]) (fun (k : Nat) => ⟨[(0, .cells [.sl 1 0 n n 4, .sl 2 0 m m 3, .int .i64 0]), (1, .cells (cellsB n (fun _ => 0) (upTo k (-1)) (upTo k (-1)) (upTo k (-1)))), (2, .cells (endsB m (fun _ => 0) (fun _ => 0) fun _ => 0))], 3⟩) (fun (k : Nat) => k ≤ n) (fun (k : Nat) => n - k) (0) [(0, 5), (1, 1), (2, 3)] rfl (fun _ => by first | exact Nat.zero_le _ | (dsimp only; omega)) ?_ (by ((try (conv => whnf)); (rw [upTo_0]); exact wkx_Lm)) ?_)
  · exact Nat.zero_le _
  intro k hk
  by_cases hkn : k < n
  · (refine wx_Lm ?_; repeat' (first | with_reducible refine And.intro ?_ ?_ | intro hsp))
    exact next_x (k + 1) [] (by (try dsimp only); omega) (by first | omega | (dsimp only; omega)) rfl (by ((try dsimp only); rw [upd_zero, upTo_s]); exact wkx_Lm)
  · obtain rfl : k = n := by omega
    (refine wx_Lm ?_; repeat' (first | with_reducible refine And.intro ?_ ?_ | intro hsp))
    (refine loop_x [34] (fun (j : Nat) => [(5, .ptr 0 0), (35, .int .i64 (j : Nat))]) (fun (j : Nat) => ⟨[(0, .cells [.sl 1 0 k k 4, .sl 2 0 m m 3, .int .i64 0]), (1, .cells (cellsB k (fun _ => 0) (upTo k (-1)) (upTo k (-1)) (upTo k (-1)))), (2, .cells (endsB m (upTo j (-1)) (upTo j (-1)) fun _ => 0))], 3⟩) (fun (j : Nat) => j ≤ m) (fun (j : Nat) => m - j) (0) [] rfl (fun _ => by first | exact Nat.zero_le _ | (dsimp only; omega)) ?_ (by ((try (conv => whnf)); (rw [upTo_0]); exact wkx_Lm)) ?_)
    · exact Nat.zero_le _
    intro j hj
    by_cases hjm : j < m
    · (refine wx_Lm ?_; repeat' (first | with_reducible refine And.intro ?_ ?_ | intro hsp))
      exact next_x (j + 1) [] (by (try dsimp only); omega) (by first | omega | (dsimp only; omega)) rfl (by ((try dsimp only); rw [upd_zero, upTo_s]); exact wkx_Lm)
    · obtain rfl : j = m := by omega
      (refine wx_Lm ?_; repeat' (first | with_reducible refine And.intro ?_ ?_ | intro hsp))
      exact end_pool (wk_tup ⟨wk_ptr rfl (show 0 < 3 by decide), wk_int rfl, trivial⟩) rfl rfl rfl
end Go.Proofs.Ytkjimnhmiojcdaa
