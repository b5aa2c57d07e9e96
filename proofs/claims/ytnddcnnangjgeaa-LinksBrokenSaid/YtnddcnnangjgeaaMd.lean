/-
  The program's Load.
-/
import Derived.Test.YtnddcnnangjgeaaMb
set_option linter.unusedSimpArgs false
set_option linter.unusedVariables false
namespace Go.Pol
/-- The lists, as far as they have been made: those below i, and k slots of list i. -/
def cutQ (Q : Nat → List Nat) (i k : Nat) : Nat → List Nat := fun j => if j < i then Q j else if j = i then (Q i).take k else []
theorem cutQ_0 (Q : Nat → List Nat) : cutQ Q 0 0 = fun _ => [] := by
  funext j; unfold cutQ
  rw [if_neg (by omega)]
  split
  · exact List.take_zero
  · rfl
theorem cutQ_next (Q : Nat → List Nat) (i : Nat) : cutQ Q i (Q i).length = cutQ Q (i + 1) 0 := by
  funext j; unfold cutQ
  by_cases h : j < i
  · rw [if_pos h, if_pos (by omega)]
  · rw [if_neg h]
    by_cases e : j = i
    · subst e; rw [if_pos rfl, if_pos (by omega), List.take_length]
    · rw [if_neg e, if_neg (by omega)]
      split
      · exact List.take_zero.symm
      · rfl
theorem cutQ_at (Q : Nat → List Nat) (i k : Nat) : cutQ Q i k i = (Q i).take k := by unfold cutQ; rw [if_neg (by omega), if_pos rfl]
theorem cutQ_s {Q : Nat → List Nat} {i k : Nat} (hk : k < (Q i).length) : updQ (cutQ Q i k) i (cutQ Q i k i ++ [nth 0 (Q i) k]) = cutQ Q i (k + 1) := by
  rw [cutQ_at, ← take_nth hk]
  funext j; unfold updQ cutQ
  by_cases e : j = i
  · subst e; rw [if_pos rfl, if_neg (by omega), if_pos rfl]
  · rw [if_neg e]
    split
    · rfl
    · rfl
theorem cutQ_end {Q : Nat → List Nat} {m : Nat} (h : ∀ i, m ≤ i → Q i = []) : cutQ Q m 0 = Q := by
  funext j; unfold cutQ
  by_cases e : j < m
  · rw [if_pos e]
  · rw [if_neg e, h j (by omega)]
    split
    · exact List.take_zero
    · rfl
theorem cutQ_mem {Q : Nat → List Nat} {i k j s : Nat} (h : s ∈ cutQ Q i k j) : s ∈ Q j := by
  unfold cutQ at h
  split at h
  · exact h
  · split at h
    · rename_i e; subst e; exact List.mem_of_mem_take h
    · cases h
theorem cutQ_new {n m : Nat} {L N P A B C : Nat → Int} {Q : Nat → List Nat} (h : St n m L N P A B C Q) {i k : Nat} (hk : k < (Q i).length) (j : Nat) : nth 0 (Q i) k ∉ cutQ Q i k j := fun hm => by
  have e := h.one (cutQ_mem hm) (nth_mem (d := 0) hk)
  subst e
  rw [cutQ_at] at hm
  have hnd := h.nd j
  have ht := take_nth (d := 0) hk
  have : (Q j).take (k + 1) ++ (Q j).drop (k + 1) = Q j := List.take_append_drop ..
  rw [← this, ht] at hnd
  have := (List.nodup_append.1 hnd).1
  exact (List.nodup_append.1 this).2.2 _ hm _ (List.mem_singleton_self _) rfl
theorem Inv.edged {n m : Nat} {V : Nat → Int} {Q : Nat → List Nat} {S : PS} (h : Inv n m V Q S) {x i : Nat} {X Y : List Nat} (v : Int) (hx : x < n) (hf : ∀ j, x ∉ Q j) (hi : i < m) (hQ : Q i = X ++ Y) :
    Inv n m (updI V x v) (updQ Q i (X ++ x :: Y)) ⟨S.fr, updI S.L x i, tieN S.N x (lst X) (hd Y), tieP S.P x (lst X) (hd Y), tieA S.A i x (lst X), tieA S.B i x (hd Y), updI S.C i (S.C i + 1)⟩ := by
  have hL := h.st.unused hx hf
  refine ⟨h.st.tie hx hL hi hQ, fun s hs hl => ?_, h.frn, fun t ht => ?_⟩
  · dsimp only at hl
    by_cases e : s = x
    · subst e; rw [updI_at] at hl; omega
    · rw [updI_ne e] at hl ⊢; exact h.val s hs hl
  · dsimp only at ht ⊢
    by_cases e : t = x
    · subst e; rw [updI_at]; omega
    · rw [updI_ne e]; exact h.fru t ht
/-- The values of slots that are in lists. -/
def valQ (V V' : Nat → Int) (Q : Nat → List Nat) : Prop := ∀ j s, s ∈ Q j → V' s = V s
theorem valQ_s {V V' : Nat → Int} {Q : Nat → List Nat} {i k : Nat} (h : valQ V V' (cutQ Q i k)) (hk : k < (Q i).length) : valQ V (updI V' (nth 0 (Q i) k) (V (nth 0 (Q i) k))) (cutQ Q i (k + 1)) := fun j s hs => by
  rw [← cutQ_s hk] at hs
  unfold updI
  split
  · rename_i e; rw [e]
  · rename_i e
    unfold updQ at hs
    split at hs
    · rename_i ej
      subst ej
      rcases List.mem_append.1 hs with hs | hs
      · exact h _ _ hs
      · exact absurd (List.mem_singleton.1 hs) e
    · exact h _ _ hs
end Go.Pol
namespace Go.Proofs.Ytnddcnnangjgeaa
open Go Go.Am Go.Pol
theorem wkx_Md {p : Prop} (h : p := by (refine weak_s (by exact oneOf_of rfl) (by exact subH_of rfl) (by intro hs; (repeat' ((try (conv => whnf)); first | with_reducible exact True.intro | with_reducible refine And.intro ?_ ?_ | (with_reducible refine WkX.mk ?_; first | exact wk_undef | exact wk_int (by first | rfl | omega | (dsimp only; omega)) | exact wk_bool rfl | exact wk_ptr rfl (by first | decide | simp | omega) | exact wk_sl rfl (by first | decide | simp | omega) (by first | rfl | omega | simp) (by first | omega | simp) (by first | omega | simp) | exact wk_int hA0 | exact wk_int hN | exact wk_own rfl (by first | decide | simp | omega) | exact wk_nil0 (by first | rfl | simp) | exact wk_slown rfl (by first | decide | omega | (simp; done)) (by first | omega | (simp; done)) (by first | rfl | omega | (simp; done) | (simp; omega)) | exact wk_plain hs (by (first | assumption | exact plain_int | exact plain_bool | exact plain_undef | exact plain_nils | exact plain_nilp | exact plain_nilf | exact plain_str | with_reducible apply plain_st | with_reducible apply plain_stateLk | with_reducible apply plain_ints1)) | (with_reducible refine wk_fn ?_ ?_ <;> repeat' (first | with_reducible exact wkl_nil | with_reducible refine wkl_cons ?_ ?_ | exact wk_ptr rfl (by first | decide | simp | omega))) | (with_reducible refine wk_agg ?_; repeat' (first | with_reducible exact wkl_nil | with_reducible refine wkl_cons ?_ ?_ | exact wk_int (by first | rfl | omega | (dsimp only; omega)) | exact wk_bool rfl)) | exact wk_yld rfl (by first | decide | simp | omega))))) (by intro hs; (try dsimp only); (repeat' (first | with_reducible exact wko_nil | refine wko_plain hs (by first | decide | omega | simp) rfl (by first | rfl) (by (first | with_reducible assumption | with_reducible apply cells_plain | with_reducible apply ends_plain | with_reducible apply of_plain _ _ | with_reducible apply memI_plain _ _ | with_reducible apply memT_plain _ _ | with_reducible apply plain_stC | with_reducible apply plain_map (fun _ => plain_int) | with_reducible apply plain_map (fun _ => plain_bool) | ((repeat' (first | exact plain_all0 | refine plain_all2 ?_ ?_ | exact plain_int | first | assumption | exact plain_int | exact plain_bool | exact plain_undef | exact plain_nils | exact plain_nilp | exact plain_nilf | exact plain_str | with_reducible apply plain_st | with_reducible apply plain_stateLk | with_reducible apply plain_ints1)); done) | ((refine plain_app ?_ ?_) <;> (first | with_reducible assumption | with_reducible apply cells_plain | with_reducible apply ends_plain | with_reducible apply of_plain _ _ | with_reducible apply memI_plain _ _ | with_reducible apply memT_plain _ _ | with_reducible apply plain_stC | with_reducible apply plain_map (fun _ => plain_int) | with_reducible apply plain_map (fun _ => plain_bool) | ((repeat' (first | exact plain_all0 | refine plain_all2 ?_ ?_ | exact plain_int | first | assumption | exact plain_int | exact plain_bool | exact plain_undef | exact plain_nils | exact plain_nilp | exact plain_nilf | exact plain_str | with_reducible apply plain_st | with_reducible apply plain_stateLk | with_reducible apply plain_ints1)); done))))) ?_ | refine wko_cells (by first | decide | omega | simp) rfl (by repeat' (first | with_reducible exact wkl_nil | with_reducible refine wkl_cons ?_ ?_ | (first | exact wk_undef | exact wk_int (by first | rfl | omega | (dsimp only; omega)) | exact wk_bool rfl | exact wk_ptr rfl (by first | decide | simp | omega) | exact wk_sl rfl (by first | decide | simp | omega) (by first | rfl | omega | simp) (by first | omega | simp) (by first | omega | simp) | exact wk_int hA0 | exact wk_int hN | exact wk_own rfl (by first | decide | simp | omega) | exact wk_nil0 (by first | rfl | simp) | exact wk_slown rfl (by first | decide | omega | (simp; done)) (by first | omega | (simp; done)) (by first | rfl | omega | (simp; done) | (simp; omega)) | exact wk_plain hs (by (first | assumption | exact plain_int | exact plain_bool | exact plain_undef | exact plain_nils | exact plain_nilp | exact plain_nilf | exact plain_str | with_reducible apply plain_st | with_reducible apply plain_stateLk | with_reducible apply plain_ints1)) | (with_reducible refine wk_fn ?_ ?_ <;> repeat' (first | with_reducible exact wkl_nil | with_reducible refine wkl_cons ?_ ?_ | exact wk_ptr rfl (by first | decide | simp | omega))) | (with_reducible refine wk_agg ?_; repeat' (first | with_reducible exact wkl_nil | with_reducible refine wkl_cons ?_ ?_ | exact wk_int (by first | rfl | omega | (dsimp only; omega)) | exact wk_bool rfl)) | exact wk_yld rfl (by first | decide | simp | omega)))) ?_ | refine wko_loop (by first | decide | omega | simp) rfl (by ((try subst hF); exact wkl_sd (wkf_sget (by (repeat' ((try (conv => whnf)); first | with_reducible exact True.intro | with_reducible refine And.intro ?_ ?_ | (with_reducible refine WkX.mk ?_; first | exact wk_undef | exact wk_int (by first | rfl | omega | (dsimp only; omega)) | exact wk_bool rfl | exact wk_ptr rfl (by first | decide | simp | omega) | exact wk_sl rfl (by first | decide | simp | omega) (by first | rfl | omega | simp) (by first | omega | simp) (by first | omega | simp) | exact wk_int hA0 | exact wk_int hN | exact wk_own rfl (by first | decide | simp | omega) | exact wk_nil0 (by first | rfl | simp) | exact wk_slown rfl (by first | decide | omega | (simp; done)) (by first | omega | (simp; done)) (by first | rfl | omega | (simp; done) | (simp; omega)) | exact wk_plain hs (by (first | assumption | exact plain_int | exact plain_bool | exact plain_undef | exact plain_nils | exact plain_nilp | exact plain_nilf | exact plain_str | with_reducible apply plain_st | with_reducible apply plain_stateLk | with_reducible apply plain_ints1)) | (with_reducible refine wk_fn ?_ ?_ <;> repeat' (first | with_reducible exact wkl_nil | with_reducible refine wkl_cons ?_ ?_ | exact wk_ptr rfl (by first | decide | simp | omega))) | (with_reducible refine wk_agg ?_; repeat' (first | with_reducible exact wkl_nil | with_reducible refine wkl_cons ?_ ?_ | exact wk_int (by first | rfl | omega | (dsimp only; omega)) | exact wk_bool rfl)) | exact wk_yld rfl (by first | decide | simp | omega)))))))) ?_ | exact wko_nil))))) : p := h
theorem l_fresh (n m : Nat) (h1 : 1 ≤ n) (h2 : n ≤ 2000) (h3 : 1 ≤ m) (h4 : m ≤ 64) :
    LocC Try.prog G0 63 [.int .i64 (n : Nat), .int .i64 (m : Nat)] [] 0 fun x h => x = .ptr 0 0 ∧ h = ⟨poolS n m (fun _ => 0) (S0 n m), 3⟩ := by
  refine loc_x hmix b63 rfl ?_
  unfold c63
  ((repeat' ((try (conv => whnf)); first | (with_reducible first | refine run_cons ?_ | refine runq_cons ?_ | refine code_seq ?_ | refine code_reg ?_ | refine code_cond ?_ | refine run_nil ?_ | refine runq_nil ?_ | refine rund_op rfl ?_ | refine rund_nil ?_ | refine code_block ?_ | refine code_skip ?_ | refine code_exit ?_ | refine code_ret ?_ | refine code_range ?_ | refine rund_fast (by decide +kernel) ?_ | refine rund_slow (by decide +kernel) ?_ | refine br_tt ?_ | refine br_ff ?_ | refine br_n ?_ | refine br_and ?_ | refine br_or ?_ | refine br_t (by assumption) ?_ | refine br_f (by assumption) ?_ | refine eq_i64 (by omega) ?_ | refine el_tn ?_) | (with_reducible refine br_d ?_ ?_ <;> intro hsp <;> first | (exfalso; omega) | skip) | ((with_reducible refine ck_x ?_ ?_); focus (first | omega | rfl | assumption | decide | (simp only [List.length_map, List.length_cons, List.length_nil]; omega) | exact (cells_make n) | exact (ends_make m) | exact (show ((n : Nat) : Int).toNat = n from rfl) | exact (show ((m : Nat) : Int).toNat = m from rfl))) | refine eq_of ((cells_make n)) ?_ | refine eq_of ((ends_make m)) ?_ | refine eq_of ((show ((n : Nat) : Int).toNat = n from rfl)) ?_ | refine eq_of ((show ((m : Nat) : Int).toNat = m from rfl)) ?_ | (with_reducible first | refine eq_tn ?_ | refine eq_tn1 ?_ | refine eq_tn2 ?_ | refine eq_m1 ?_ | refine eq_m2 ?_ | refine eq_zm ?_ | refine eq_z ?_ | refine len_map ?_ | refine len_sl ?_ | refine len_nils ?_ | refine len_own' ?_ | refine len_isl ?_ | refine eq_u8 (by omega) ?_ | refine eq_u16 (by omega) ?_) | (with_reducible first | refine eq_rfl ?_ | refine ChkX.mk (by kernel_rfl) ?_ | refine code_q rfl ?_ | refine code_d (by decide +kernel) ?_ | refine end_go rfl ?_) | refine len_map ?_ | refine len_isl ?_ | refine el_of rfl rfl ?_ | refine del_own ?_ | refine del_own' rfl ?_ | refine as_go rfl ?_ | refine rd_go rfl ?_ | refine rg_end rfl ?_ | refine flat_ownX ?_ | (with_reducible refine br_b ?_ ?_ <;> intro hsp))) <;> (try (conv => whnf)))
  (refine loop_x [18] (fun (k : Nat) => [(5, .ptr 0 0), (19, .int .i64 (k : Nat))]) (fun (k : Nat) => ⟨[(0, .cells [.sl 1 0 n n 4, .sl 2 0 m m 3, .int .i64 0]), (1, .cells (cellsB n (fun _ => 0) (upTo k (-1)) (upTo k (-1)) (upTo k (-1)))), (2, .cells (endsB m (fun _ => 0) (fun _ => 0) fun _ => 0))], 3⟩) (fun (k : Nat) => k ≤ n) (fun (k : Nat) => n - k) (0) [(0, 5), (1, 1), (2, 3)] rfl (fun _ => by first | exact Nat.zero_le _ | (dsimp only; omega)) ?_ (by ((try (conv => whnf)); (rw [upTo_0]); exact wkx_Md)) ?_)
  · exact Nat.zero_le _
  intro k hk
  by_cases hkn : k < n
  · ((repeat' ((try (conv => whnf)); first | (with_reducible first | refine run_cons ?_ | refine runq_cons ?_ | refine code_seq ?_ | refine code_reg ?_ | refine code_cond ?_ | refine run_nil ?_ | refine runq_nil ?_ | refine rund_op rfl ?_ | refine rund_nil ?_ | refine code_block ?_ | refine code_skip ?_ | refine code_exit ?_ | refine code_ret ?_ | refine code_range ?_ | refine rund_fast (by decide +kernel) ?_ | refine rund_slow (by decide +kernel) ?_ | refine br_tt ?_ | refine br_ff ?_ | refine br_n ?_ | refine br_and ?_ | refine br_or ?_ | refine br_t (by assumption) ?_ | refine br_f (by assumption) ?_ | refine eq_i64 (by omega) ?_ | refine el_tn ?_) | (with_reducible refine br_d ?_ ?_ <;> intro hsp <;> first | (exfalso; omega) | skip) | ((with_reducible refine ck_x ?_ ?_); focus (first | omega | rfl | assumption | decide | (simp only [List.length_map, List.length_cons, List.length_nil]; omega))) | (with_reducible first | refine eq_tn ?_ | refine eq_tn1 ?_ | refine eq_tn2 ?_ | refine eq_m1 ?_ | refine eq_m2 ?_ | refine eq_zm ?_ | refine eq_z ?_ | refine len_map ?_ | refine len_sl ?_ | refine len_nils ?_ | refine len_own' ?_ | refine len_isl ?_ | refine eq_u8 (by omega) ?_ | refine eq_u16 (by omega) ?_) | refine set1K_of (by rw [cells_len]; omega) sc0 ?_ | refine set1K_of (by rw [cells_len]; omega) sc1 ?_ | refine set1K_of (by rw [cells_len]; omega) sc2 ?_ | refine set1K_of (by rw [cells_len]; omega) sc3 ?_ | (with_reducible first | refine eq_rfl ?_ | refine ChkX.mk (by kernel_rfl) ?_ | refine code_q rfl ?_ | refine code_d (by decide +kernel) ?_ | refine end_go rfl ?_) | refine len_map ?_ | refine len_isl ?_ | refine el_of rfl rfl ?_ | refine del_own ?_ | refine del_own' rfl ?_ | refine as_go rfl ?_ | refine rd_go rfl ?_ | refine rg_end rfl ?_ | refine flat_ownX ?_ | (with_reducible refine br_b ?_ ?_ <;> intro hsp))) <;> (try (conv => whnf)))
    exact next_x (k + 1) [] (by (try dsimp only); omega) (by first | omega | (dsimp only; omega)) rfl (by ((try dsimp only); rw [upd_zero, upTo_s]); exact wkx_Md)
  · obtain rfl : k = n := by omega
    ((repeat' ((try (conv => whnf)); first | (with_reducible first | refine run_cons ?_ | refine runq_cons ?_ | refine code_seq ?_ | refine code_reg ?_ | refine code_cond ?_ | refine run_nil ?_ | refine runq_nil ?_ | refine rund_op rfl ?_ | refine rund_nil ?_ | refine code_block ?_ | refine code_skip ?_ | refine code_exit ?_ | refine code_ret ?_ | refine code_range ?_ | refine rund_fast (by decide +kernel) ?_ | refine rund_slow (by decide +kernel) ?_ | refine br_tt ?_ | refine br_ff ?_ | refine br_n ?_ | refine br_and ?_ | refine br_or ?_ | refine br_t (by assumption) ?_ | refine br_f (by assumption) ?_ | refine eq_i64 (by omega) ?_ | refine el_tn ?_) | (with_reducible refine br_d ?_ ?_ <;> intro hsp <;> first | (exfalso; omega) | skip) | ((with_reducible refine ck_x ?_ ?_); focus (first | omega | rfl | assumption | decide | (simp only [List.length_map, List.length_cons, List.length_nil]; omega))) | (with_reducible first | refine eq_tn ?_ | refine eq_tn1 ?_ | refine eq_tn2 ?_ | refine eq_m1 ?_ | refine eq_m2 ?_ | refine eq_zm ?_ | refine eq_z ?_ | refine len_map ?_ | refine len_sl ?_ | refine len_nils ?_ | refine len_own' ?_ | refine len_isl ?_ | refine eq_u8 (by omega) ?_ | refine eq_u16 (by omega) ?_) | (with_reducible first | refine eq_rfl ?_ | refine ChkX.mk (by kernel_rfl) ?_ | refine code_q rfl ?_ | refine code_d (by decide +kernel) ?_ | refine end_go rfl ?_) | refine len_map ?_ | refine len_isl ?_ | refine el_of rfl rfl ?_ | refine del_own ?_ | refine del_own' rfl ?_ | refine as_go rfl ?_ | refine rd_go rfl ?_ | refine rg_end rfl ?_ | refine flat_ownX ?_ | (with_reducible refine br_b ?_ ?_ <;> intro hsp))) <;> (try (conv => whnf)))
    (refine loop_x [34] (fun (j : Nat) => [(5, .ptr 0 0), (35, .int .i64 (j : Nat))]) (fun (j : Nat) => ⟨[(0, .cells [.sl 1 0 k k 4, .sl 2 0 m m 3, .int .i64 0]), (1, .cells (cellsB k (fun _ => 0) (upTo k (-1)) (upTo k (-1)) (upTo k (-1)))), (2, .cells (endsB m (upTo j (-1)) (upTo j (-1)) fun _ => 0))], 3⟩) (fun (j : Nat) => j ≤ m) (fun (j : Nat) => m - j) (0) [] rfl (fun _ => by first | exact Nat.zero_le _ | (dsimp only; omega)) ?_ (by ((try (conv => whnf)); (rw [upTo_0]); exact wkx_Md)) ?_)
    · exact Nat.zero_le _
    intro j hj
    by_cases hjm : j < m
    · ((repeat' ((try (conv => whnf)); first | (with_reducible first | refine run_cons ?_ | refine runq_cons ?_ | refine code_seq ?_ | refine code_reg ?_ | refine code_cond ?_ | refine run_nil ?_ | refine runq_nil ?_ | refine rund_op rfl ?_ | refine rund_nil ?_ | refine code_block ?_ | refine code_skip ?_ | refine code_exit ?_ | refine code_ret ?_ | refine code_range ?_ | refine rund_fast (by decide +kernel) ?_ | refine rund_slow (by decide +kernel) ?_ | refine br_tt ?_ | refine br_ff ?_ | refine br_n ?_ | refine br_and ?_ | refine br_or ?_ | refine br_t (by assumption) ?_ | refine br_f (by assumption) ?_ | refine eq_i64 (by omega) ?_ | refine el_tn ?_) | (with_reducible refine br_d ?_ ?_ <;> intro hsp <;> first | (exfalso; omega) | skip) | ((with_reducible refine ck_x ?_ ?_); focus (first | omega | rfl | assumption | decide | (simp only [List.length_map, List.length_cons, List.length_nil]; omega))) | (with_reducible first | refine eq_tn ?_ | refine eq_tn1 ?_ | refine eq_tn2 ?_ | refine eq_m1 ?_ | refine eq_m2 ?_ | refine eq_zm ?_ | refine eq_z ?_ | refine len_map ?_ | refine len_sl ?_ | refine len_nils ?_ | refine len_own' ?_ | refine len_isl ?_ | refine eq_u8 (by omega) ?_ | refine eq_u16 (by omega) ?_) | refine set1K_of (by rw [ends_len]; omega) se0 ?_ | refine set1K_of (by rw [ends_len]; omega) se1 ?_ | refine set1K_of (by rw [ends_len]; omega) se2 ?_ | (with_reducible first | refine eq_rfl ?_ | refine ChkX.mk (by kernel_rfl) ?_ | refine code_q rfl ?_ | refine code_d (by decide +kernel) ?_ | refine end_go rfl ?_) | refine len_map ?_ | refine len_isl ?_ | refine el_of rfl rfl ?_ | refine del_own ?_ | refine del_own' rfl ?_ | refine as_go rfl ?_ | refine rd_go rfl ?_ | refine rg_end rfl ?_ | refine flat_ownX ?_ | (with_reducible refine br_b ?_ ?_ <;> intro hsp))) <;> (try (conv => whnf)))
      exact next_x (j + 1) [] (by (try dsimp only); omega) (by first | omega | (dsimp only; omega)) rfl (by ((try dsimp only); rw [upd_zero, upTo_s]); exact wkx_Md)
    · obtain rfl : j = m := by omega
      ((repeat' ((try (conv => whnf)); first | (with_reducible first | refine run_cons ?_ | refine runq_cons ?_ | refine code_seq ?_ | refine code_reg ?_ | refine code_cond ?_ | refine run_nil ?_ | refine runq_nil ?_ | refine rund_op rfl ?_ | refine rund_nil ?_ | refine code_block ?_ | refine code_skip ?_ | refine code_exit ?_ | refine code_ret ?_ | refine code_range ?_ | refine rund_fast (by decide +kernel) ?_ | refine rund_slow (by decide +kernel) ?_ | refine br_tt ?_ | refine br_ff ?_ | refine br_n ?_ | refine br_and ?_ | refine br_or ?_ | refine br_t (by assumption) ?_ | refine br_f (by assumption) ?_ | refine eq_i64 (by omega) ?_ | refine el_tn ?_) | (with_reducible refine br_d ?_ ?_ <;> intro hsp <;> first | (exfalso; omega) | skip) | ((with_reducible refine ck_x ?_ ?_); focus (first | omega | rfl | assumption | decide | (simp only [List.length_map, List.length_cons, List.length_nil]; omega))) | (with_reducible first | refine eq_tn ?_ | refine eq_tn1 ?_ | refine eq_tn2 ?_ | refine eq_m1 ?_ | refine eq_m2 ?_ | refine eq_zm ?_ | refine eq_z ?_ | refine len_map ?_ | refine len_sl ?_ | refine len_nils ?_ | refine len_own' ?_ | refine len_isl ?_ | refine eq_u8 (by omega) ?_ | refine eq_u16 (by omega) ?_) | (with_reducible first | refine eq_rfl ?_ | refine ChkX.mk (by kernel_rfl) ?_ | refine code_q rfl ?_ | refine code_d (by decide +kernel) ?_ | refine end_go rfl ?_) | refine len_map ?_ | refine len_isl ?_ | refine el_of rfl rfl ?_ | refine del_own ?_ | refine del_own' rfl ?_ | refine as_go rfl ?_ | refine rd_go rfl ?_ | refine rg_end rfl ?_ | refine flat_ownX ?_ | (with_reducible refine br_b ?_ ?_ <;> intro hsp))) <;> (try (conv => whnf)))
      exact end_pool (wk_ptr rfl (show 0 < 3 by decide)) rfl rfl rfl
theorem cx_fresh {n m nx : Nat} {l : List (Nat × AObj)} {K : AV → Hp → Prop} (h1 : 1 ≤ n) (h2 : n ≤ 2000) (h3 : 1 ≤ m) (h4 : m ≤ 64) (hk : K (.ptr nx 0) ⟨[(nx, .cells [.sl (nx + 1) 0 n n 4, .sl (nx + 2) 0 m m 3, .int .i64 0]), (nx + 1, .cells (cellsB n (fun _ => 0) (S0 n m).L (S0 n m).N (S0 n m).P)), (nx + 2, .cells (endsB m (S0 n m).A (S0 n m).B (S0 n m).C))] ++ l, nx + 3⟩) :
    CallX Try.prog G0 (.fn 63 [] []) [.int .i64 (n : Nat), .int .i64 (m : Nat)] ⟨l, nx⟩ K := by
  have k0 : back [] nx 0 nx := rfl
  have k1 : back [] nx 1 (nx + 1) := rfl
  have k2 : back [] nx 2 (nx + 2) := rfl
  refine cx_loc (r' := .ptr nx 0) (l1 := [(nx, .cells [.sl (nx + 1) 0 n n 4, .sl (nx + 2) 0 m m 3, .int .i64 0]), (nx + 1, .cells (cellsB n (fun _ => 0) (S0 n m).L (S0 n m).N (S0 n m).P)), (nx + 2, .cells (endsB m (S0 n m).A (S0 n m).B (S0 n m).C))]) [] (l_fresh n m h1 h2 h3 h4) plainG rfl .nil (rnl_plain (by simp [plain_int])) (by simp) (rn_ptr k0)
    (.cons k0 ⟨rn_sl k1, rn_sl k2, rn_plain plain_int, trivial⟩ (.cons k1 (rnl_plain cells_plain) (.cons k2 (rnl_plain ends_plain) .nil))) ?_
  have e : ∀ {l : List (Nat × AObj)} {k : List (Nat × AObj) → Prop}, k l → filtK [] l k := fun {l} => by
    induction l with
    | nil => exact fun h => h
    | cons a l ih => exact fun {k} h => ih (k := fun r => k (a :: r)) h
  exact e hk
section
variable {n m : Nat} {V L N P A B C : Nat → Int} {Q : Nat → List Nat}
theorem p_edge {V : Nat → Int} {Q : Nat → List Nat} {S : PS} (h : Inv n m V Q S) (hn : n ≤ 8000) {x i : Nat} (hx : x < n) (hf : ∀ j, x ∉ Q j) (hi : i < m) (v : Int) :
    ∃ S', Inv n m (updI V x v) (updQ Q i (Q i ++ [x])) S' ∧ LocP 57 [.int .i64 (x : Nat), .int .i64 (i : Nat), .bool false] n m (poolS n m (updI V x v) S) (.tup []) (poolS n m (updI V x v) S') := by
  have hlen := h.len i
  have hen := h.st.en i hi
  have hQ : Q i = Q i ++ [] := by simp
  exact ⟨_, h.edged v hx hf hi hQ, l_edge x i false (lst (Q i)) (hd []) hx hi (.inr ⟨rfl, hen.2.1.symm, rfl⟩) (lst_lt h hQ) (.inl rfl) (by rw [hen.2.2]; omega)⟩
theorem l_load_no {a b c d : Nat} {w i : Int} (hc : PureC Try.prog G0 19 [stateG a n b c m d V L N P A B] (wrongA w i)) : PureC Try.prog G0 21 [stateG a n b c m d V L N P A B] (.tup [.nilp, .int .i64 6]) := by
  have hp : Plain (.tup [.nilp, .int .i64 6]) := plain_tup fun x hx => by
    simp only [List.mem_cons, List.not_mem_nil, or_false] at hx
    rcases hx with rfl | rfl
    · exact plain_nilp
    · exact plain_int
  have zc := PureS.mk hc
  unfold stateG intsL wrongA at zc
  refine pure_x hmix b21 plainG ⟨plain_stG, trivial⟩ hp rfl ?_
  unfold c21 stateG intsL
  ((repeat' ((try (conv => whnf)); first | (with_reducible first | refine run_cons ?_ | refine runq_cons ?_ | refine code_seq ?_ | refine code_reg ?_ | refine code_cond ?_ | refine run_nil ?_ | refine runq_nil ?_ | refine rund_op rfl ?_ | refine rund_nil ?_ | refine code_block ?_ | refine code_skip ?_ | refine code_exit ?_ | refine code_ret ?_ | refine code_range ?_ | refine rund_fast (by decide +kernel) ?_ | refine rund_slow (by decide +kernel) ?_ | refine br_tt ?_ | refine br_ff ?_ | refine br_n ?_ | refine br_and ?_ | refine br_or ?_ | refine br_t (by assumption) ?_ | refine br_f (by assumption) ?_ | refine eq_i64 (by omega) ?_ | refine el_tn ?_) | (with_reducible refine br_d ?_ ?_ <;> intro hsp <;> first | (exfalso; omega) | skip) | ((with_reducible refine ck_x ?_ ?_); focus (first | omega | rfl | assumption | decide | (simp only [List.length_map, List.length_cons, List.length_nil]; omega))) | (with_reducible first | refine eq_tn ?_ | refine eq_tn1 ?_ | refine eq_tn2 ?_ | refine eq_m1 ?_ | refine eq_m2 ?_ | refine eq_zm ?_ | refine eq_z ?_ | refine len_map ?_ | refine len_sl ?_ | refine len_nils ?_ | refine len_own' ?_ | refine len_isl ?_ | refine eq_u8 (by omega) ?_ | refine eq_u16 (by omega) ?_) | (with_reducible first | refine eq_rfl ?_ | refine ChkX.mk (by kernel_rfl) ?_ | refine code_q rfl ?_ | refine code_d (by decide +kernel) ?_ | refine end_go rfl ?_) | refine cx_pureS zc ?_ | refine len_map ?_ | refine len_isl ?_ | refine el_of rfl rfl ?_ | refine del_own ?_ | refine del_own' rfl ?_ | refine as_go rfl ?_ | refine rd_go rfl ?_ | refine rg_end rfl ?_ | refine flat_ownX ?_ | (with_reducible refine br_b ?_ ?_ <;> intro hsp))) <;> (try (conv => whnf)))
  all_goals exact end_plain rfl hp
end
end Go.Proofs.Ytnddcnnangjgeaa
