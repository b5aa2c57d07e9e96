/-
  New of the document's lists; Same.
  Closed calls: the law's examples, and what a pool that is nil answers; Same.
  LinksPlays: the walk of the law.
-/
import Derived.Test.YtkjimnhmiojcdaaAmWt
import Derived.Test.YtkjimnhmiojcdaaLn
import Derived.Test.YtkjimnhmiojcdaaAmSev
import Derived.KernelRfl
set_option linter.unusedSimpArgs false
set_option linter.unusedVariables false
namespace Go.Pol
open Go.Am
def nilB (k : Nat) : List AV := List.replicate k .nils
theorem nil_plain (k : Nat) : ∀ x ∈ nilB k, Plain x := fun x hx => by rw [(List.mem_replicate.1 hx).2]; exact plain_nils
theorem nil_snoc (k : Nat) : nilB k ++ [.nils] = nilB (k + 1) := List.replicate_succ'.symm
theorem nil_len (k : Nat) : (nilB k).length = k := List.length_replicate
def rnw (n : Nat) : Nat → List (Nat × AObj)
  | 0 => [(2, .cells [.int .i64 (n : Nat), .nils, .sl 1 0 n n 1])]
  | k + 1 => [(2, .cells [.int .i64 (n : Nat), .sl 3 0 (k + 1) (k + 1) 1, .sl 1 0 n n 1]), (3, .cells (nilB (k + 1)))]
end Go.Pol
namespace Go.Proofs.Ytkjimnhmiojcdaa
open Go Go.Am Go.Pol
theorem wkx_Lq {p : Prop} (h : p := by (refine weak_s (by exact oneOf_of rfl) (by exact subH_of rfl) (by intro hs; (repeat' ((try (conv => whnf)); first | with_reducible exact True.intro | with_reducible refine And.intro ?_ ?_ | (with_reducible refine WkX.mk ?_; first | exact wk_undef | exact wk_int (by first | rfl | omega | (dsimp only; omega)) | exact wk_bool rfl | exact wk_ptr rfl (by first | decide | simp | omega) | exact wk_sl rfl (by first | decide | simp | omega) (by first | rfl | omega | simp) (by first | omega | simp) (by first | omega | simp) | exact wk_own rfl (by first | decide | simp | omega) | exact wk_nil0 (by first | rfl | simp) | exact wk_slown rfl (by first | decide | omega | (simp; done)) (by first | omega | (simp; done)) (by first | rfl | omega | (simp; done) | (simp; omega)) | exact wk_plain hs (by (first | assumption | exact plain_int | exact plain_bool | exact plain_undef | exact plain_nils | exact plain_nilp | exact plain_nilf | exact plain_str | with_reducible apply slots_plain)) | (with_reducible refine wk_fn ?_ ?_ <;> repeat' (first | with_reducible exact wkl_nil | with_reducible refine wkl_cons ?_ ?_ | exact wk_ptr rfl (by first | decide | simp | omega))) | (with_reducible refine wk_agg ?_; repeat' (first | with_reducible exact wkl_nil | with_reducible refine wkl_cons ?_ ?_ | exact wk_int (by first | rfl | omega | (dsimp only; omega)) | exact wk_bool rfl)) | exact wk_yld rfl (by first | decide | simp | omega))))) (by intro hs; (try dsimp only); (repeat' (first | with_reducible exact wko_nil | refine wko_plain hs (by first | decide | omega | simp) rfl (by first | rfl | exact nil_snoc _) (by (first | with_reducible assumption | with_reducible apply cells_plain | with_reducible apply ends_plain | with_reducible apply of_plain _ _ | with_reducible apply memI_plain _ _ | with_reducible apply nil_plain _ | with_reducible apply plain_map (fun _ => plain_int) | with_reducible apply plain_map (fun _ => plain_bool) | ((repeat' (first | exact plain_all0 | refine plain_all2 ?_ ?_ | exact plain_int | first | assumption | exact plain_int | exact plain_bool | exact plain_undef | exact plain_nils | exact plain_nilp | exact plain_nilf | exact plain_str | with_reducible apply slots_plain)); done) | ((refine plain_app ?_ ?_) <;> (first | with_reducible assumption | with_reducible apply cells_plain | with_reducible apply ends_plain | with_reducible apply of_plain _ _ | with_reducible apply memI_plain _ _ | with_reducible apply nil_plain _ | with_reducible apply plain_map (fun _ => plain_int) | with_reducible apply plain_map (fun _ => plain_bool) | ((repeat' (first | exact plain_all0 | refine plain_all2 ?_ ?_ | exact plain_int | first | assumption | exact plain_int | exact plain_bool | exact plain_undef | exact plain_nils | exact plain_nilp | exact plain_nilf | exact plain_str | with_reducible apply slots_plain)); done))))) ?_ | refine wko_cells (by first | decide | omega | simp) rfl (by repeat' (first | with_reducible exact wkl_nil | with_reducible refine wkl_cons ?_ ?_ | (first | exact wk_undef | exact wk_int (by first | rfl | omega | (dsimp only; omega)) | exact wk_bool rfl | exact wk_ptr rfl (by first | decide | simp | omega) | exact wk_sl rfl (by first | decide | simp | omega) (by first | rfl | omega | simp) (by first | omega | simp) (by first | omega | simp) | exact wk_own rfl (by first | decide | simp | omega) | exact wk_nil0 (by first | rfl | simp) | exact wk_slown rfl (by first | decide | omega | (simp; done)) (by first | omega | (simp; done)) (by first | rfl | omega | (simp; done) | (simp; omega)) | exact wk_plain hs (by (first | assumption | exact plain_int | exact plain_bool | exact plain_undef | exact plain_nils | exact plain_nilp | exact plain_nilf | exact plain_str | with_reducible apply slots_plain)) | (with_reducible refine wk_fn ?_ ?_ <;> repeat' (first | with_reducible exact wkl_nil | with_reducible refine wkl_cons ?_ ?_ | exact wk_ptr rfl (by first | decide | simp | omega))) | (with_reducible refine wk_agg ?_; repeat' (first | with_reducible exact wkl_nil | with_reducible refine wkl_cons ?_ ?_ | exact wk_int (by first | rfl | omega | (dsimp only; omega)) | exact wk_bool rfl)) | exact wk_yld rfl (by first | decide | simp | omega)))) ?_ | refine wko_loop (by first | decide | omega | simp) rfl (by ((try subst hF); (try subst hF2); exact wkl_sd (wkf_sget (by (repeat' ((try (conv => whnf)); first | with_reducible exact True.intro | with_reducible refine And.intro ?_ ?_ | (with_reducible refine WkX.mk ?_; first | exact wk_undef | exact wk_int (by first | rfl | omega | (dsimp only; omega)) | exact wk_bool rfl | exact wk_ptr rfl (by first | decide | simp | omega) | exact wk_sl rfl (by first | decide | simp | omega) (by first | rfl | omega | simp) (by first | omega | simp) (by first | omega | simp) | exact wk_own rfl (by first | decide | simp | omega) | exact wk_nil0 (by first | rfl | simp) | exact wk_slown rfl (by first | decide | omega | (simp; done)) (by first | omega | (simp; done)) (by first | rfl | omega | (simp; done) | (simp; omega)) | exact wk_plain hs (by (first | assumption | exact plain_int | exact plain_bool | exact plain_undef | exact plain_nils | exact plain_nilp | exact plain_nilf | exact plain_str | with_reducible apply slots_plain)) | (with_reducible refine wk_fn ?_ ?_ <;> repeat' (first | with_reducible exact wkl_nil | with_reducible refine wkl_cons ?_ ?_ | exact wk_ptr rfl (by first | decide | simp | omega))) | (with_reducible refine wk_agg ?_; repeat' (first | with_reducible exact wkl_nil | with_reducible refine wkl_cons ?_ ?_ | exact wk_int (by first | rfl | omega | (dsimp only; omega)) | exact wk_bool rfl)) | exact wk_yld rfl (by first | decide | simp | omega)))))))) ?_ | exact wko_nil))))) : p := h
theorem wx_Lq {p q : Prop} (hq : q) (h : HidP q → p := by (intro hQz; ((repeat' ((try (conv => whnf)); first | (with_reducible first | refine run_cons ?_ | refine runq_cons ?_ | refine code_seq ?_ | refine code_reg ?_ | refine code_cond ?_ | refine run_nil ?_ | refine runq_nil ?_ | refine rund_op rfl ?_ | refine rund_nil ?_ | refine code_block ?_ | refine code_skip ?_ | refine code_exit ?_ | refine code_ret ?_ | refine code_range ?_ | refine rund_fast (by decide +kernel) ?_ | refine rund_slow (by decide +kernel) ?_ | refine br_tt ?_ | refine br_ff ?_ | refine br_n ?_ | refine br_and ?_ | refine br_or ?_ | refine br_t (by assumption) ?_ | refine br_f (by assumption) ?_ | refine eq_i64 (by omega) ?_ | refine el_tn ?_) | ((with_reducible refine br_dt ?_ ?_); focus omega) | ((with_reducible refine br_df ?_ ?_); focus omega) | ((with_reducible apply br_dq hQz) <;> (try intro hsp hQz)) | ((with_reducible refine ck_x ?_ ?_); focus (first | omega | rfl | assumption | decide | (simp only [List.length_map, List.length_cons, List.length_nil]; omega) | exact (ints_make n) | exact (show ((n : Nat) : Int).toNat = n from rfl))) | refine eq_of ((ints_make n)) ?_ | refine eq_of ((show ((n : Nat) : Int).toNat = n from rfl)) ?_ | (with_reducible first | refine eq_tn ?_ | refine eq_tn1 ?_ | refine eq_tn2 ?_ | refine eq_m1 ?_ | refine eq_m2 ?_ | refine eq_zm ?_ | refine eq_z ?_ | refine len_map ?_ | refine len_sl ?_ | refine len_nils ?_ | refine len_own' ?_ | refine len_isl ?_ | refine eq_u8 (by omega) ?_ | refine eq_u16 (by omega) ?_) | refine apps_some (appV_nil (src_of rfl rfl) (by decide) (by decide)) ?_ | refine apps_some (appV_sl (src_of rfl rfl) rfl (by rw [nil_len, Nat.mul_one]) (by decide) ⟨by omega, by omega⟩) ?_ | refine el_map 0 (fun _ => rfl) hkl ?_ | (with_reducible first | refine eq_rfl ?_ | refine ChkX.mk (by kernel_rfl) ?_ | refine code_q rfl ?_ | refine code_d (by decide +kernel) ?_ | refine end_go rfl ?_) | refine len_map ?_ | refine len_isl ?_ | refine el_of rfl rfl ?_ | refine del_own ?_ | refine del_own' rfl ?_ | refine as_go rfl ?_ | refine rd_go rfl ?_ | refine rg_end rfl ?_ | refine flat_ownX ?_ | refine EqLX.mk ?_ | ((with_reducible apply br_bq hQz) <;> (try intro hsp hQz)) | exact hQz.out)) <;> (try (conv => whnf))))) : p := h ⟨hq⟩
theorem r_new (n m : Nat) (h1 : 1 ≤ n) (h2 : n ≤ 2000) (h3 : 1 ≤ m) (h4 : m ≤ 64) :
    LocC Try.prog G0 27 [.int .i64 (n : Nat), .int .i64 (m : Nat)] [] 0 fun x h => x = .tup [.agg [.int .i64 (n : Nat), .sl 0 0 m m 1, .sl 1 0 n n 1], .int .i64 0] ∧ h = ⟨[(0, .cells (ofB m fun _ => [])), (1, .cells (memI n fun _ => 0))], 2⟩ := by
  refine loc_x hmix b27 rfl ?_
  unfold c27
  (refine wx_Lq ?_; repeat' (first | with_reducible refine And.intro ?_ ?_ | intro hsp))
  (refine loop_x [1] (fun (k : Nat) => [(4, .ptr 0 0), (6, .ptr 2 0), (7, .int .i64 (k : Nat))]) (fun (k : Nat) => ⟨[(0, .cells [.int .i64 0, .nils, .nils]), (1, .cells (memI n fun _ => 0))] ++ rnw n k, 4⟩) (fun (k : Nat) => k ≤ m) (fun (k : Nat) => m - k) (0) [] rfl (fun _ => by first | exact Nat.zero_le _ | (dsimp only; omega)) ?_ (by ((try (conv => whnf)); exact wkx_Lq)) ?_)
  · exact Nat.zero_le _
  intro k hk
  by_cases hkm : k < m
  · cases k with
    | zero =>
      (refine wx_Lq ?_; repeat' (first | with_reducible refine And.intro ?_ ?_ | intro hsp))
      exact next_x 1 [(3, 5)] (by (try dsimp only); omega) (by first | omega | (dsimp only; omega)) rfl (by exact wkx_Lq)
    | succ k =>
      (refine wx_Lq ?_; repeat' (first | with_reducible refine And.intro ?_ ?_ | intro hsp))
      exact next_x (k + 2) [(3, 5)] (by (try dsimp only); omega) (by first | omega | (dsimp only; omega)) rfl (by exact wkx_Lq)
  · obtain rfl : k = m := by omega
    obtain ⟨k, rfl⟩ : ∃ k', k = k' + 1 := ⟨k - 1, by omega⟩
    (refine wx_Lq ?_; repeat' (first | with_reducible refine And.intro ?_ ?_ | intro hsp))
    have hs : SubH (rn [(0, 3), (1, 1)]) ⟨[(0, .cells [.int .i64 (n : Nat), .sl 3 0 (k + 1) (k + 1) 1, .sl 1 0 n n 1]), (1, .cells (memI n fun _ => 0)), (2, .cells [.int .i64 (n : Nat), .sl 3 0 (k + 1) (k + 1) 1, .sl 1 0 n n 1]), (3, .cells (nilB (k + 1)))], 4⟩ ⟨[(0, .cells (ofB (k + 1) fun _ => [])), (1, .cells (memI n fun _ => 0))], 2⟩ := subH_of rfl
    have hw : WkL Try.prog (rn [(0, 3), (1, 1)]) ⟨[(0, .cells [.int .i64 (n : Nat), .sl 3 0 (k + 1) (k + 1) 1, .sl 1 0 n n 1]), (1, .cells (memI n fun _ => 0)), (2, .cells [.int .i64 (n : Nat), .sl 3 0 (k + 1) (k + 1) 1, .sl 1 0 n n 1]), (3, .cells (nilB (k + 1)))], 4⟩ ⟨[(0, .cells (ofB (k + 1) fun _ => [])), (1, .cells (memI n fun _ => 0))], 2⟩ (nilB (k + 1)) (ofB (k + 1) fun _ => []) := wkl_get (by rw [nil_len, of_len]) fun j x y hx hy => by
      have hj : j < k + 1 := by have := (List.getElem?_eq_some_iff.1 hx).1; rwa [nil_len] at this
      rw [of_get hj] at hy; cases hy
      obtain rfl : x = .nils := (List.mem_replicate.1 (List.mem_of_getElem? hx)).2
      exact wk_nils
    exact end_loc [(0, 3), (1, 1)] rfl (Nat.zero_le 2) (oneOf_of rfl) (wk_tup (wkl_cons (wk_agg (wkl_cons (wk_int rfl) (wkl_cons (wk_sl (i := 0) rfl (show 0 < 2 by decide) rfl (Nat.le_refl _) (Nat.le_refl _)) (wkl_cons (wk_sl (i := 1) rfl (show 1 < 2 by decide) rfl (Nat.le_refl _) (Nat.le_refl _)) wkl_nil)))) (wkl_cons (wk_int rfl) wkl_nil)))
      (wko_cells (show 0 < 2 by decide) rfl hw (wko_plain hs (show 1 < 2 by decide) rfl rfl (memI_plain _ _) wko_nil)) ⟨rfl, rfl⟩
theorem k_sameInts (l : List Int) (hl : l.length ≤ 100000) : PureC Try.prog G0 22 [.isl (l.map fun x => [.int .i64 x]), .isl (l.map fun x => [.int .i64 x])] (.bool true) := by
  have hp : Plain (.isl (l.map fun x => [AV.int .i64 x])) := plain_isl fun e he => by
    obtain ⟨i, _, rfl⟩ := List.mem_map.1 he
    exact fun x hx => by obtain rfl := List.mem_singleton.1 hx; exact plain_int
  refine pure_x hmix b22 plainG ⟨hp, hp, trivial⟩ plain_bool rfl ?_
  unfold c22
  (refine wx_Lq ?_; repeat' (first | with_reducible refine And.intro ?_ ?_ | intro hsp))
  (refine loop_x [0, 1] (fun (k : Nat) => [(5, .int .i64 (k : Nat))]) (fun (k : Nat) => ⟨[], 0⟩) (fun (k : Nat) => k ≤ l.length) (fun (k : Nat) => l.length - k) (0) [] rfl (fun _ => by first | exact Nat.zero_le _ | (dsimp only; omega)) ?_ (by ((try (conv => whnf)); exact wkx_Lq)) ?_)
  · exact Nat.zero_le _
  intro k hk
  by_cases hkl : k < l.length
  · (refine wx_Lq ?_; repeat' (first | with_reducible refine And.intro ?_ ?_ | intro hsp))
    exact next_x (k + 1) [] (by (try dsimp only); omega) (by first | omega | (dsimp only; omega)) rfl (by exact wkx_Lq)
  · (refine wx_Lq ?_; repeat' (first | with_reducible refine And.intro ?_ ?_ | intro hsp))
    exact end_bool rfl
end Go.Proofs.Ytkjimnhmiojcdaa
namespace Go.Am
end Go.Am
namespace Go.Proofs.Ytkjimnhmiojcdaa
open Go Go.Am Go.Pol
theorem awake_run : isTrue (callE tab G0 (99 + 1) (.fn 4 [] []) [] ⟨[], 0⟩) = true := by kernel_rfl
theorem k_awake : PureC Try.prog G0 4 [] (.bool true) := closed_true hmix tab_ok orcOk_none plainG rfl awake_run
theorem plain_intsL {n : Nat} {F : Nat → Int} : Plain (intsL n F) := plain_isl fun e he => by
  obtain ⟨i, _, rfl⟩ := List.mem_map.1 he
  exact fun x hx => by obtain rfl := List.mem_singleton.1 hx; exact plain_int
theorem plain_stateLk {n m : Nat} {V L N P A B : Nat → Int} : Plain (stateLk n m V L N P A B) := plain_agg fun x hx => by
  simp only [List.mem_cons, List.not_mem_nil, or_false] at hx
  rcases hx with rfl | rfl | rfl | rfl | rfl | rfl <;> exact plain_intsL
theorem k_sameL (n : Nat) (F : Nat → Int) (hn : n ≤ 8000) : PureC Try.prog G0 22 [intsL n F, intsL n F] (.bool true) := by
  have h := k_sameInts ((List.range n).map F) (by simp; omega)
  rw [List.map_map] at h
  exact h
theorem wx_Lr {p q : Prop} (hq : q) (h : HidP q → p := by (intro hQz; ((repeat' ((try (conv => whnf)); first | (with_reducible first | refine run_cons ?_ | refine runq_cons ?_ | refine code_seq ?_ | refine code_reg ?_ | refine code_cond ?_ | refine run_nil ?_ | refine runq_nil ?_ | refine rund_op rfl ?_ | refine rund_nil ?_ | refine code_block ?_ | refine code_skip ?_ | refine code_exit ?_ | refine code_ret ?_ | refine code_range ?_ | refine rund_fast (by decide +kernel) ?_ | refine rund_slow (by decide +kernel) ?_ | refine br_tt ?_ | refine br_ff ?_ | refine br_n ?_ | refine br_and ?_ | refine br_or ?_ | refine br_t (by assumption) ?_ | refine br_f (by assumption) ?_ | refine eq_i64 (by omega) ?_ | refine el_tn ?_) | ((with_reducible refine br_dt ?_ ?_); focus omega) | ((with_reducible refine br_df ?_ ?_); focus omega) | ((with_reducible apply br_dq hQz) <;> (try intro hsp hQz)) | ((with_reducible refine ck_x ?_ ?_); focus (first | omega | rfl | assumption | decide | (simp only [List.length_map, List.length_cons, List.length_nil]; omega))) | (with_reducible first | refine eq_tn ?_ | refine eq_tn1 ?_ | refine eq_tn2 ?_ | refine eq_m1 ?_ | refine eq_m2 ?_ | refine eq_zm ?_ | refine eq_z ?_ | refine len_map ?_ | refine len_sl ?_ | refine len_nils ?_ | refine len_own' ?_ | refine len_isl ?_ | refine eq_u8 (by omega) ?_ | refine eq_u16 (by omega) ?_) | (with_reducible first | refine eq_rfl ?_ | refine ChkX.mk (by kernel_rfl) ?_ | refine code_q rfl ?_ | refine code_d (by decide +kernel) ?_ | refine end_go rfl ?_) | refine cx_pure (h1) ?_ | refine qcx (h1) ?_ | refine dcx_pure (h1) ?_ | refine cx_pure (h2) ?_ | refine qcx (h2) ?_ | refine dcx_pure (h2) ?_ | refine cx_pure (h3) ?_ | refine qcx (h3) ?_ | refine dcx_pure (h3) ?_ | refine cx_pure (h4) ?_ | refine qcx (h4) ?_ | refine dcx_pure (h4) ?_ | refine cx_pure (h5) ?_ | refine qcx (h5) ?_ | refine dcx_pure (h5) ?_ | refine cx_pure (h6) ?_ | refine qcx (h6) ?_ | refine dcx_pure (h6) ?_ | refine len_map ?_ | refine len_isl ?_ | refine el_of rfl rfl ?_ | refine del_own ?_ | refine del_own' rfl ?_ | refine as_go rfl ?_ | refine rd_go rfl ?_ | refine rg_end rfl ?_ | refine flat_ownX ?_ | refine EqLX.mk ?_ | ((with_reducible apply br_bq hQz) <;> (try intro hsp hQz)) | exact hQz.out)) <;> (try (conv => whnf))))) : p := h ⟨hq⟩
theorem k_same (n m : Nat) (V L N P A B : Nat → Int) (hn : n ≤ 8000) (hm : m ≤ 64) : PureC Try.prog G0 21 [stateLk n m V L N P A B, stateLk n m V L N P A B] (.bool true) := by
  have h1 := k_sameL n V hn
  have h2 := k_sameL n L hn
  have h3 := k_sameL n N hn
  have h4 := k_sameL n P hn
  have h5 := k_sameL m A (by omega)
  have h6 := k_sameL m B (by omega)
  refine pure_x hmix b21 plainG ⟨plain_stateLk, plain_stateLk, trivial⟩ plain_bool rfl ?_
  unfold c21 stateLk
  (refine wx_Lr ?_; repeat' (first | with_reducible refine And.intro ?_ ?_ | intro hsp))
  all_goals exact end_bool rfl
end Go.Proofs.Ytkjimnhmiojcdaa
namespace Go.Pol
open Go.Am
def callsA (l : List Cl) : AV := .isl (l.map callA)
theorem call_len (x : Cl) : (callA x).length = 5 := rfl
theorem plain_callL (x : Cl) : ∀ y ∈ callA x, Plain y := fun y hy => by
  simp only [callA, List.mem_cons, List.not_mem_nil, or_false] at hy
  rcases hy with rfl | rfl | rfl | rfl | rfl <;> first | exact plain_int | exact plain_bool
theorem plain_calls {l : List Cl} : Plain (callsA l) := plain_isl fun e he => by
  obtain ⟨x, _, rfl⟩ := List.mem_map.1 he; exact plain_callL x
theorem plain_callA (x : Cl) : Plain (.agg (callA x)) := plain_agg (plain_callL x)
end Go.Pol
namespace Go.Proofs.Ytkjimnhmiojcdaa
open Go Go.Am Go.Pol
theorem plain_callI {l : List Cl} : Plain (.isl (l.map callA)) := plain_calls
section
variable {n m : Nat} {V : Nat → Int} {Q : Nat → List Nat} {S : PS}
/-- A call on both, in another store. -/
theorem cx_both {f : Nat} {args : List AV} {r : AV} {V' : Nat → Int} {Q' : Nat → List Nat} {S' : PS} {nx : Nat} {l : List (Nat × AObj)} {K : AV → Hp → Prop} (hc : LocC Try.prog G0 f args (bothB n m V Q S) 6 fun x h1 => x = r ∧ h1 = ⟨bothB n m V' Q' S', 6⟩)
    (h0 : lk l 0 = some (.cells [.sl 1 0 n n 4, .sl 2 0 m m 3, .int .i64 (S.fr : Nat)])) (h1 : lk l 1 = some (.cells (cellsB n V S.L S.N S.P))) (h2 : lk l 2 = some (.cells (endsB m S.A S.B S.C)))
    (h3 : lk l 3 = some (.cells [.int .i64 (n : Nat), .sl 4 0 m m 1, .sl 5 0 n n 1])) (h4 : lk l 4 = some (.cells (ofB m Q))) (h5 : lk l 5 = some (.cells (memI n V))) (hnx : 6 ≤ nx) (ha : RnL (enter [0, 1, 2, 3, 4, 5]) args args) (hr : Plain r)
    (hk : filtK [0, 1, 2, 3, 4, 5] l fun l2 => K r ⟨bothB n m V' Q' S' ++ l2, nx⟩) : CallX Try.prog G0 (.fn f [] []) args ⟨l, nx⟩ K := by
  have e0 : enter [0, 1, 2, 3, 4, 5] 0 0 := rfl
  have e1 : enter [0, 1, 2, 3, 4, 5] 1 1 := rfl
  have e2 : enter [0, 1, 2, 3, 4, 5] 2 2 := rfl
  have e3 : enter [0, 1, 2, 3, 4, 5] 3 3 := rfl
  have e4 : enter [0, 1, 2, 3, 4, 5] 4 4 := rfl
  have e5 : enter [0, 1, 2, 3, 4, 5] 5 5 := rfl
  have k0 : back [0, 1, 2, 3, 4, 5] nx 0 0 := rfl
  have k1 : back [0, 1, 2, 3, 4, 5] nx 1 1 := rfl
  have k2 : back [0, 1, 2, 3, 4, 5] nx 2 2 := rfl
  have k3 : back [0, 1, 2, 3, 4, 5] nx 3 3 := rfl
  have k4 : back [0, 1, 2, 3, 4, 5] nx 4 4 := rfl
  have k5 : back [0, 1, 2, 3, 4, 5] nx 5 5 := rfl
  refine cx_loc (l1 := bothB n m V' Q' S') [0, 1, 2, 3, 4, 5] hc plainG rfl
    (.cons e0 h0 ⟨rn_sl e1, rn_sl e2, rn_plain plain_int, trivial⟩ (.cons e1 h1 (rnl_plain cells_plain) (.cons e2 h2 (rnl_plain ends_plain) (.cons e3 h3 ⟨rn_plain plain_int, rn_sl e4, rn_sl e5, trivial⟩ (.cons e4 h4 (rnl_plain (of_plain _ _)) (.cons e5 h5 (rnl_plain (memI_plain _ _)) .nil))))))
    (by simpa using ha) (by intro x hx; simp only [List.mem_cons, List.not_mem_nil, or_false] at hx; omega) (rn_plain hr)
    (.cons k0 ⟨rn_sl k1, rn_sl k2, rn_plain plain_int, trivial⟩ (.cons k1 (rnl_plain cells_plain) (.cons k2 (rnl_plain ends_plain) (.cons k3 ⟨rn_plain plain_int, rn_sl k4, rn_sl k5, trivial⟩ (.cons k4 (rnl_plain (of_plain _ _)) (.cons k5 (rnl_plain (memI_plain _ _)) .nil)))))) hk
end
/-- A contract of a pure call, as a thing of its own. -/
structure PureS (f : Nat) (args : List AV) (r : AV) : Prop where
  out : PureC Try.prog G0 f args r
theorem cx_pureS {g : Nat} {avs : List AV} {r : AV} {h : Hp} {K : AV → Hp → Prop} (hp : PureS g avs r) (hk : K r h) : CallX Try.prog G0 (.fn g [] []) avs h K := cx_pure (by simpa using hp.out) hk
theorem cx_new {n m nx : Nat} {l : List (Nat × AObj)} {K : AV → Hp → Prop} (h1 : 1 ≤ n) (h2 : n ≤ 2000) (h3 : 1 ≤ m) (h4 : m ≤ 64) (hk : K (.tup [.ptr nx 0, .int .i64 0]) ⟨[(nx, .cells [.sl (nx + 1) 0 n n 4, .sl (nx + 2) 0 m m 3, .int .i64 0]), (nx + 1, .cells (cellsB n (fun _ => 0) (S0 n m).L (S0 n m).N (S0 n m).P)), (nx + 2, .cells (endsB m (S0 n m).A (S0 n m).B (S0 n m).C))] ++ l, nx + 3⟩) :
    CallX Try.prog G0 (.fn 26 [] []) [.int .i64 (n : Nat), .int .i64 (m : Nat)] ⟨l, nx⟩ K := by
  have k0 : back [] nx 0 nx := rfl
  have k1 : back [] nx 1 (nx + 1) := rfl
  have k2 : back [] nx 2 (nx + 2) := rfl
  refine cx_loc (r' := .tup [.ptr nx 0, .int .i64 0]) (l1 := [(nx, .cells [.sl (nx + 1) 0 n n 4, .sl (nx + 2) 0 m m 3, .int .i64 0]), (nx + 1, .cells (cellsB n (fun _ => 0) (S0 n m).L (S0 n m).N (S0 n m).P)), (nx + 2, .cells (endsB m (S0 n m).A (S0 n m).B (S0 n m).C))]) [] (l_new n m h1 h2 h3 h4) plainG rfl .nil (rnl_plain (by simp [plain_int])) (by simp) (rn_tup ⟨rn_ptr k0, rn_plain plain_int, trivial⟩)
    (.cons k0 ⟨rn_sl k1, rn_sl k2, rn_plain plain_int, trivial⟩ (.cons k1 (rnl_plain cells_plain) (.cons k2 (rnl_plain ends_plain) .nil))) ?_
  have e : ∀ {l : List (Nat × AObj)} {k : List (Nat × AObj) → Prop}, k l → filtK [] l k := fun {l} => by
    induction l with
    | nil => exact fun h => h
    | cons a l ih => exact fun {k} h => ih (k := fun r => k (a :: r)) h
  exact e hk
theorem cx_rnew {n m nx : Nat} {l : List (Nat × AObj)} {K : AV → Hp → Prop} (h1 : 1 ≤ n) (h2 : n ≤ 2000) (h3 : 1 ≤ m) (h4 : m ≤ 64) (hk : K (.tup [.agg [.int .i64 (n : Nat), .sl nx 0 m m 1, .sl (nx + 1) 0 n n 1], .int .i64 0]) ⟨[(nx, .cells (ofB m fun _ => [])), (nx + 1, .cells (memI n fun _ => 0))] ++ l, nx + 2⟩) :
    CallX Try.prog G0 (.fn 27 [] []) [.int .i64 (n : Nat), .int .i64 (m : Nat)] ⟨l, nx⟩ K := by
  have k0 : back [] nx 0 nx := rfl
  have k1 : back [] nx 1 (nx + 1) := rfl
  refine cx_loc (r' := .tup [.agg [.int .i64 (n : Nat), .sl nx 0 m m 1, .sl (nx + 1) 0 n n 1], .int .i64 0]) (l1 := [(nx, .cells (ofB m fun _ => [])), (nx + 1, .cells (memI n fun _ => 0))]) [] (r_new n m h1 h2 h3 h4) plainG rfl .nil (rnl_plain (by simp [plain_int])) (by simp) (rn_tup ⟨rn_agg ⟨rn_plain plain_int, rn_sl k0, rn_sl k1, trivial⟩, rn_plain plain_int, trivial⟩)
    (.cons k0 (rnl_plain (of_plain _ _)) (.cons k1 (rnl_plain (memI_plain _ _)) .nil)) ?_
  have e : ∀ {l : List (Nat × AObj)} {k : List (Nat × AObj) → Prop}, k l → filtK [] l k := fun {l} => by
    induction l with
    | nil => exact fun h => h
    | cons a l ih => exact fun {k} h => ih (k := fun r => k (a :: r)) h
  exact e hk
end Go.Proofs.Ytkjimnhmiojcdaa
