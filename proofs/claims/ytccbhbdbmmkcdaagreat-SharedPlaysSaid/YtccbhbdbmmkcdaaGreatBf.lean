/-
 The document's answer: find, count, view, Find, Count, Where.
-/
import Derived.Test.YtccbhbdbmmkcdaaGreatBa
set_option linter.unusedSimpArgs false
set_option linter.unusedVariables false
namespace Go.Proofs.YtccbhbdbmmkcdaaGreat.Sh
open Go Go.Am Go.Pol
theorem plx_Bf {p : Prop} (h : p := by ((first | assumption | exact plain_int | exact plain_bool | exact plain_undef | exact plain_nils | exact plain_nilp | exact plain_nilf | exact plain_str | with_reducible apply plain_int | with_reducible apply plain_bool | with_reducible apply plain_vwC | with_reducible apply plain_vwE | with_reducible apply plain_vs | with_reducible apply plain_vsA | with_reducible apply plain_t2 | fail); first | done | fail)) : p := h
theorem prx_Bf {p : Prop} (h : p := by (((repeat' (first | exact plain_all0 | refine plain_all2 ?_ ?_ | exact plain_int | first | assumption | exact plain_int | exact plain_bool | exact plain_undef | exact plain_nils | exact plain_nilp | exact plain_nilf | exact plain_str | with_reducible apply plain_int | with_reducible apply plain_bool | with_reducible apply plain_vwC | with_reducible apply plain_vwE | with_reducible apply plain_vs | with_reducible apply plain_vsA | with_reducible apply plain_t2))); first | done | fail)) : p := h
theorem ppx_Bf {p : Prop} (h : p := by ((first | with_reducible assumption | with_reducible apply vw_plain | with_reducible apply plain_flat vw_plain' | with_reducible apply plain_map (fun _ => plain_int) | with_reducible apply plain_map (fun _ => plain_bool) | exact prx_Bf | fail); first | done | fail)) : p := h
theorem wvx_Bf {p : Prop} (h : p := by ((first | exact wk_undef | exact wk_int (by first | rfl | omega | (dsimp only; omega)) | exact wk_bool rfl | exact wk_ptr rfl (by first | decide | simp | omega) | exact wk_sl rfl (by first | decide | simp | omega) (by first | rfl | omega | simp) (by first | omega | simp) (by first | omega | simp) | exact wk_own rfl (by first | decide | simp | omega) | exact wk_nil0 (by first | rfl | simp) | exact wk_slown rfl (by first | decide | omega | (simp; done)) (by first | omega | (simp; done)) (by first | rfl | omega | (simp; done) | (simp; omega)) | exact wk_plain hs plx_Bf | (with_reducible refine wk_fn ?_ ?_ <;> repeat' (first | with_reducible exact wkl_nil | with_reducible refine wkl_cons ?_ ?_ | exact wk_ptr rfl (by first | decide | simp | omega))) | (with_reducible refine wk_agg ?_; repeat' (first | with_reducible exact wkl_nil | with_reducible refine wkl_cons ?_ ?_ | exact wk_int (by first | rfl | omega | (dsimp only; omega)) | exact wk_bool rfl)) | exact wk_yld rfl (by first | decide | simp | omega) | fail); first | done | fail)) : p := h
theorem wkx_Bf {p : Prop} (h : p := by (refine weak_s (by exact oneOf_of rfl) (by exact subH_of rfl) (by intro hs; (repeat' ((try (conv => whnf)); first | with_reducible exact True.intro | with_reducible refine And.intro ?_ ?_ | (with_reducible refine WkX.mk ?_; first | exact wvx_Bf | fail)))) (by intro hs; (try dsimp only); (repeat' (first | with_reducible exact wko_nil | refine wko_plain hs (by first | decide | omega | simp) rfl (by first | rfl) (by (first | exact ppx_Bf | fail | ((refine plain_app ?_ ?_) <;> (first | exact ppx_Bf | fail)))) ?_ | refine wko_cells (by first | decide | omega | simp) rfl (by repeat' (first | with_reducible exact wkl_nil | with_reducible refine wkl_cons ?_ ?_ | (first | exact wvx_Bf | fail))) ?_ | refine wko_loop (by first | decide | omega | simp) rfl (by ((try subst hF); (try subst hF2); exact wkl_sd (wkf_sget (by (repeat' ((try (conv => whnf)); first | with_reducible exact True.intro | with_reducible refine And.intro ?_ ?_ | (with_reducible refine WkX.mk ?_; first | exact wvx_Bf | fail))))))) ?_ | exact wko_nil))))) : p := h
theorem wx_Bf {p q : Prop} (hq : q) (h : HidP q → p := by (intro hQz; ((repeat' ((try (conv => whnf)); first | (with_reducible first | refine run_cons ?_ | refine runq_cons ?_ | refine code_seq ?_ | refine code_reg ?_ | refine code_cond ?_ | refine run_nil ?_ | refine runq_nil ?_ | refine rund_op rfl ?_ | refine rund_nil ?_ | refine code_block ?_ | refine code_skip ?_ | refine code_exit ?_ | refine code_ret ?_ | refine code_range ?_ | refine rund_fast (by decide +kernel) ?_ | refine rund_slow (by decide +kernel) ?_ | refine br_tt ?_ | refine br_ff ?_ | refine br_n ?_ | refine br_and ?_ | refine br_or ?_ | refine br_t (by assumption) ?_ | refine br_f (by assumption) ?_ | refine eq_i64 (by omega) ?_ | refine el_tn ?_) | ((with_reducible refine br_dt ?_ ?_); focus omega) | ((with_reducible refine br_df ?_ ?_); focus omega) | ((with_reducible apply br_dq hQz) <;> (try intro hsp hQz)) | ((with_reducible refine ck_x ?_ ?_); focus (first | omega | rfl | assumption | decide | (simp only [List.length_map, List.length_cons, List.length_nil]; omega))) | (with_reducible first | refine eq_tn ?_ | refine eq_tn1 ?_ | refine eq_tn2 ?_ | refine eq_m1 ?_ | refine eq_m2 ?_ | refine eq_zm ?_ | refine eq_z ?_ | refine len_map ?_ | refine len_sl ?_ | refine len_nils ?_ | refine len_own' ?_ | refine len_isl ?_ | refine eq_u8 (by omega) ?_ | refine eq_u16 (by omega) ?_) | refine el_mapE (d := dV) vw_len (by first | assumption | omega) (by with_reducible assumption) ?_ | refine eq_of (by with_reducible assumption) ?_ | (with_reducible first | refine eq_rfl ?_ | refine ChkX.mk (by kernel_rfl) ?_ | refine code_q rfl ?_ | refine code_d (by decide +kernel) ?_ | refine end_go rfl ?_) | refine cx_pureS (by assumption) ?_ | refine dcx_pureS (by assumption) ?_ | (refine cx_in hmix b69 rfl ?_; unfold c69) | (refine cx_in hmix b67 rfl ?_; unfold c67) | refine qcx_pureS (by assumption) ?_ | refine len_map ?_ | refine len_isl ?_ | refine el_of rfl rfl ?_ | refine del_own ?_ | refine del_own' rfl ?_ | refine as_go rfl ?_ | refine rd_go rfl ?_ | refine rg_end rfl ?_ | refine flat_ownX ?_ | refine EqLX.mk ?_ | ((with_reducible apply br_bq hQz) <;> (try intro hsp hQz)) | exact hQz.out)) <;> (try (conv => whnf))))) : p := h ⟨hq⟩
theorem nth_mid {A B : List Vw} {v : Vw} : nth dV (A ++ v :: B) A.length = v := by
 rw [nth_get (by simp), List.getElem_append_right (by omega)]; simp
theorem nth_lo {A B : List Vw} {i : Nat} (h : i < A.length) : nth dV (A ++ B) i = nth dV A i := by
 rw [nth_get (by simp; omega), nth_get h, List.getElem_append_left h]
theorem cnt_take2 {L : List Vw} {i : Nat} (f : Int) (hi : i < L.length) : ((L.take (i + 1)).filter fun v => decide ((v.2.2.1 : Int) = f)).length = ((L.take i).filter fun v => decide ((v.2.2.1 : Int) = f)).length + if ((nth dV L i).2.2.1 : Int) = f then 1 else 0 := by
 rw [take_nth (d := dV) hi, List.filter_append, List.length_append, List.filter_cons]
 by_cases h : ((nth dV L i).2.2.1 : Int) = f <;> simp [h]
def cntI (L : List Vw) (f : Int) : Nat := (L.filter fun v => decide ((v.2.2.1 : Int) = f)).length
theorem cntI_nil (f : Int) : cntI [] f = 0 := rfl
theorem cntI_nat (L : List Vw) (f : Nat) : cntI L (f : Nat) = cntF L f := by unfold cntI cntF; congr 2; funext v; exact decide_eq_decide.2 (by omega)
theorem el_vw {L : List Vw} {i : Nat} {K : List AV → Prop} {va vk vf : Nat} {vw : Bool} (hj : i < L.length) (hx : nth dV L i = (va, vk, vf, vw)) (hk : K [.int .i64 (va : Nat), .int .i64 (vk : Nat), .int .i64 (vf : Nat), .bool vw]) : ElX (L.map vwC) i 4 K := el_mapE vw_len hj hx hk
section
variable {L A B : List Vw} {v : Vw}
theorem q_find (a k : Nat) (hL : L = A ++ v :: B) (hA : ∀ u ∈ A, ¬ atV (a, k) u) (hv : atV (a, k) v) (hl : L.length ≤ 4000) : PureS 75 [.agg [.isl (L.map vwC)], .int .i64 (a : Nat), .int .i64 (k : Nat)] (.int .i64 (A.length : Nat)) := by
 refine PureS.mk (pure_x hmix b75 plainG ⟨plain_vsA, plain_int, plain_int, trivial⟩ plain_int rfl ?_)
 unfold c75
 have hle : A.length < L.length := by rw [hL]; simp
 (refine wx_Bf ?_; repeat' (first | with_reducible refine And.intro ?_ ?_ | intro hsp))
 (refine loop_x [1, 2, 3] (fun (i : Nat) => [(7, .int .i64 (i : Nat))]) (fun (i : Nat) => ⟨[(0, .cells [.isl (L.map vwC)])], 1⟩) (fun (i : Nat) => i ≤ A.length) (fun (i : Nat) => A.length - i) (0) [] rfl (fun _ => by first | exact Nat.zero_le _ | (dsimp only; omega)) ?_ (by ((try (conv => whnf)); exact wkx_Bf)) ?_)
 ·exact Nat.zero_le _
 intro i hi
 have hil : i < L.length := by omega
 by_cases hia : i < A.length
 ·have hx : nth dV L i = nth dV A i := by rw [hL, nth_lo hia]
  have hne := hA _ (nth_mem (d := dV) hia)
  rw [← hx] at hne
  unfold atV at hne
  clear hx
  generalize hx : nth dV L i = u at *
  dsimp only at hne
  (refine wx_Bf ?_; repeat' (first | with_reducible refine And.intro ?_ ?_ | intro hsp))
  all_goals exact next_x (i + 1) [] (by (try dsimp only); omega) (by first | omega | (dsimp only; omega)) rfl (by exact wkx_Bf)
 ·obtain rfl : i = A.length := by omega
  have hx : nth dV L A.length = v := by rw [hL, nth_mid]
  unfold atV at hv
  dsimp only at hv
  (refine wx_Bf ?_; repeat' (first | with_reducible refine And.intro ?_ ?_ | intro hsp))
  all_goals exact end_int rfl
theorem q_find_no (a k : Nat) (hA : ∀ u ∈ L, ¬ atV (a, k) u) (hl : L.length ≤ 4000) : PureS 75 [.agg [.isl (L.map vwC)], .int .i64 (a : Nat), .int .i64 (k : Nat)] (.int .i64 (-1)) := by
 refine PureS.mk (pure_x hmix b75 plainG ⟨plain_vsA, plain_int, plain_int, trivial⟩ plain_int rfl ?_)
 unfold c75
 (refine wx_Bf ?_; repeat' (first | with_reducible refine And.intro ?_ ?_ | intro hsp))
 (refine loop_x [1, 2, 3] (fun (i : Nat) => [(7, .int .i64 (i : Nat))]) (fun (i : Nat) => ⟨[(0, .cells [.isl (L.map vwC)])], 1⟩) (fun (i : Nat) => i ≤ L.length) (fun (i : Nat) => L.length - i) (0) [] rfl (fun _ => by first | exact Nat.zero_le _ | (dsimp only; omega)) ?_ (by ((try (conv => whnf)); exact wkx_Bf)) ?_)
 ·exact Nat.zero_le _
 intro i hi
 by_cases hia : i < L.length
 ·have hne := hA _ (nth_mem (d := dV) hia)
  unfold atV at hne
  generalize hx : nth dV L i = u at *
  dsimp only at hne
  (refine wx_Bf ?_; repeat' (first | with_reducible refine And.intro ?_ ?_ | intro hsp))
  all_goals exact next_x (i + 1) [] (by (try dsimp only); omega) (by first | omega | (dsimp only; omega)) rfl (by exact wkx_Bf)
 ·(refine wx_Bf ?_; repeat' (first | with_reducible refine And.intro ?_ ?_ | intro hsp))
  all_goals exact end_int rfl
theorem q_count (f : Int) (hl : L.length ≤ 4000) : PureS 63 [.agg [.isl (L.map vwC)], .int .i64 f] (.int .i64 (cntI L f : Nat)) := by
 refine PureS.mk (pure_x hmix b63 plainG ⟨plain_vsA, plain_int, trivial⟩ plain_int rfl ?_)
 unfold c63
 (refine wx_Bf ?_; repeat' (first | with_reducible refine And.intro ?_ ?_ | intro hsp))
 (refine loop_x [1, 2] (fun (i : Nat) => [(5, .int .i64 (cntI (L.take i) f : Nat)), (6, .int .i64 (i : Nat))]) (fun (i : Nat) => ⟨[(0, .cells [.isl (L.map vwC)])], 1⟩) (fun (i : Nat) => i ≤ L.length) (fun (i : Nat) => L.length - i) (0) [] rfl (fun _ => by first | exact Nat.zero_le _ | (dsimp only; omega)) ?_ (by ((try (conv => whnf)); (rw [List.take_zero, cntI_nil]); exact wkx_Bf)) ?_)
 ·exact Nat.zero_le _
 intro i hi
 have hc : cntI (L.take i) f ≤ i := Nat.le_trans (List.length_filter_le ..) (by rw [List.length_take]; omega)
 by_cases hia : i < L.length
 ·have ht : cntI (L.take (i + 1)) f = cntI (L.take i) f + if ((nth dV L i).2.2.1 : Int) = f then 1 else 0 := cnt_take2 f hia
  generalize hx : nth dV L i = u at *
  by_cases hf : (u.2.2.1 : Int) = f
  ·rw [if_pos hf] at ht
   (refine wx_Bf ?_; repeat' (first | with_reducible refine And.intro ?_ ?_ | intro hsp))
   all_goals exact next_x (i + 1) [] (by (try dsimp only); omega) (by first | omega | (dsimp only; omega)) rfl (by exact wkx_Bf)
  ·rw [if_neg hf] at ht
   (refine wx_Bf ?_; repeat' (first | with_reducible refine And.intro ?_ ?_ | intro hsp))
   all_goals exact next_x (i + 1) [] (by (try dsimp only); omega) (by first | omega | (dsimp only; omega)) rfl (by exact wkx_Bf)
 ·(refine wx_Bf ?_; repeat' (first | with_reducible refine And.intro ?_ ?_ | intro hsp))
  all_goals exact end_int (by rw [List.take_of_length_le (by omega)])
theorem q_view_no (a k : Int) (hn : ¬ (inR 64 a ∧ inR 1024 k)) : PureS 61 [.agg [.isl (L.map vwC)], .int .i64 a, .int .i64 k] (.tup [.int .i64 0, .int .i64 7]) := by
 refine PureS.mk (pure_x hmix b61 plainG ⟨plain_vsA, plain_int, plain_int, trivial⟩ plain_t2 rfl ?_)
 unfold c61
 unfold inR at hn
 (refine wx_Bf ?_; repeat' (first | with_reducible refine And.intro ?_ ?_ | intro hsp))
 all_goals first | exact end_plain rfl plain_t2 | (exfalso; omega)
theorem q_view_none {a k : Nat} (ha : a < 64) (hk : k < 1024) (hA : ∀ u ∈ L, ¬ atV (a, k) u) (hl : L.length ≤ 4000) : PureS 61 [.agg [.isl (L.map vwC)], .int .i64 (a : Nat), .int .i64 (k : Nat)] (.tup [.int .i64 0, .int .i64 4]) := by
 refine PureS.mk (pure_x hmix b61 plainG ⟨plain_vsA, plain_int, plain_int, trivial⟩ plain_t2 rfl ?_)
 unfold c61
 have hf := q_find_no a k hA hl
 (refine wx_Bf ?_; repeat' (first | with_reducible refine And.intro ?_ ?_ | intro hsp))
 all_goals first | exact end_plain rfl plain_t2 | (exfalso; omega)
theorem q_view {a k : Nat} (ha : a < 64) (hk : k < 1024) (hL : L = A ++ v :: B) (hA : ∀ u ∈ A, ¬ atV (a, k) u) (hv : atV (a, k) v) (hl : L.length ≤ 4000) : PureS 61 [.agg [.isl (L.map vwC)], .int .i64 (a : Nat), .int .i64 (k : Nat)] (.tup [.int .i64 (A.length : Nat), .int .i64 0]) := by
 refine PureS.mk (pure_x hmix b61 plainG ⟨plain_vsA, plain_int, plain_int, trivial⟩ plain_t2 rfl ?_)
 unfold c61
 have hf := q_find a k hL hA hv hl
 (refine wx_Bf ?_; repeat' (first | with_reducible refine And.intro ?_ ?_ | intro hsp))
 all_goals first | exact end_plain rfl plain_t2 | (exfalso; omega)
theorem q_Find_bad {a k e : Int} (he : e ≠ 0) (h : PureS 61 [.agg [.isl (L.map vwC)], .int .i64 a, .int .i64 k] (.tup [.int .i64 0, .int .i64 e])) : PureS 29 [.agg [.isl (L.map vwC)], .int .i64 a, .int .i64 k] (.tup [.agg [.int .i64 0, .int .i64 0, .int .i64 0, .bool false], .int .i64 e]) := by
 refine PureS.mk (pure_x hmix b29 plainG ⟨plain_vsA, plain_int, plain_int, trivial⟩ plain_zv rfl ?_)
 unfold c29
 (refine wx_Bf ?_; repeat' (first | with_reducible refine And.intro ?_ ?_ | intro hsp))
 all_goals first | exact end_plain rfl plain_zv | (exfalso; omega)
theorem q_Find {a k : Nat} (ha : a < 64) (hk : k < 1024) (hL : L = A ++ v :: B) (hA : ∀ u ∈ A, ¬ atV (a, k) u) (hv : atV (a, k) v) (hl : L.length ≤ 4000) : PureS 29 [.agg [.isl (L.map vwC)], .int .i64 (a : Nat), .int .i64 (k : Nat)] (.tup [.agg (vwC v), .int .i64 0]) := by
 refine PureS.mk (pure_x hmix b29 plainG ⟨plain_vsA, plain_int, plain_int, trivial⟩ plain_tv rfl ?_)
 unfold c29
 have hf := q_view ha hk hL hA hv hl
 have hle : A.length < L.length := by rw [hL]; simp
 have hx : nth dV L A.length = v := by rw [hL, nth_mid]
 (refine wx_Bf ?_; repeat' (first | with_reducible refine And.intro ?_ ?_ | intro hsp))
 all_goals first | exact end_plain rfl plain_tv | (exfalso; omega)
theorem q_Count (f : Int) (hl : L.length ≤ 4000) : PureS 30 [.agg [.isl (L.map vwC)], .int .i64 f] (.tup [.int .i64 (if inR 1024 f then (cntI L f : Nat) else 0), .int .i64 (if inR 1024 f then 0 else 7)]) := by
 refine PureS.mk (pure_x hmix b30 plainG ⟨plain_vsA, plain_int, trivial⟩ plain_t2 rfl ?_)
 unfold c30
 have hc := q_count (L := L) f hl
 by_cases hf : inR 1024 f
 ·rw [if_pos hf, if_pos hf]
  unfold inR at hf
  (refine wx_Bf ?_; repeat' (first | with_reducible refine And.intro ?_ ?_ | intro hsp))
  all_goals first | exact end_plain rfl plain_t2 | (exfalso; omega)
 ·rw [if_neg hf, if_neg hf]
  unfold inR at hf
  (refine wx_Bf ?_; repeat' (first | with_reducible refine And.intro ?_ ?_ | intro hsp))
  all_goals first | exact end_plain rfl plain_t2 | (exfalso; omega)
theorem q_Where_no {a at_ : Int} (w : Bool) (hn : ¬ (inR 64 a ∧ inR 65536 at_)) : PureS 72 [.agg [.isl (L.map vwC)], .int .i64 a, .int .i64 at_, .bool w] (.tup [.int .i64 0, .int .i64 7]) := by
 refine PureS.mk (pure_x hmix b72 plainG ⟨plain_vsA, plain_int, plain_int, plain_bool, trivial⟩ plain_t2 rfl ?_)
 unfold c72
 unfold inR at hn
 (refine wx_Bf ?_; repeat' (first | with_reducible refine And.intro ?_ ?_ | intro hsp))
 all_goals first | exact end_plain rfl plain_t2 | (exfalso; omega)
theorem q_Where_none {a at_ : Nat} (w : Bool) (ha : a < 64) (hat : at_ < 65536) (hA : ∀ u ∈ L, ¬ atV (a, at_ / 64) u) (hl : L.length ≤ 4000) : PureS 72 [.agg [.isl (L.map vwC)], .int .i64 (a : Nat), .int .i64 (at_ : Nat), .bool w] (.tup [.int .i64 0, .int .i64 220]) := by
 refine PureS.mk (pure_x hmix b72 plainG ⟨plain_vsA, plain_int, plain_int, plain_bool, trivial⟩ plain_t2 rfl ?_)
 unfold c72
 have hq := q64 (t := at_) (by omega)
 have hf := q_find_no a (at_ / 64) hA hl
 (refine wx_Bf ?_; repeat' (first | with_reducible refine And.intro ?_ ?_ | intro hsp))
 all_goals first | exact end_plain rfl plain_t2 | (exfalso; omega)
end
end Go.Proofs.YtccbhbdbmmkcdaaGreat.Sh
