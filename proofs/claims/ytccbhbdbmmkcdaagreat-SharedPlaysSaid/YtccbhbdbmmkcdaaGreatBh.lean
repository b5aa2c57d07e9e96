/-
 The document's answer: Map, Unmap, Protect, Split.
-/
import Derived.Test.YtccbhbdbmmkcdaaGreatBg
set_option linter.unusedSimpArgs false
set_option linter.unusedVariables false
namespace Go.Pol
open Go.Am
def prV (b : Bool) (v : Vw) : Vw := (v.1, v.2.1, v.2.2.1, b)
end Go.Pol
namespace Go.Proofs.YtccbhbdbmmkcdaaGreat.Sh
open Go Go.Am Go.Pol
theorem wx_Bh {p q : Prop} (hq : q) (h : HidP q → p := by (intro hQz; ((repeat' ((try (conv => whnf)); first | (with_reducible first | refine run_cons ?_ | refine runq_cons ?_ | refine code_seq ?_ | refine code_reg ?_ | refine code_cond ?_ | refine run_nil ?_ | refine runq_nil ?_ | refine rund_op rfl ?_ | refine rund_nil ?_ | refine code_block ?_ | refine code_skip ?_ | refine code_exit ?_ | refine code_ret ?_ | refine code_range ?_ | refine rund_fast (by decide +kernel) ?_ | refine rund_slow (by decide +kernel) ?_ | refine br_tt ?_ | refine br_ff ?_ | refine br_n ?_ | refine br_and ?_ | refine br_or ?_ | refine br_t (by assumption) ?_ | refine br_f (by assumption) ?_ | refine eq_i64 (by omega) ?_ | refine el_tn ?_) | ((with_reducible refine br_dt ?_ ?_); focus omega) | ((with_reducible refine br_df ?_ ?_); focus omega) | ((with_reducible apply br_dq hQz) <;> (try intro hsp hQz)) | ((with_reducible refine ck_x ?_ ?_); focus (first | omega | rfl | assumption | decide | (simp only [List.length_map, List.length_cons, List.length_nil]; omega))) | (with_reducible first | refine eq_tn ?_ | refine eq_tn1 ?_ | refine eq_tn2 ?_ | refine eq_m1 ?_ | refine eq_m2 ?_ | refine eq_zm ?_ | refine eq_z ?_ | refine len_map ?_ | refine len_sl ?_ | refine len_nils ?_ | refine len_own' ?_ | refine len_isl ?_ | refine eq_u8 (by omega) ?_ | refine eq_u16 (by omega) ?_) | refine el_mapE (d := dV) vw_len (by first | assumption | omega) (by with_reducible assumption) ?_ | (with_reducible first | refine eq_rfl ?_ | refine ChkX.mk (by kernel_rfl) ?_ | refine code_q rfl ?_ | refine code_d (by decide +kernel) ?_ | refine end_go rfl ?_) | (refine cx_in hmix b69 rfl ?_; unfold c69) | (refine cx_in hmix b67 rfl ?_; unfold c67) | refine dcx_pureS (by assumption) ?_ | refine qcx_pureS (by assumption) ?_ | refine cx_pureS (by assumption) ?_ | refine len_map ?_ | refine len_isl ?_ | refine el_of rfl rfl ?_ | refine del_own ?_ | refine del_own' rfl ?_ | refine as_go rfl ?_ | refine rd_go rfl ?_ | refine rg_end rfl ?_ | refine flat_ownX ?_ | refine EqLX.mk ?_ | ((with_reducible apply br_bq hQz) <;> (try intro hsp hQz)) | exact hQz.out)) <;> (try (conv => whnf))))) : p := h ⟨hq⟩
theorem wx_Bhn {p q : Prop} (hq : q) (h : HidP q → p := by (intro hQz; ((repeat' ((try (conv => whnf)); first | (with_reducible first | refine run_cons ?_ | refine runq_cons ?_ | refine code_seq ?_ | refine code_reg ?_ | refine code_cond ?_ | refine run_nil ?_ | refine runq_nil ?_ | refine rund_op rfl ?_ | refine rund_nil ?_ | refine code_block ?_ | refine code_skip ?_ | refine code_exit ?_ | refine code_ret ?_ | refine code_range ?_ | refine rund_fast (by decide +kernel) ?_ | refine rund_slow (by decide +kernel) ?_ | refine br_tt ?_ | refine br_ff ?_ | refine br_n ?_ | refine br_and ?_ | refine br_or ?_ | refine br_t (by assumption) ?_ | refine br_f (by assumption) ?_ | refine eq_i64 (by omega) ?_ | refine el_tn ?_) | ((with_reducible refine br_dt ?_ ?_); focus omega) | ((with_reducible refine br_df ?_ ?_); focus omega) | ((with_reducible apply br_dq hQz) <;> (try intro hsp hQz)) | ((with_reducible refine ck_x ?_ ?_); focus (first | omega | rfl | assumption | decide | (simp only [List.length_map, List.length_cons, List.length_nil]; omega))) | (with_reducible first | refine eq_tn ?_ | refine eq_tn1 ?_ | refine eq_tn2 ?_ | refine eq_m1 ?_ | refine eq_m2 ?_ | refine eq_zm ?_ | refine eq_z ?_ | refine len_map ?_ | refine len_sl ?_ | refine len_nils ?_ | refine len_own' ?_ | refine len_isl ?_ | refine eq_u8 (by omega) ?_ | refine eq_u16 (by omega) ?_) | refine apps_some (appV_sl (src_isl L rfl) rfl (by first | (simp [flat_len vw_len]; done) | (simp [flat_len vw_len]; omega) | fail) (by first | decide | omega) ⟨by first | decide | omega, by first | decide | omega⟩) ?_ | refine app_m (src_isl L rfl) rfl (by first | (simp [flat_len vw_len]; done) | (simp [flat_len vw_len]; omega) | fail) (by first | decide | omega) ⟨by first | decide | omega, by first | decide | omega⟩ ?_ | refine set1K_of (by first | (simp [flat_len vw_len]; omega) | fail) hset ?_ | refine set1K_of (by first | (simp [flat_len vw_len]; omega) | (rw [flat_len vw_len, hll]; omega) | fail) hset2 ?_ | (with_reducible first | refine eq_rfl ?_ | refine ChkX.mk (by kernel_rfl) ?_ | refine code_d (by decide +kernel) ?_ | refine end_go rfl ?_) | (refine cx_in hmix b69 rfl ?_; unfold c69) | (refine cx_in hmix b67 rfl ?_; unfold c67) | (refine cx_in hmix b66 rfl ?_; unfold c66) | refine dcx_pureS (by assumption) ?_ | refine qcx_pureS (by assumption) ?_ | refine cx_pureS (by assumption) ?_ | refine len_map ?_ | refine len_isl ?_ | refine el_of rfl rfl ?_ | refine del_own ?_ | refine del_own' rfl ?_ | refine as_go rfl ?_ | refine rd_go rfl ?_ | refine rg_end rfl ?_ | refine flat_ownX ?_ | refine EqLX.mk ?_ | ((with_reducible apply br_bq hQz) <;> (try intro hsp hQz)) | exact hQz.out)) <;> (try (conv => whnf))))) : p := h ⟨hq⟩
theorem plain_ste {L : List Vw} {e : Int} : Plain (.tup [.agg [.isl (L.map vwC)], .int .i64 e]) := plain_tup fun x hx => by
 simp only [List.mem_cons, List.not_mem_nil, or_false] at hx
 rcases hx with rfl | rfl
 ·exact plain_vsA
 ·exact plain_int
theorem plain_sse {L : List Vw} {a b e : Int} : Plain (.tup [.agg [.isl (L.map vwC)], .int .i64 a, .int .i64 b, .int .i64 e]) := plain_tup fun x hx => by
 simp only [List.mem_cons, List.not_mem_nil, or_false] at hx
 rcases hx with rfl | rfl | rfl | rfl
 ·exact plain_vsA
 ·exact plain_int
 ·exact plain_int
 ·exact plain_int
section
variable {L A B : List Vw} {v : Vw}
theorem q_Map_no (x : Rw) (hn : ¬ okW x) : PureS 39 [.agg [.isl (L.map vwC)], .agg [.int .i64 x.1, .int .i64 x.2.1, .int .i64 x.2.2.1, .bool x.2.2.2]] (.tup [.agg [.isl (L.map vwC)], .int .i64 7]) := by
 refine PureS.mk (pure_x hmix b39 plainG ⟨plain_vsA, plain_rwE, trivial⟩ plain_ste rfl ?_)
 unfold c39
 unfold okW at hn
 (refine wx_Bh ?_; repeat' (first | with_reducible refine And.intro ?_ ?_ | intro hsp))
 all_goals first | exact end_plain rfl plain_ste | (exfalso; omega)
theorem q_Map_twice (hv : v.1 < 64 ∧ v.2.1 < 1024 ∧ v.2.2.1 < 1024) {u : Vw} (hL : L = A ++ u :: B) (hA : ∀ w ∈ A, ¬ atV (v.1, v.2.1) w) (hu : atV (v.1, v.2.1) u) (hl : L.length ≤ 2000) : PureS 39 [.agg [.isl (L.map vwC)], .agg [.int .i64 (v.1 : Nat), .int .i64 (v.2.1 : Nat), .int .i64 (v.2.2.1 : Nat), .bool v.2.2.2]] (.tup [.agg [.isl (L.map vwC)], .int .i64 8]) := by
 refine PureS.mk (pure_x hmix b39 plainG ⟨plain_vsA, plain_vwE, trivial⟩ plain_ste rfl ?_)
 unfold c39
 have hf := q_find v.1 v.2.1 hL hA hu (by omega)
 (refine wx_Bh ?_; repeat' (first | with_reducible refine And.intro ?_ ?_ | intro hsp))
 all_goals first | exact end_plain rfl plain_ste | (exfalso; omega)
theorem q_Map_full (hv : v.1 < 64 ∧ v.2.1 < 1024 ∧ v.2.2.1 < 1024) (hA : ∀ w ∈ L, ¬ atV (v.1, v.2.1) w) (hl : L.length = 2000) : PureS 39 [.agg [.isl (L.map vwC)], .agg [.int .i64 (v.1 : Nat), .int .i64 (v.2.1 : Nat), .int .i64 (v.2.2.1 : Nat), .bool v.2.2.2]] (.tup [.agg [.isl (L.map vwC)], .int .i64 5]) := by
 refine PureS.mk (pure_x hmix b39 plainG ⟨plain_vsA, plain_vwE, trivial⟩ plain_ste rfl ?_)
 unfold c39
 have hf := q_find_no v.1 v.2.1 hA (by omega)
 (refine wx_Bh ?_; repeat' (first | with_reducible refine And.intro ?_ ?_ | intro hsp))
 all_goals first | exact end_plain rfl plain_ste | (exfalso; omega)
theorem q_Map (hv : v.1 < 64 ∧ v.2.1 < 1024 ∧ v.2.2.1 < 1024) (hA : ∀ w ∈ L, ¬ atV (v.1, v.2.1) w) (hl : L.length < 2000) : PureS 39 [.agg [.isl (L.map vwC)], .agg [.int .i64 (v.1 : Nat), .int .i64 (v.2.1 : Nat), .int .i64 (v.2.2.1 : Nat), .bool v.2.2.2]] (.tup [.agg [.isl ((insV v L).map vwC)], .int .i64 0]) := by
 refine PureS.mk (pure_x hmix b39 plainG ⟨plain_vsA, plain_vwE, trivial⟩ plain_ste rfl ?_)
 unfold c39
 have hf := q_find_no v.1 v.2.1 hA (by omega)
 obtain ⟨X, Y, h1, h2, h3, h4⟩ := insV_split v L
 have hp := q_put h1 h3 h4 (by omega)
 rw [← h2] at hp
 (refine wx_Bh ?_; repeat' (first | with_reducible refine And.intro ?_ ?_ | intro hsp))
 all_goals first | exact end_plain rfl plain_ste | (exfalso; omega)
theorem q_Unmap_bad {a k e : Int} (he : e ≠ 0) (h : PureS 61 [.agg [.isl (L.map vwC)], .int .i64 a, .int .i64 k] (.tup [.int .i64 0, .int .i64 e])) : PureS 25 [.agg [.isl (L.map vwC)], .int .i64 a, .int .i64 k] (.tup [.agg [.isl (L.map vwC)], .int .i64 0, .int .i64 0, .int .i64 e]) := by
 refine PureS.mk (pure_x hmix b25 plainG ⟨plain_vsA, plain_int, plain_int, trivial⟩ plain_sse rfl ?_)
 unfold c25
 (refine wx_Bh ?_; repeat' (first | with_reducible refine And.intro ?_ ?_ | intro hsp))
 all_goals first | exact end_plain rfl plain_sse | (exfalso; omega)
theorem q_Unmap (hv : v.1 < 64 ∧ v.2.1 < 1024) (hL : L = A ++ v :: B) (hA : ∀ w ∈ A, ¬ atV (v.1, v.2.1) w) (hl : L.length ≤ 2000) : PureS 25 [.agg [.isl (L.map vwC)], .int .i64 (v.1 : Nat), .int .i64 (v.2.1 : Nat)] (.tup [.agg [.isl ((A ++ B).map vwC)], .int .i64 (v.2.2.1 : Nat), .int .i64 (cntF (A ++ B) v.2.2.1 : Nat), .int .i64 0]) := by
 refine PureS.mk (pure_x hmix b25 plainG ⟨plain_vsA, plain_int, plain_int, trivial⟩ plain_sse rfl ?_)
 unfold c25
 have hw := q_view hv.1 hv.2 hL hA ⟨rfl, rfl⟩ (by omega)
 have hc := q_cut hL (by omega)
 have hn := q_count (L := A ++ B) (v.2.2.1 : Nat) (by rw [hL] at hl; simp at hl ⊢; omega)
 rw [cntI_nat] at hn
 have hle : A.length < L.length := by rw [hL]; simp
 have hx : nth dV L A.length = v := by rw [hL, nth_mid]
 (refine wx_Bh ?_; repeat' (first | with_reducible refine And.intro ?_ ?_ | intro hsp))
 all_goals first | exact end_plain rfl plain_sse | (exfalso; omega)
theorem q_Protect_bad {a k e : Int} (b : Bool) (he : e ≠ 0) (h : PureS 61 [.agg [.isl (L.map vwC)], .int .i64 a, .int .i64 k] (.tup [.int .i64 0, .int .i64 e])) : PureS 27 [.agg [.isl (L.map vwC)], .int .i64 a, .int .i64 k, .bool b] (.tup [.agg [.isl (L.map vwC)], .int .i64 e]) := by
 refine PureS.mk (pure_x hmix b27 plainG ⟨plain_vsA, plain_int, plain_int, plain_bool, trivial⟩ plain_ste rfl ?_)
 unfold c27
 (refine wx_Bh ?_; repeat' (first | with_reducible refine And.intro ?_ ?_ | intro hsp))
 all_goals first | exact end_plain rfl plain_ste | (exfalso; omega)
theorem flat_mid (A B : List Vw) (v w : Vw) (j : Nat) (x : AV) (h : (vwC v).set j x = vwC w) (hj : j < 4) : ([] ++ flat vwC (A ++ v :: B)).set (A.length * 4 + j) x = flat vwC (A ++ w :: B) := by
 have e : ∀ u : Vw, flat vwC (A ++ u :: B) = flat vwC A ++ (vwC u ++ flat vwC B) := fun u => by simp [flat]
 rw [List.nil_append, e, e, ← h, List.set_append_right _ _ (by rw [flat_len vw_len]; omega), flat_len vw_len, Nat.add_sub_cancel_left, List.set_append_left _ _ (by rw [vw_len]; exact hj)]
theorem q_Protect (b : Bool) (hv : v.1 < 64 ∧ v.2.1 < 1024) (hL : L = A ++ v :: B) (hA : ∀ w ∈ A, ¬ atV (v.1, v.2.1) w) (hl : L.length ≤ 2000) : PureS 27 [.agg [.isl (L.map vwC)], .int .i64 (v.1 : Nat), .int .i64 (v.2.1 : Nat), .bool b] (.tup [.agg [.isl ((A ++ prV b v :: B).map vwC)], .int .i64 0]) := by
 refine PureS.mk (pure_x hmix b27 plainG ⟨plain_vsA, plain_int, plain_int, plain_bool, trivial⟩ plain_ste rfl ?_)
 unfold c27
 have hw := q_view hv.1 hv.2 hL hA ⟨rfl, rfl⟩ (by omega)
 have hle : A.length < L.length := by rw [hL]; simp
 have hpos : 0 < L.length := by omega
 have hset := flat_mid A B v (prV b v) 3 (.bool b) rfl (by decide)
 rw [← hL] at hset
 have hfl := flat_len vw_len L
 (refine wx_Bhn ?_; repeat' (first | with_reducible refine And.intro ?_ ?_ | intro hsp))
 all_goals exact end_wk (wk_tup (wkl_cons (wk_agg (wkl_cons (wk_new (A ++ prV b v :: B) rfl rfl (by rw [hL]; simp)) wkl_nil)) (wkl_cons (wk_int rfl) wkl_nil)))
theorem q_Split_no (a k f : Int) (hn : ¬ (inR 64 a ∧ inR 1024 k ∧ inR 1024 f)) : PureS 34 [.agg [.isl (L.map vwC)], .int .i64 a, .int .i64 k, .int .i64 f] (.tup [.agg [.isl (L.map vwC)], .int .i64 7]) := by
 refine PureS.mk (pure_x hmix b34 plainG ⟨plain_vsA, plain_int, plain_int, plain_int, trivial⟩ plain_ste rfl ?_)
 unfold c34
 unfold inR at hn
 (refine wx_Bh ?_; repeat' (first | with_reducible refine And.intro ?_ ?_ | intro hsp))
 all_goals first | exact end_plain rfl plain_ste | (exfalso; omega)
theorem q_Split_none {a k f : Nat} (ha : a < 64) (hk : k < 1024) (hf : f < 1024) (hA : ∀ w ∈ L, ¬ atV (a, k) w) (hl : L.length ≤ 2000) : PureS 34 [.agg [.isl (L.map vwC)], .int .i64 (a : Nat), .int .i64 (k : Nat), .int .i64 (f : Nat)] (.tup [.agg [.isl (L.map vwC)], .int .i64 4]) := by
 refine PureS.mk (pure_x hmix b34 plainG ⟨plain_vsA, plain_int, plain_int, plain_int, trivial⟩ plain_ste rfl ?_)
 unfold c34
 have hw := q_view_none ha hk hA (by omega)
 (refine wx_Bh ?_; repeat' (first | with_reducible refine And.intro ?_ ?_ | intro hsp))
 all_goals first | exact end_plain rfl plain_ste | (exfalso; omega)
theorem q_Split_twice {f : Nat} (hv : v.1 < 64 ∧ v.2.1 < 1024) (hf : f < 1024) (hL : L = A ++ v :: B) (hA : ∀ w ∈ A, ¬ atV (v.1, v.2.1) w) (hl : L.length ≤ 2000) (hc : 0 < cntF L f) : PureS 34 [.agg [.isl (L.map vwC)], .int .i64 (v.1 : Nat), .int .i64 (v.2.1 : Nat), .int .i64 (f : Nat)] (.tup [.agg [.isl (L.map vwC)], .int .i64 8]) := by
 refine PureS.mk (pure_x hmix b34 plainG ⟨plain_vsA, plain_int, plain_int, plain_int, trivial⟩ plain_ste rfl ?_)
 unfold c34
 have hw := q_view hv.1 hv.2 hL hA ⟨rfl, rfl⟩ (by omega)
 have hn := q_count (L := L) (f : Nat) (by omega)
 rw [cntI_nat] at hn
 generalize cntF L f = n at *
 (refine wx_Bh ?_; repeat' (first | with_reducible refine And.intro ?_ ?_ | intro hsp))
 all_goals first | exact end_plain rfl plain_ste | (exfalso; omega)
theorem q_Split {f : Nat} (hv : v.1 < 64 ∧ v.2.1 < 1024) (hf : f < 1024) (hL : L = A ++ v :: B) (hA : ∀ w ∈ A, ¬ atV (v.1, v.2.1) w) (hl : L.length ≤ 2000) (hc : cntF L f = 0) : PureS 34 [.agg [.isl (L.map vwC)], .int .i64 (v.1 : Nat), .int .i64 (v.2.1 : Nat), .int .i64 (f : Nat)] (.tup [.agg [.isl ((A ++ frV f v :: B).map vwC)], .int .i64 0]) := by
 refine PureS.mk (pure_x hmix b34 plainG ⟨plain_vsA, plain_int, plain_int, plain_int, trivial⟩ plain_ste rfl ?_)
 unfold c34
 have hw := q_view hv.1 hv.2 hL hA ⟨rfl, rfl⟩ (by omega)
 have hn := q_count (L := L) (f : Nat) (by omega)
 rw [cntI_nat, hc] at hn
 have hle : A.length < L.length := by rw [hL]; simp
 have hpos : 0 < L.length := by omega
 have hset := flat_mid A B v (v.1, v.2.1, f, v.2.2.2) 2 (.int .i64 (f : Nat)) rfl (by decide)
 have hset2 := flat_mid A B (v.1, v.2.1, f, v.2.2.2) (frV f v) 3 (.bool true) rfl (by decide)
 rw [List.nil_append] at hset2
 have hll : (A ++ (v.1, v.2.1, f, v.2.2.2) :: B).length = L.length := by rw [hL]; simp
 rw [← hL] at hset
 (refine wx_Bhn ?_; repeat' (first | with_reducible refine And.intro ?_ ?_ | intro hsp))
 all_goals first | exact end_wk (wk_tup (wkl_cons (wk_agg (wkl_cons (wk_new (A ++ frV f v :: B) rfl rfl (by rw [hL]; simp)) wkl_nil)) (wkl_cons (wk_int rfl) wkl_nil))) | trace_state
end
end Go.Proofs.YtccbhbdbmmkcdaaGreat.Sh
