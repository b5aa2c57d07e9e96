/-
  take, Map, Unmap, Split.
  Split.
  What All yields: walked, Save.
  Save.
-/
import Derived.Test.YtccbhbdbmmkcdaaAmWt
import Derived.Test.YtccbhbdbmmkcdaaShC
set_option linter.unusedSimpArgs false
set_option linter.unusedVariables false
namespace Go.Proofs.Ytccbhbdbmmkcdaa.Sh
open Go Go.Am Go.Pol
theorem wx_Yhn {p q : Prop} (hq : q) (h : HidP q → p := by (intro hQz; ((repeat' ((try (conv => whnf)); first | (with_reducible first | refine run_cons ?_ | refine runq_cons ?_ | refine code_seq ?_ | refine code_reg ?_ | refine code_cond ?_ | refine run_nil ?_ | refine runq_nil ?_ | refine rund_op rfl ?_ | refine rund_nil ?_ | refine code_block ?_ | refine code_skip ?_ | refine code_exit ?_ | refine code_ret ?_ | refine code_range ?_ | refine rund_fast (by decide +kernel) ?_ | refine rund_slow (by decide +kernel) ?_ | refine br_tt ?_ | refine br_ff ?_ | refine br_n ?_ | refine br_and ?_ | refine br_or ?_ | refine br_t (by assumption) ?_ | refine br_f (by assumption) ?_ | refine eq_i64 (by omega) ?_ | refine el_tn ?_) | ((with_reducible refine br_dt ?_ ?_); focus omega) | ((with_reducible refine br_df ?_ ?_); focus omega) | ((with_reducible apply br_dq hQz) <;> (try intro hsp hQz)) | ((with_reducible refine ck_x ?_ ?_); focus (first | omega | rfl | assumption | decide | (simp only [List.length_map, List.length_cons, List.length_nil]; omega))) | (with_reducible first | refine eq_tn ?_ | refine eq_tn1 ?_ | refine eq_tn2 ?_ | refine eq_m1 ?_ | refine eq_m2 ?_ | refine eq_zm ?_ | refine eq_z ?_ | refine len_map ?_ | refine len_sl ?_ | refine len_nils ?_ | refine len_own' ?_ | refine len_isl ?_ | refine eq_u8 (by omega) ?_ | refine eq_u16 (by omega) ?_) | refine mdel_of hmf hcut rfl rfl rfl ?_ | refine nthK_of (hC) ?_ | refine set1K_of (by rw [tab_len]; omega) hset ?_ | (with_reducible first | refine eq_rfl ?_ | refine ChkX.mk (by kernel_rfl) ?_ | refine code_d (by decide +kernel) ?_ | refine end_go rfl ?_) | refine cx_pool (by assumption) rfl rfl rfl (by decide) (by first | (simp [plain_int, plain_bool]; done) | fail) plain_tvE rfl ?_ | refine dcx_pool (by assumption) rfl rfl rfl (by first | (simp [plain_int, plain_bool]; done) | fail) plain_tvE rfl rfl ?_ | refine len_map ?_ | refine len_isl ?_ | refine el_of rfl rfl ?_ | refine del_own ?_ | refine del_own' rfl ?_ | refine as_go rfl ?_ | refine rd_go rfl ?_ | refine rg_end rfl ?_ | refine flat_ownX ?_ | refine EqLX.mk ?_ | ((with_reducible apply br_bq hQz) <;> (try intro hsp hQz)) | exact hQz.out)) <;> (try (conv => whnf))))) : p := h ⟨hq⟩
theorem wx_Yh {p q : Prop} (hq : q) (h : HidP q → p := by (intro hQz; ((repeat' ((try (conv => whnf)); first | (with_reducible first | refine run_cons ?_ | refine runq_cons ?_ | refine code_seq ?_ | refine code_reg ?_ | refine code_cond ?_ | refine run_nil ?_ | refine runq_nil ?_ | refine rund_op rfl ?_ | refine rund_nil ?_ | refine code_block ?_ | refine code_skip ?_ | refine code_exit ?_ | refine code_ret ?_ | refine code_range ?_ | refine rund_fast (by decide +kernel) ?_ | refine rund_slow (by decide +kernel) ?_ | refine br_tt ?_ | refine br_ff ?_ | refine br_n ?_ | refine br_and ?_ | refine br_or ?_ | refine br_t (by assumption) ?_ | refine br_f (by assumption) ?_ | refine eq_i64 (by omega) ?_ | refine el_tn ?_) | ((with_reducible refine br_dt ?_ ?_); focus omega) | ((with_reducible refine br_df ?_ ?_); focus omega) | ((with_reducible apply br_dq hQz) <;> (try intro hsp hQz)) | ((with_reducible refine ck_x ?_ ?_); focus (first | omega | rfl | assumption | decide | (simp only [List.length_map, List.length_cons, List.length_nil]; omega))) | (with_reducible first | refine eq_tn ?_ | refine eq_tn1 ?_ | refine eq_tn2 ?_ | refine eq_m1 ?_ | refine eq_m2 ?_ | refine eq_zm ?_ | refine eq_z ?_ | refine len_map ?_ | refine len_sl ?_ | refine len_nils ?_ | refine len_own' ?_ | refine len_isl ?_ | refine eq_u8 (by omega) ?_ | refine eq_u16 (by omega) ?_) | refine nthK_of (by with_reducible assumption) ?_ | refine mlook_yes hmf hj rfl rfl rfl rfl ?_ | refine mlook_no (by assumption) rfl rfl rfl ?_ | refine mlen_of rfl (by with_reducible assumption) ?_ | (with_reducible first | refine eq_rfl ?_ | refine ChkX.mk (by kernel_rfl) ?_ | refine code_q rfl ?_ | refine code_d (by decide +kernel) ?_ | refine end_go rfl ?_) | refine cx_locV (by assumption) rfl (by omega) ?_ | refine cx_tab (by assumption) rfl rfl rfl rfl rfl (by decide) rfl ?_ | (refine cx_in hmix b37 rfl ?_; unfold c37) | refine cx_pureS (by assumption) ?_ | refine len_map ?_ | refine len_isl ?_ | refine el_of rfl rfl ?_ | refine del_own ?_ | refine del_own' rfl ?_ | refine as_go rfl ?_ | refine rd_go rfl ?_ | refine rg_end rfl ?_ | refine flat_ownX ?_ | refine EqLX.mk ?_ | ((with_reducible apply br_bq hQz) <;> (try intro hsp hQz)) | exact hQz.out)) <;> (try (conv => whnf))))) : p := h ⟨hq⟩
section
variable {L : List Vw} {t : TS} {v : Vw} {s : Nat}
theorem t_take (h : TOk L t) (hs : s ∈ t.Q v.1) (hu : t.U s = v) :
    ∃ t' A B X Y, L = A ++ v :: B ∧ TOk (A ++ B) t' ∧ t.Q v.1 = X ++ s :: Y ∧ t'.Q = updQ t.Q v.1 (X ++ Y) ∧ t'.U = t.U ∧ LocT 50 [.int .i64 (s : Nat)] t (.agg (vwC v)) t' := by
  obtain ⟨X, Y, A, B, hQ, hL, hX, hY, hsX, hsY⟩ := h.around hs hu
  have hv : v ∈ L := by rw [hL]; simp
  have hok := h.ok v hv
  have hm : v.1 < t.m := by rw [h.hm]; exact hok.1
  have hent := h.entry hs hu
  obtain ⟨j, hmf, _, hj⟩ := mf_yes h.keys hent
  obtain ⟨S', h1, h2⟩ := p_take h.pool.inv h.pool.n_le (s := s) (i := v.1) ⟨hm, hQ⟩
  have hv4 := h.val v.1 s hs
  rw [hu] at hv4
  rw [hv4.1, hv4.2.1, hv4.2.2.1, hv4.2.2.2] at h2
  have hgood : GoodP t.n t.m (updV t.V s z0) (updV t.W s w0) (updV t.V3 s w0) (updV t.V4 s b0) (updQ t.Q v.1 (X ++ Y)) S' := ⟨h1, h.pool.m_le, h.pool.n_le, h.pool.n_pos⟩
  have hT := h.cut hu hQ hL hX hY hsX hsY hj hgood
  have hC : (tabC 1 4 t.C)[2 + v.2.2.1]? = some (.int .i64 (t.C v.2.2.1 : Nat)) := tab_get hok.2.2
  have hC1 : 0 < t.C v.2.2.1 := by rw [h.cnt, hL, cnt_app, cnt_cons, if_pos rfl]; omega
  have hC2 : t.C v.2.2.1 ≤ 2000 := by rw [h.cnt]; exact Nat.le_trans (List.length_filter_le ..) h.len
  have hset : (tabC 1 4 t.C).set (2 + v.2.2.1) (.int .i64 ((t.C v.2.2.1 : Nat) - 1 : Int)) = tabC 1 4 (updN t.C v.2.2.1 (t.C v.2.2.1 - 1)) := tab_set (by omega)
  have hcut := cut_E (E := t.E) (j := j)
  refine ⟨_, A, B, X, Y, hL, hT, hQ, rfl, rfl, LocT.mk (loc_x hmix b50 rfl ?_) plain_i1 plain_vwC⟩
  unfold c50
  obtain ⟨va, vk, vf, vw⟩ := v
  have h2' : LocP 70 [.int .i64 (s : Nat)] t.n t.m (poolS t.n t.m t.V t.W t.V3 t.V4 t.S) (.tup [.agg [.int .i64 (va : Nat), .int .i64 (vk : Nat), .int .i64 (vf : Nat), .bool vw], .int .i64 0]) (poolS t.n t.m (updV t.V s z0) (updV t.W s w0) (updV t.V3 s w0) (updV t.V4 s b0) S') := h2
  unfold vwC
  dsimp only at *
  (refine wx_Yhn ?_; repeat' (first | with_reducible refine And.intro ?_ ?_ | intro hsp))
  all_goals exact end_tab rfl plain_vwE rfl rfl rfl rfl rfl
theorem plain_vl {a b c : Int} {w : Bool} : ∀ x ∈ [AV.agg [.int .i64 a, .int .i64 b, .int .i64 c, .bool w]], Plain x := fun x hx => by
  obtain rfl := List.mem_singleton.1 hx; exact plain_vwE
theorem k_right (a k f : Int) (w : Bool) : PureS 39 [.agg [.int .i64 a, .int .i64 k, .int .i64 f, .bool w]] (.bool (decide (inR 64 a ∧ inR 1024 k ∧ inR 1024 f))) := by
  refine PureS.mk (pure_x hmix b39 plainG ⟨plain_vwE, trivial⟩ plain_bool rfl ?_)
  unfold c39
  have ha := k_arenas1 a
  have hk := k_pages2 k f
  by_cases h1 : inR 64 a <;> by_cases h2 : (inR 1024 k ∧ inR 1024 f)
  all_goals first | rw [if_pos h1] at ha | rw [if_neg h1] at ha
  all_goals first | rw [if_pos h2] at hk | rw [if_neg h2] at hk
  all_goals (refine wx_Yh ?_; repeat' (first | with_reducible refine And.intro ?_ ?_ | intro hsp))
  all_goals exact end_bool (by first | (simp [h1, h2]; done) | (symm; rw [decide_eq_false_iff_not]; intro h3; first | exact h1 h3.1 | exact h2 h3.2) | (symm; rw [decide_eq_true_eq]; exact ⟨h1, h2⟩))
theorem right_ok (hv : v.1 < 64 ∧ v.2.1 < 1024 ∧ v.2.2.1 < 1024) : inR 64 (v.1 : Nat) ∧ inR 1024 (v.2.1 : Nat) ∧ inR 1024 (v.2.2.1 : Nat) := ⟨inR64 hv.1, inR1k hv.2.1, inR1k hv.2.2⟩
theorem t_Map (h : TOk L t) (hv : v.1 < 64 ∧ v.2.1 < 1024 ∧ v.2.2.1 < 1024) (hn : ∀ u ∈ L, ¬ atV (v.1, v.2.1) u) (hl : L.length < 2000) : ∃ t', TOk (insV v L) t' ∧ LocT 26 [.agg (vwC v)] t (.int .i64 0) t' := by
  have hmf := mf_no (h.noentry hn)
  have hlen : (t.E.map keyE).length = L.length := by rw [List.length_map, h.elen]
  obtain ⟨t', h1, _, _, hput⟩ := t_put h hv hn hl
  refine ⟨t', h1, ?_⟩
  obtain ⟨va, vk, vf, vw⟩ := v
  have hr := k_right (va : Nat) (vk : Nat) (vf : Nat) vw
  rw [decide_eq_true (right_ok hv)] at hr
  unfold vwC at hput ⊢
  dsimp only at *
  refine LocT.mk (loc_x hmix b26 rfl ?_) plain_vl plain_int
  unfold c26
  generalize L.length = n at *
  (refine wx_Yh ?_; repeat' (first | with_reducible refine And.intro ?_ ?_ | intro hsp))
  all_goals exact end_tab rfl plain_int rfl rfl rfl rfl rfl
theorem plain_t3 {a b c : Int} : Plain (.tup [.int .i64 a, .int .i64 b, .int .i64 c]) := plain_tup fun x hx => by
  simp only [List.mem_cons, List.not_mem_nil, or_false] at hx
  rcases hx with rfl | rfl | rfl <;> exact plain_int
theorem t_Unmap (h : TOk L t) (hs : s ∈ t.Q v.1) (hu : t.U s = v) :
    ∃ t' A B X Y, L = A ++ v :: B ∧ TOk (A ++ B) t' ∧ t.Q v.1 = X ++ s :: Y ∧ t'.Q = updQ t.Q v.1 (X ++ Y) ∧ t'.U = t.U ∧ LocT 27 [.int .i64 (v.1 : Nat), .int .i64 (v.2.1 : Nat)] t (.tup [.int .i64 (v.2.2.1 : Nat), .int .i64 (cntF (A ++ B) v.2.2.1 : Nat), .int .i64 0]) t' := by
  obtain ⟨t', A, B, X, Y, hL, h1, hQ, h2, h3, htake⟩ := t_take h hs hu
  have hok := h.ok v (by rw [hL]; simp)
  have hf := t_find hok.1 hok.2.1 h.keys (h.entry hs hu)
  have hC : (tabC 1 4 t'.C)[2 + v.2.2.1]? = some (.int .i64 (cntF (A ++ B) v.2.2.1 : Nat)) := by rw [← h1.cnt]; exact tab_get hok.2.2
  refine ⟨t', A, B, X, Y, hL, h1, hQ, h2, h3, LocT.mk (loc_x hmix b27 rfl ?_) plain_i2 plain_t3⟩
  unfold c27
  obtain ⟨va, vk, vf, vw⟩ := v
  unfold vwC at htake
  dsimp only at *
  (refine wx_Yh ?_; repeat' (first | with_reducible refine And.intro ?_ ?_ | intro hsp))
  all_goals exact end_tab rfl plain_t3 rfl rfl rfl rfl rfl
end
end Go.Proofs.Ytccbhbdbmmkcdaa.Sh
namespace Go.Proofs.Ytccbhbdbmmkcdaa.Sh
open Go Go.Am Go.Pol
theorem wx_Yi {p q : Prop} (hq : q) (h : HidP q → p := by (intro hQz; ((repeat' ((try (conv => whnf)); first | (with_reducible first | refine run_cons ?_ | refine runq_cons ?_ | refine code_seq ?_ | refine code_reg ?_ | refine code_cond ?_ | refine run_nil ?_ | refine runq_nil ?_ | refine rund_op rfl ?_ | refine rund_nil ?_ | refine code_block ?_ | refine code_skip ?_ | refine code_exit ?_ | refine code_ret ?_ | refine code_range ?_ | refine rund_fast (by decide +kernel) ?_ | refine rund_slow (by decide +kernel) ?_ | refine br_tt ?_ | refine br_ff ?_ | refine br_n ?_ | refine br_and ?_ | refine br_or ?_ | refine br_t (by assumption) ?_ | refine br_f (by assumption) ?_ | refine eq_i64 (by omega) ?_ | refine el_tn ?_) | ((with_reducible refine br_dt ?_ ?_); focus omega) | ((with_reducible refine br_df ?_ ?_); focus omega) | ((with_reducible apply br_dq hQz) <;> (try intro hsp hQz)) | ((with_reducible refine ck_x ?_ ?_); focus (first | omega | rfl | assumption | decide | (simp only [List.length_map, List.length_cons, List.length_nil]; omega))) | (with_reducible first | refine eq_tn ?_ | refine eq_tn1 ?_ | refine eq_tn2 ?_ | refine eq_m1 ?_ | refine eq_m2 ?_ | refine eq_zm ?_ | refine eq_z ?_ | refine len_map ?_ | refine len_sl ?_ | refine len_nils ?_ | refine len_own' ?_ | refine len_isl ?_ | refine eq_u8 (by omega) ?_ | refine eq_u16 (by omega) ?_) | refine nthK_of (by with_reducible assumption) ?_ | (with_reducible first | refine eq_rfl ?_ | refine ChkX.mk (by kernel_rfl) ?_ | refine code_q rfl ?_ | refine code_d (by decide +kernel) ?_ | refine end_go rfl ?_) | (refine cx_in hmix b37 rfl ?_; unfold c37) | refine cx_locV (by assumption) rfl (by omega) ?_ | refine cx_tab (by assumption) rfl rfl rfl rfl rfl (by decide) rfl ?_ | refine len_map ?_ | refine len_isl ?_ | refine el_of rfl rfl ?_ | refine del_own ?_ | refine del_own' rfl ?_ | refine as_go rfl ?_ | refine rd_go rfl ?_ | refine rg_end rfl ?_ | refine flat_ownX ?_ | refine EqLX.mk ?_ | ((with_reducible apply br_bq hQz) <;> (try intro hsp hQz)) | exact hQz.out)) <;> (try (conv => whnf))))) : p := h ⟨hq⟩
theorem wx_Yin {p q : Prop} (hq : q) (h : HidP q → p := by (intro hQz; ((repeat' ((try (conv => whnf)); first | (with_reducible first | refine run_cons ?_ | refine runq_cons ?_ | refine code_seq ?_ | refine code_reg ?_ | refine code_cond ?_ | refine run_nil ?_ | refine runq_nil ?_ | refine rund_op rfl ?_ | refine rund_nil ?_ | refine code_block ?_ | refine code_skip ?_ | refine code_exit ?_ | refine code_ret ?_ | refine code_range ?_ | refine rund_fast (by decide +kernel) ?_ | refine rund_slow (by decide +kernel) ?_ | refine br_tt ?_ | refine br_ff ?_ | refine br_n ?_ | refine br_and ?_ | refine br_or ?_ | refine br_t (by assumption) ?_ | refine br_f (by assumption) ?_ | refine eq_i64 (by omega) ?_ | refine el_tn ?_) | ((with_reducible refine br_dt ?_ ?_); focus omega) | ((with_reducible refine br_df ?_ ?_); focus omega) | ((with_reducible apply br_dq hQz) <;> (try intro hsp hQz)) | ((with_reducible refine ck_x ?_ ?_); focus (first | omega | rfl | assumption | decide | (simp only [List.length_map, List.length_cons, List.length_nil]; omega))) | (with_reducible first | refine eq_tn ?_ | refine eq_tn1 ?_ | refine eq_tn2 ?_ | refine eq_m1 ?_ | refine eq_m2 ?_ | refine eq_zm ?_ | refine eq_z ?_ | refine len_map ?_ | refine len_sl ?_ | refine len_nils ?_ | refine len_own' ?_ | refine len_isl ?_ | refine eq_u8 (by omega) ?_ | refine eq_u16 (by omega) ?_) | refine nthK_of (by with_reducible assumption) ?_ | refine set1K_of (by rw [tab_len]; omega) e1 ?_ | refine set1K_of (by rw [tab_len]; omega) e2 ?_ | (with_reducible first | refine eq_rfl ?_ | refine ChkX.mk (by kernel_rfl) ?_ | refine code_d (by decide +kernel) ?_ | refine end_go rfl ?_) | (refine cx_in hmix b37 rfl ?_; unfold c37) | refine cx_locV (by assumption) rfl (by omega) ?_ | refine cx_tab (by assumption) rfl rfl rfl rfl rfl (by decide) rfl ?_ | refine cx_pool (by assumption) rfl rfl rfl (by decide) (by first | exact plain_iv | (simp [plain_int, plain_bool]; done) | fail) (by first | exact plain_tvE | exact plain_int | fail) rfl ?_ | refine dcx_pool (by assumption) rfl rfl rfl (by first | exact plain_iv | (simp [plain_int, plain_bool]; done) | fail) (by first | exact plain_tvE | exact plain_int | fail) rfl rfl ?_ | refine len_map ?_ | refine len_isl ?_ | refine el_of rfl rfl ?_ | refine del_own ?_ | refine del_own' rfl ?_ | refine as_go rfl ?_ | refine rd_go rfl ?_ | refine rg_end rfl ?_ | refine flat_ownX ?_ | refine EqLX.mk ?_ | ((with_reducible apply br_bq hQz) <;> (try intro hsp hQz)) | exact hQz.out)) <;> (try (conv => whnf))))) : p := h ⟨hq⟩
section
variable {L : List Vw} {t : TS} {v : Vw} {s : Nat}
theorem plain_i3 {a b c : Int} : ∀ x ∈ [AV.int .i64 a, .int .i64 b, .int .i64 c], Plain x := fun x hx => by
  simp only [List.mem_cons, List.not_mem_nil, or_false] at hx
  rcases hx with rfl | rfl | rfl <;> exact plain_int
theorem t_Split_twice (h : TOk L t) (hv : v ∈ L) {f : Nat} (hf : f < 1024) (hc : 0 < cntF L f) : LocT 22 [.int .i64 (v.1 : Nat), .int .i64 (v.2.1 : Nat), .int .i64 (f : Nat)] t (.int .i64 8) t := by
  obtain ⟨s, hs, hu⟩ := h.slot hv
  have hok := h.ok v hv
  have hk1 := k_pages1 (f : Nat)
  rw [if_pos (inR1k hf)] at hk1
  have hfi := t_find hok.1 hok.2.1 h.keys (h.entry hs hu)
  have hC : (tabC 1 4 t.C)[2 + f]? = some (.int .i64 (cntF L f : Nat)) := by rw [← h.cnt]; exact tab_get hf
  refine LocT.mk (loc_x hmix b22 rfl ?_) plain_i3 plain_int
  unfold c22
  (refine wx_Yi ?_; repeat' (first | with_reducible refine And.intro ?_ ?_ | intro hsp))
  all_goals exact end_tab rfl plain_int rfl rfl rfl rfl rfl
/-- A view with another frame, to be written. -/
def frV (f : Nat) (v : Vw) : Vw := (v.1, v.2.1, f, true)
theorem t_Split (h : TOk L t) (hs : s ∈ t.Q v.1) (hu : t.U s = v) {f : Nat} (hf : f < 1024) (hc : cntF L f = 0) :
    ∃ t' A B, L = A ++ v :: B ∧ TOk (A ++ frV f v :: B) t' ∧ LocT 22 [.int .i64 (v.1 : Nat), .int .i64 (v.2.1 : Nat), .int .i64 (f : Nat)] t (.int .i64 0) t' := by
  obtain ⟨X, Y, A, B, hQ, hL, hX, hY, hsX, hsY⟩ := h.around hs hu
  have hv : v ∈ L := by rw [hL]; simp
  have hok := h.ok v hv
  have hm : v.1 < t.m := by rw [h.hm]; exact hok.1
  have hk1 := k_pages1 (f : Nat)
  rw [if_pos (inR1k hf)] at hk1
  have hfi := t_find hok.1 hok.2.1 h.keys (h.entry hs hu)
  have hget := h.get hs
  rw [hu] at hget
  have hcf : t.C f = 0 := by rw [h.cnt, hc]
  have hne : f ≠ v.2.2.1 := fun e => by subst e; rw [hL, cnt_app, cnt_cons, if_pos rfl] at hc; omega
  have hC1 : 0 < t.C v.2.2.1 := by rw [h.cnt, hL, cnt_app, cnt_cons, if_pos rfl]; omega
  have hC2 : t.C v.2.2.1 ≤ 2000 := by rw [h.cnt]; exact Nat.le_trans (List.length_filter_le ..) h.len
  have g1 : (tabC 1 4 t.C)[2 + f]? = some (.int .i64 0) := by have := tab_get (p := 1) (m := 4) (C := t.C) hf; rw [hcf] at this; exact this
  have g2 : (tabC 1 4 t.C)[2 + v.2.2.1]? = some (.int .i64 (t.C v.2.2.1 : Nat)) := tab_get hok.2.2
  have e1 : (tabC 1 4 t.C).set (2 + v.2.2.1) (.int .i64 ((t.C v.2.2.1 : Nat) - 1 : Int)) = tabC 1 4 (updN t.C v.2.2.1 (t.C v.2.2.1 - 1)) := tab_set (by omega)
  generalize hC' : updN t.C v.2.2.1 (t.C v.2.2.1 - 1) = C1 at *
  have hc1f : C1 f = 0 := by rw [← hC']; unfold updN; rw [if_neg hne, hcf]
  have g3 : (tabC 1 4 C1)[2 + f]? = some (.int .i64 0) := by have := tab_get (p := 1) (m := 4) (C := C1) hf; rw [hc1f] at this; exact this
  have e2 : (tabC 1 4 C1).set (2 + f) (.int .i64 1) = tabC 1 4 (updN C1 f 1) := tab_set rfl
  obtain ⟨i1, hput⟩ := p_put h.pool.inv (s := s) (i := v.1) ⟨hm, hQ⟩ (num v.1) (num v.2.1) (num f) (bo true)
  have hT := h.chg (w := frV f v) (C := updN C1 f 1) hu hQ hL hX hY hsX hsY rfl rfl hf (fun x => by
    rw [cnt_app, cnt_cons]
    have hx := h.cnt x
    rw [hL, cnt_app, cnt_cons] at hx
    have hv2 := h.cnt v.2.2.1
    rw [hL, cnt_app, cnt_cons, if_pos rfl] at hv2
    show updN C1 f 1 x = cntF A x + ((if f = x then 1 else 0) + cntF B x)
    rw [← hC']
    unfold updN
    by_cases h1 : x = f
    · subst h1; rw [if_pos rfl, if_pos rfl]; rw [if_neg (Ne.symm hne)] at hx; omega
    · rw [if_neg h1, if_neg (Ne.symm h1)]
      by_cases h2 : x = v.2.2.1
      · subst h2; rw [if_pos rfl]; omega
      · rw [if_neg h2]; rw [if_neg (Ne.symm h2)] at hx; omega) ⟨i1, h.pool.m_le, h.pool.n_le, h.pool.n_pos⟩
  refine ⟨_, A, B, hL, hT, LocT.mk (loc_x hmix b22 rfl ?_) plain_i3 plain_int⟩
  unfold c22
  obtain ⟨va, vk, vf, vw⟩ := v
  have hput' : LocP 47 [.int .i64 (s : Nat), .agg [.int .i64 (va : Nat), .int .i64 (vk : Nat), .int .i64 (f : Nat), .bool true]] t.n t.m (poolS t.n t.m t.V t.W t.V3 t.V4 t.S) (.int .i64 0) (poolS t.n t.m (updV t.V s (num va)) (updV t.W s (num vk)) (updV t.V3 s (num f)) (updV t.V4 s (bo true)) t.S) := hput
  unfold vwC at hget
  dsimp only at *
  clear hput
  (refine wx_Yin ?_; repeat' (first | with_reducible refine And.intro ?_ ?_ | intro hsp))
  all_goals exact end_tab rfl plain_int rfl rfl rfl rfl rfl
end
end Go.Proofs.Ytccbhbdbmmkcdaa.Sh
namespace Go.Proofs.Ytccbhbdbmmkcdaa.Sh
open Go Go.Am Go.Pol
theorem vw_plain' (v : Vw) : ∀ x ∈ vwC v, Plain x := vw_plain
theorem vw_len (v : Vw) : (vwC v).length = 4 := rfl
theorem plain_vs {L : List Vw} : Plain (.isl (L.map vwC)) := plain_isl fun e he => by
  obtain ⟨v, _, rfl⟩ := List.mem_map.1 he; exact vw_plain
theorem plain_vsA {L : List Vw} : Plain (.agg [.isl (L.map vwC)]) := plain_agg fun x hx => by
  obtain rfl := List.mem_singleton.1 hx; exact plain_vs

/-- As end_tab, of a result that is forgotten in part. -/
theorem end_tabW {top : Bool} {h : Hp} {N0 : Nat} {x r : AV} {t : TS} (hr : SubH (rn []) h ⟨tabS t, 5⟩ → WkV Try.prog (rn []) h ⟨tabS t, 5⟩ x r) (h0 : lk h.l 0 = some (.cells (tabC 1 4 t.C))) (h1 : lk h.l 1 = some (.cells [.sl 2 0 t.n t.n 7, .sl 3 0 t.m t.m 3, .int .i64 (t.S.fr : Nat)])) (h2 : lk h.l 2 = some (.cells (cellsB t.n t.V t.W t.V3 t.V4 t.S.L t.S.N t.S.P))) (h3 : lk h.l 3 = some (.cells (endsB t.m t.S.A t.S.B t.S.C))) (h4 : lk h.l 4 = some (.maps (t.E.map keyE))) (hN0 : N0 ≤ 5 := by decide) :
    EndX top Try.prog N0 h x (fun r' h' => r' = r ∧ h' = ⟨tabS t, 5⟩) := by
  have hs : SubH (rn []) h ⟨tabS t, 5⟩ := fun i o hi => by
    simp only [tabS, lk] at hi
    show ∃ o', lk h.l i = some o'
    split at hi
    · rename_i e; subst e; exact ⟨_, h0⟩
    · split at hi
      · rename_i e; subst e; exact ⟨_, h1⟩
      · split at hi
        · rename_i e; subst e; exact ⟨_, h2⟩
        · split at hi
          · rename_i e; subst e; exact ⟨_, h3⟩
          · split at hi
            · rename_i e; subst e; exact ⟨_, h4⟩
            · cases hi
  refine end_loc [] rfl hN0 (oneOf_of rfl) (hr hs) ?_ ⟨rfl, rfl⟩
  exact wko_tab hs (show 0 < 5 by decide) h0 rfl (show 1 < 5 by decide) rfl (show 4 < 5 by decide)
    (wko_cells (show 1 < 5 by decide) h1 (wkl_cons (wk_sl rfl (show 2 < 5 by decide) rfl (Nat.le_refl _) (Nat.le_refl _)) (wkl_cons (wk_sl rfl (show 3 < 5 by decide) rfl (Nat.le_refl _) (Nat.le_refl _)) (wkl_cons (wk_int rfl) wkl_nil)))
    (wko_plain hs (show 2 < 5 by decide) h2 rfl cells_plain (wko_plain hs (show 3 < 5 by decide) h3 rfl ends_plain (wko_maps hs (show 4 < 5 by decide) h4 rfl key_plain wko_nil))))
theorem tab_not {t : TS} {d : Nat} (hd : 5 ≤ d) : ∀ j o, lk (Hp.l ⟨tabS t, 5⟩) j = some o → rn [] j ≠ d := fun j o hj => by
  have : j < 5 := Classical.byContradiction fun hn => by
    simp only [tabS, lk] at hj
    repeat' split at hj
    all_goals first | omega | cases hj
  show j ≠ d
  omega
theorem orErr_hd (Q : List Nat) : orErr (hd Q) 4 = .tup [.int .i64 (if Q.length = 0 then 0 else hd (Q.drop 0)), .int .i64 (if Q.length = 0 then 4 else 0)] := by
  unfold orErr
  cases Q with
  | nil => rfl
  | cons y0 L0 => rw [if_neg (show ¬ hd (y0 :: L0) = -1 by show ¬ ((y0 : Nat) : Int) = -1; omega), if_neg (show ¬ hd (y0 :: L0) = -1 by show ¬ ((y0 : Nat) : Int) = -1; omega), if_neg (by simp), if_neg (by simp)]; rfl
section
variable {L : List Vw} {t : TS}
/-- The next link, and the value, of the slot that is yielded. -/
theorem TOk.at_ (h : TOk L t) {a k : Nat} (hk : k < (t.Q a).length) : nth 0 (t.Q a) k < t.n ∧ hd ((t.Q a).drop k) = (nth 0 (t.Q a) k : Nat) ∧ t.S.N (nth 0 (t.Q a) k) = hd ((t.Q a).drop (k + 1)) ∧ nth dV (ofA a L) k = t.U (nth 0 (t.Q a) k) ∧ nth 0 (t.Q a) k ∈ t.Q a ∧ ((cellsB t.n t.V t.W t.V3 t.V4 t.S.L t.S.N t.S.P).drop (nth 0 (t.Q a) k * 7)).take 4 = vwC (t.U (nth 0 (t.Q a) k)) := by
  have hm := nth_mem (d := 0) hk
  have hlt := (h.pool.inv.st.us a _ hm).1
  refine ⟨hlt, by rw [nth_get hk, List.drop_eq_getElem_cons hk]; rfl, (h.pool.inv.st.ch a ((t.Q a).take k) (nth 0 (t.Q a) k) ((t.Q a).drop (k + 1)) (by rw [nth_get hk, ← List.drop_eq_getElem_cons hk, List.take_append_drop])).1, ?_, hm, ?_⟩
  · rw [← h.lst, nth_get (by rw [List.length_map]; exact hk), nth_get hk, List.getElem_map]
  · rw [tkV hlt]
    obtain ⟨e1, e2, e3, e4⟩ := h.val a _ hm
    rw [e1, e2, e3, e4]; rfl
theorem TOk.lenQ (h : TOk L t) (a : Nat) : (ofA a L).length = (t.Q a).length := by rw [← h.lst, List.length_map]
end
end Go.Proofs.Ytccbhbdbmmkcdaa.Sh
namespace Go.Pol
def upto (a : Nat) (L : List Vw) : List Vw := L.filter fun v => decide (v.1 < a)
end Go.Pol
namespace Go.Proofs.Ytccbhbdbmmkcdaa.Sh
open Go Go.Am Go.Pol
section
variable {L : List Vw} {t : TS}
end
end Go.Proofs.Ytccbhbdbmmkcdaa.Sh
