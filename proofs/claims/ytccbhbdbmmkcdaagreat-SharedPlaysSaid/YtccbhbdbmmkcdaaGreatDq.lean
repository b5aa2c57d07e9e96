/-
 A call of the law: on a table and on a state.
-/
import Derived.Test.YtccbhbdbmmkcdaaGreatDp
set_option linter.unusedSimpArgs false
set_option linter.unusedVariables false
namespace Go.Proofs.YtccbhbdbmmkcdaaGreat.Sh
open Go Go.Am Go.Pol
theorem plx_Dq {p : Prop} (h : p := by ((first | assumption | exact plain_int | exact plain_bool | exact plain_undef | exact plain_nils | exact plain_nilp | exact plain_nilf | exact plain_str | with_reducible apply plain_int | with_reducible apply plain_bool | with_reducible apply plain_vwC | with_reducible apply plain_vwE | with_reducible apply plain_vs | with_reducible apply plain_stA | fail); first | done | fail)) : p := h
theorem prx_Dq {p : Prop} (h : p := by (((repeat' (first | exact plain_all0 | refine plain_all2 ?_ ?_ | exact plain_int | first | assumption | exact plain_int | exact plain_bool | exact plain_undef | exact plain_nils | exact plain_nilp | exact plain_nilf | exact plain_str | with_reducible apply plain_int | with_reducible apply plain_bool | with_reducible apply plain_vwC | with_reducible apply plain_vwE | with_reducible apply plain_vs | with_reducible apply plain_stA))); first | done | fail)) : p := h
theorem ppx_Dq {p : Prop} (h : p := by ((first | with_reducible assumption | with_reducible apply cells_plain | with_reducible apply ends_plain | with_reducible apply cnt_plain | with_reducible apply memI_plain _ _ | with_reducible apply vw_plain | with_reducible apply nat_plain | with_reducible apply a_plain | with_reducible apply b_plain | with_reducible apply plain_map (fun _ => plain_int) | with_reducible apply plain_map (fun _ => plain_bool) | exact prx_Dq | fail); first | done | fail)) : p := h
theorem wvx_Dq {p : Prop} (h : p := by ((first | exact wk_undef | exact wk_int (by first | rfl | omega | (dsimp only; omega)) | exact wk_bool rfl | exact wk_ptr rfl (by first | decide | simp | omega) | exact wk_map rfl (by first | decide | simp | omega) | exact wk_sl rfl (by first | decide | simp | omega) (by first | rfl | omega | simp) (by first | omega | simp) (by first | omega | simp) | exact wk_own rfl (by first | decide | simp | omega) | exact wk_nil0 (by first | rfl | simp) | exact wk_slown rfl (by first | decide | omega | (simp; done)) (by first | omega | (simp; done)) (by first | rfl | omega | (simp; done) | (simp; omega)) | exact wk_plain hs plx_Dq | (with_reducible refine wk_fn ?_ ?_ <;> repeat' (first | with_reducible exact wkl_nil | with_reducible refine wkl_cons ?_ ?_ | exact wk_ptr rfl (by first | decide | simp | omega))) | (with_reducible refine wk_agg ?_; repeat' (first | with_reducible exact wkl_nil | with_reducible refine wkl_cons ?_ ?_ | exact wk_int (by first | rfl | omega | (dsimp only; omega)) | exact wk_bool rfl)) | exact wk_yld rfl (by first | decide | simp | omega) | (with_reducible refine wk_tup ?_; repeat' (first | with_reducible exact wkl_nil | with_reducible refine wkl_cons ?_ ?_ | exact wk_int (by first | rfl | omega | (dsimp only; omega)) | exact wk_bool rfl | exact wk_ptr rfl (by first | decide | simp | omega))) | fail); first | done | fail)) : p := h
theorem wkx_Dq {p : Prop} (h : p := by (refine weak_s (by exact oneOf_of rfl) (by exact subH_of rfl) (by intro hs; (repeat' ((try (conv => whnf)); first | with_reducible exact True.intro | with_reducible refine And.intro ?_ ?_ | (with_reducible refine WkX.mk ?_; first | exact wvx_Dq | fail)))) (by intro hs; (try dsimp only); (repeat' (first | with_reducible exact wko_nil | refine wko_tab hs (by first | decide | omega | simp) rfl rfl (by first | decide | omega | simp) rfl (by first | decide | omega | simp) ?_ | refine wko_maps hs (by first | decide | omega | simp) rfl rfl key_plain ?_ | refine wko_plain hs (by first | decide | omega | simp) rfl (by first | rfl) (by (first | exact ppx_Dq | fail | ((refine plain_app ?_ ?_) <;> (first | exact ppx_Dq | fail)))) ?_ | refine wko_cells (by first | decide | omega | simp) rfl (by repeat' (first | with_reducible exact wkl_nil | with_reducible refine wkl_cons ?_ ?_ | (first | exact wvx_Dq | fail))) ?_ | refine wko_loop (by first | decide | omega | simp) rfl (by ((try subst hF); (try subst hF2); exact wkl_sd (wkf_sget (by (repeat' ((try (conv => whnf)); first | with_reducible exact True.intro | with_reducible refine And.intro ?_ ?_ | (with_reducible refine WkX.mk ?_; first | exact wvx_Dq | fail))))))) ?_ | exact wko_nil))))) : p := h
theorem wx_Dqn {p q : Prop} (hq : q) (h : HidP q → p := by (intro hQz; ((repeat' ((try (conv => whnf)); first | (with_reducible first | refine run_cons ?_ | refine runq_cons ?_ | refine code_seq ?_ | refine code_reg ?_ | refine code_cond ?_ | refine run_nil ?_ | refine runq_nil ?_ | refine rund_op rfl ?_ | refine rund_nil ?_ | refine code_block ?_ | refine code_skip ?_ | refine code_exit ?_ | refine code_ret ?_ | refine code_range ?_ | refine rund_fast (by decide +kernel) ?_ | refine rund_slow (by decide +kernel) ?_ | refine br_tt ?_ | refine br_ff ?_ | refine br_n ?_ | refine br_and ?_ | refine br_or ?_ | refine br_t (by assumption) ?_ | refine br_f (by assumption) ?_ | refine eq_i64 (by omega) ?_ | refine el_tn ?_) | ((with_reducible refine br_dt ?_ ?_); focus omega) | ((with_reducible refine br_df ?_ ?_); focus omega) | ((with_reducible apply br_dq hQz) <;> (try intro hsp hQz)) | ((with_reducible refine ck_x ?_ ?_); focus (first | omega | rfl | assumption | decide | (simp only [List.length_map, List.length_cons, List.length_nil]; omega))) | (with_reducible first | refine eq_tn ?_ | refine eq_tn1 ?_ | refine eq_tn2 ?_ | refine eq_m1 ?_ | refine eq_m2 ?_ | refine eq_zm ?_ | refine eq_z ?_ | refine len_map ?_ | refine len_sl ?_ | refine len_nils ?_ | refine len_own' ?_ | refine len_isl ?_ | refine eq_u8 (by omega) ?_ | refine eq_u16 (by omega) ?_) | (with_reducible first | refine eq_rfl ?_ | refine ChkX.mk (by kernel_rfl) ?_ | refine code_d (by decide +kernel) ?_ | refine end_go rfl ?_) | refine cx_tab h2 rfl rfl rfl rfl rfl (by decide) rfl ?_ | refine cx_pureS h3 ?_ | refine dcx_pureS h3 ?_ | refine eq_of (by with_reducible assumption) ?_ | refine cx_tab h4 rfl rfl rfl rfl rfl (by decide) rfl ?_ | refine cx_pureS h5 ?_ | refine cx_tx h2 rfl rfl rfl rfl rfl rfl (by decide) rfl ?_ | refine cx_u h3 rfl (by decide) ?_ | refine cx_pureS hG ?_ | refine len_map ?_ | refine len_isl ?_ | refine el_of rfl rfl ?_ | refine del_own ?_ | refine del_own' rfl ?_ | refine as_go rfl ?_ | refine rd_go rfl ?_ | refine rg_end rfl ?_ | refine flat_ownX ?_ | refine EqLX.mk ?_ | ((with_reducible apply br_bq hQz) <;> (try intro hsp hQz)) | exact hQz.out)) <;> (try (conv => whnf))))) : p := h ⟨hq⟩
theorem wx_Dq {p q : Prop} (hq : q) (h : HidP q → p := by (intro hQz; ((repeat' ((try (conv => whnf)); first | (with_reducible first | refine run_cons ?_ | refine runq_cons ?_ | refine code_seq ?_ | refine code_reg ?_ | refine code_cond ?_ | refine run_nil ?_ | refine runq_nil ?_ | refine rund_op rfl ?_ | refine rund_nil ?_ | refine code_block ?_ | refine code_skip ?_ | refine code_exit ?_ | refine code_ret ?_ | refine code_range ?_ | refine rund_fast (by decide +kernel) ?_ | refine rund_slow (by decide +kernel) ?_ | refine br_tt ?_ | refine br_ff ?_ | refine br_n ?_ | refine br_and ?_ | refine br_or ?_ | refine br_t (by assumption) ?_ | refine br_f (by assumption) ?_ | refine eq_i64 (by omega) ?_ | refine el_tn ?_) | ((with_reducible refine br_dt ?_ ?_); focus omega) | ((with_reducible refine br_df ?_ ?_); focus omega) | ((with_reducible apply br_dq hQz) <;> (try intro hsp hQz)) | ((with_reducible refine ck_x ?_ ?_); focus (first | omega | rfl | assumption | decide | (simp only [List.length_map, List.length_cons, List.length_nil]; omega))) | (with_reducible first | refine eq_tn ?_ | refine eq_tn1 ?_ | refine eq_tn2 ?_ | refine eq_m1 ?_ | refine eq_m2 ?_ | refine eq_zm ?_ | refine eq_z ?_ | refine len_map ?_ | refine len_sl ?_ | refine len_nils ?_ | refine len_own' ?_ | refine len_isl ?_ | refine eq_u8 (by omega) ?_ | refine eq_u16 (by omega) ?_) | refine el_mapE (d := 0) nat1_len (by first | assumption | omega) (by with_reducible assumption) ?_ | (with_reducible first | refine eq_rfl ?_ | refine ChkX.mk (by kernel_rfl) ?_ | refine code_q rfl ?_ | refine code_d (by decide +kernel) ?_ | refine end_go rfl ?_) | refine len_map ?_ | refine len_isl ?_ | refine el_of rfl rfl ?_ | refine del_own ?_ | refine del_own' rfl ?_ | refine as_go rfl ?_ | refine rd_go rfl ?_ | refine rg_end rfl ?_ | refine flat_ownX ?_ | refine EqLX.mk ?_ | ((with_reducible apply br_bq hQz) <;> (try intro hsp hQz)) | exact hQz.out)) <;> (try (conv => whnf))))) : p := h ⟨hq⟩
structure Cl where
 w : Int
 v : Rw
 o : Int
 at_ : Int
 b : Int
def clA (x : Cl) : AV := .agg [.int .u8 x.w, .int .i64 x.v.1, .int .i64 x.v.2.1, .int .i64 x.v.2.2.1, .bool x.v.2.2.2, .int .i64 x.o, .int .i64 x.at_, .int .u8 x.b]
theorem plain_clA (x : Cl) : Plain (clA x) := plain_agg fun y hy => by
 simp only [List.mem_cons, List.not_mem_nil, or_false] at hy
 rcases hy with rfl | rfl | rfl | rfl | rfl | rfl | rfl | rfl <;> first | exact plain_int | exact plain_bool
def doN (L : List Vw) (t : TS) (s : Sy) (a b c d e g u r : Nat) : List (Nat × AObj) := rdN t s a b c d e g ++ [(u, .cells [.isl (L.map vwC)]), (r, .cells s.b)]
structure LocD (x : Cl) (L : List Vw) (t : TS) (s : Sy) (L' : List Vw) (t' : TS) (s' : Sy) : Prop where
 out : LocC Tryz.prog G0 10 [.ptr 0 0, .ptr 5 0, .ptr 6 0, .ptr 7 0, clA x] (doN L t s 0 1 2 3 4 5 6 7) 8 fun y h1 => y = .bool true ∧ h1 = ⟨doN L' t' s' 0 1 2 3 4 5 6 7, 8⟩
theorem end_do {top : Bool} {h : Hp} {N0 : Nat} {y : AV} {L : List Vw} {t : TS} {s : Sy} (hy : y = .bool true) (h0 : lk h.l 0 = some (.cells (tabC 1 4 t.C))) (h1 : lk h.l 1 = some (.cells [.sl 2 0 t.n t.n 7, .sl 3 0 t.m t.m 3, .int .i64 (t.S.fr : Nat)])) (h2 : lk h.l 2 = some (.cells (cellsB t.n t.V t.W t.V3 t.V4 t.S.L t.S.N t.S.P))) (h3 : lk h.l 3 = some (.cells (endsB t.m t.S.A t.S.B t.S.C))) (h4 : lk h.l 4 = some (.maps (t.E.map keyE))) (h5 : lk h.l 5 = some (.cells s.a)) (h6 : lk h.l 6 = some (.cells [.isl (L.map vwC)])) (h7 : lk h.l 7 = some (.cells s.b)) (hN0 : N0 ≤ 8 := by decide) :
  EndX top Tryz.prog N0 h y (fun r' h' => r' = .bool true ∧ h' = ⟨doN L t s 0 1 2 3 4 5 6 7, 8⟩) := by
 subst hy
 have hs : SubH (rn []) h ⟨doN L t s 0 1 2 3 4 5 6 7, 8⟩ := fun i o hi => by
  simp only [doN, rdN, List.cons_append, List.nil_append, lk] at hi
  show ∃ o', lk h.l i = some o'
  split at hi
  ·rename_i e; subst e; exact ⟨_, h0⟩
  ·split at hi
   ·rename_i e; subst e; exact ⟨_, h1⟩
   ·split at hi
    ·rename_i e; subst e; exact ⟨_, h2⟩
    ·split at hi
     ·rename_i e; subst e; exact ⟨_, h3⟩
     ·split at hi
      ·rename_i e; subst e; exact ⟨_, h4⟩
      ·split at hi
       ·rename_i e; subst e; exact ⟨_, h5⟩
       ·split at hi
        ·rename_i e; subst e; exact ⟨_, h6⟩
        ·split at hi
         ·rename_i e; subst e; exact ⟨_, h7⟩
         ·cases hi
 refine end_loc [] rfl hN0 (oneOf_of rfl) (wk_plain hs plain_bool) ?_ ⟨rfl, rfl⟩
 exact wko_tab hs (show 0 < 8 by decide) h0 rfl (show 1 < 8 by decide) rfl (show 4 < 8 by decide)
  (wko_cells (show 1 < 8 by decide) h1 (wkl_cons (wk_sl rfl (show 2 < 8 by decide) rfl (Nat.le_refl _) (Nat.le_refl _)) (wkl_cons (wk_sl rfl (show 3 < 8 by decide) rfl (Nat.le_refl _) (Nat.le_refl _)) (wkl_cons (wk_int rfl) wkl_nil)))
  (wko_plain hs (show 2 < 8 by decide) h2 rfl cells_plain (wko_plain hs (show 3 < 8 by decide) h3 rfl ends_plain (wko_maps hs (show 4 < 8 by decide) h4 rfl key_plain (wko_plain hs (show 5 < 8 by decide) h5 rfl a_plain
  (wko_plain hs (show 6 < 8 by decide) h6 rfl (fun x hx => by obtain rfl := List.mem_singleton.1 hx; exact plain_vs) (wko_plain hs (show 7 < 8 by decide) h7 rfl b_plain wko_nil)))))))
section
variable {L : List Vw} {t : TS} {s : Sy}
theorem do_unmap (h : TOk L t) (x : Cl) (hm : x.w.tmod 10 = 2) : ∃ L' t' s', TOk L' t' ∧ LocD x L t s L' t' s' := by
 obtain ⟨f, l, e, t', L', h1, h2, h3⟩ := both_Unmap h x.v.1 x.v.2.1
 refine ⟨L', t', s, h1, ⟨loc_x hmix b10 rfl ?_⟩⟩
 unfold stA at h3
 unfold c10
 unfold doN rdN clA
 (refine wx_Dqn ?_; repeat' (first | with_reducible refine And.intro ?_ ?_ | intro hsp))
 all_goals first | exact end_do rfl rfl rfl rfl rfl rfl rfl rfl rfl | (exfalso; simp at hsp; done) | exact end_do (congrArg AV.bool (by simp)) rfl rfl rfl rfl rfl rfl rfl rfl
theorem do_protect (h : TOk L t) (x : Cl) (hm : x.w.tmod 10 = 3) : ∃ L' t' s', TOk L' t' ∧ LocD x L t s L' t' s' := by
 obtain ⟨e, t', L', h1, h2, h3⟩ := both_Protect h x.v.1 x.v.2.1 x.v.2.2.2
 refine ⟨L', t', s, h1, ⟨loc_x hmix b10 rfl ?_⟩⟩
 unfold stA at h3
 unfold c10
 unfold doN rdN clA
 (refine wx_Dqn ?_; repeat' (first | with_reducible refine And.intro ?_ ?_ | intro hsp))
 all_goals first | exact end_do rfl rfl rfl rfl rfl rfl rfl rfl rfl | (exfalso; simp at hsp; done) | exact end_do (congrArg AV.bool (by simp)) rfl rfl rfl rfl rfl rfl rfl rfl
theorem do_fork (h : TOk L t) (x : Cl) (hm : x.w.tmod 10 = 5) : ∃ L' t' s', TOk L' t' ∧ LocD x L t s L' t' s' := by
 obtain ⟨n, e, t', L', h1, h2, h3⟩ := both_Fork h x.v.1 x.o
 refine ⟨L', t', s, h1, ⟨loc_x hmix b10 rfl ?_⟩⟩
 unfold stA at h3
 unfold c10
 unfold doN rdN clA
 (refine wx_Dqn ?_; repeat' (first | with_reducible refine And.intro ?_ ?_ | intro hsp))
 all_goals first | exact end_do rfl rfl rfl rfl rfl rfl rfl rfl rfl | (exfalso; simp at hsp; done) | exact end_do (congrArg AV.bool (by simp)) rfl rfl rfl rfl rfl rfl rfl rfl
theorem do_split (h : TOk L t) (x : Cl) (hm : x.w.tmod 10 = 6) : ∃ L' t' s', TOk L' t' ∧ LocD x L t s L' t' s' := by
 obtain ⟨e, t', L', h1, h2, h3⟩ := both_Split h x.v.1 x.v.2.1 x.v.2.2.1
 refine ⟨L', t', s, h1, ⟨loc_x hmix b10 rfl ?_⟩⟩
 unfold stA at h3
 unfold c10
 unfold doN rdN clA
 (refine wx_Dqn ?_; repeat' (first | with_reducible refine And.intro ?_ ?_ | intro hsp))
 all_goals first | exact end_do rfl rfl rfl rfl rfl rfl rfl rfl rfl | (exfalso; simp at hsp; done) | exact end_do (congrArg AV.bool (by simp)) rfl rfl rfl rfl rfl rfl rfl rfl
theorem do_map0 (h : TOk L t) (x : Cl) (hm : x.w.tmod 10 = 0) : ∃ L' t' s', TOk L' t' ∧ LocD x L t s L' t' s' := by
 obtain ⟨e, t', L', h1, h2, h3⟩ := both_Map h x.v
 refine ⟨L', t', s, h1, ⟨loc_x hmix b10 rfl ?_⟩⟩
 unfold rwA at h2 h3
 unfold stA at h3
 unfold c10
 unfold doN rdN clA
 (refine wx_Dqn ?_; repeat' (first | with_reducible refine And.intro ?_ ?_ | intro hsp))
 all_goals first | exact end_do rfl rfl rfl rfl rfl rfl rfl rfl rfl | (exfalso; simp at hsp; done) | exact end_do (congrArg AV.bool (by simp)) rfl rfl rfl rfl rfl rfl rfl rfl
theorem do_map1 (h : TOk L t) (x : Cl) (hm : x.w.tmod 10 = 1) : ∃ L' t' s', TOk L' t' ∧ LocD x L t s L' t' s' := by
 obtain ⟨e, t', L', h1, h2, h3⟩ := both_Map h x.v
 refine ⟨L', t', s, h1, ⟨loc_x hmix b10 rfl ?_⟩⟩
 unfold rwA at h2 h3
 unfold stA at h3
 unfold c10
 unfold doN rdN clA
 (refine wx_Dqn ?_; repeat' (first | with_reducible refine And.intro ?_ ?_ | intro hsp))
 all_goals first | exact end_do rfl rfl rfl rfl rfl rfl rfl rfl rfl | (exfalso; simp at hsp; done) | exact end_do (congrArg AV.bool (by simp)) rfl rfl rfl rfl rfl rfl rfl rfl
theorem do_find (h : TOk L t) (x : Cl) (hm : x.w.tmod 10 = 4) : ∃ L' t' s', TOk L' t' ∧ LocD x L t s L' t' s' := by
 obtain ⟨y, e, h2, h3⟩ := both_Find h x.v.1 x.v.2.1
 obtain ⟨n, g, h4, h5⟩ := both_Count h x.v.2.2.1
 refine ⟨L, t, s, h, ⟨loc_x hmix b10 rfl ?_⟩⟩
 unfold rwA at h2 h3
 unfold stA at h3 h5
 unfold c10
 unfold doN rdN clA
 (refine wx_Dqn ?_; repeat' (first | with_reducible refine And.intro ?_ ?_ | intro hsp))
 all_goals first | exact end_do rfl rfl rfl rfl rfl rfl rfl rfl rfl | (exfalso; simp at hsp; done) | exact end_do (congrArg AV.bool (by simp)) rfl rfl rfl rfl rfl rfl rfl rfl
theorem do_read (h : TOk L t) (x : Cl) (hm : x.w.tmod 10 = 8) : ∃ L' t' s', TOk L' t' ∧ LocD x L t s L' t' s' := by
 obtain ⟨b, e, h2, h3⟩ := both_Read (s := s) h x.v.1 x.at_
 refine ⟨L, t, s, h, ⟨loc_x hmix b10 rfl ?_⟩⟩
 unfold c10
 unfold doN rdN clA
 (refine wx_Dqn ?_; repeat' (first | with_reducible refine And.intro ?_ ?_ | intro hsp))
 all_goals first | exact end_do rfl rfl rfl rfl rfl rfl rfl rfl rfl | (exfalso; simp at hsp; done) | exact end_do (congrArg AV.bool (by simp)) rfl rfl rfl rfl rfl rfl rfl rfl
theorem do_write (h : TOk L t) (x : Cl) (hm : x.w.tmod 10 = 9) : ∃ L' t' s', TOk L' t' ∧ LocD x L t s L' t' s' := by
 obtain ⟨e, s', _, h2, h3⟩ := both_Write (s := s) h x.v.1 x.at_ x.b
 refine ⟨L, t, s', h, ⟨loc_x hmix b10 rfl ?_⟩⟩
 unfold c10
 unfold doN rdN clA
 (refine wx_Dqn ?_; repeat' (first | with_reducible refine And.intro ?_ ?_ | intro hsp))
 all_goals first | exact end_do rfl rfl rfl rfl rfl rfl rfl rfl rfl | (exfalso; simp at hsp; done) | exact end_do (congrArg AV.bool (by simp)) rfl rfl rfl rfl rfl rfl rfl rfl
theorem same_nat {G : List Nat} (hl : G.length ≤ 4000) : PureS 36 [.isl (G.map nat1), .isl (G.map nat1)] (.bool true) := by
 have hp : Plain (.isl (G.map nat1)) := plain_isl fun e he => by obtain ⟨n, _, rfl⟩ := List.mem_map.1 he; exact nat1_plain n
 refine PureS.mk (pure_x hmix b36 plainG ⟨hp, hp, trivial⟩ plain_bool rfl ?_)
 unfold c36
 (refine wx_Dq ?_; repeat' (first | with_reducible refine And.intro ?_ ?_ | intro hsp))
 (refine loop_x [0, 1] (fun (i : Nat) => [(5, .int .i64 (i : Nat))]) (fun (i : Nat) => ⟨[], 0⟩) (fun (i : Nat) => i ≤ G.length) (fun (i : Nat) => G.length - i) (0) [] rfl (fun _ => by first | exact Nat.zero_le _ | (dsimp only; omega)) ?_ (by ((try (conv => whnf)); exact wkx_Dq)) ?_)
 ·exact Nat.zero_le _
 intro i hi
 by_cases hia : i < G.length
 ·generalize hx : nth 0 G i = u at *
  (refine wx_Dq ?_; repeat' (first | with_reducible refine And.intro ?_ ?_ | intro hsp))
  all_goals first | exact next_x (i + 1) [] (by (try dsimp only); omega) (by first | omega | (dsimp only; omega)) rfl (by exact wkx_Dq) | (exfalso; simp at hsp; done)
 ·(refine wx_Dq ?_; repeat' (first | with_reducible refine And.intro ?_ ?_ | intro hsp))
  all_goals exact end_bool rfl
theorem same_nil : PureS 36 [.nils, .nils] (.bool true) := by
 refine PureS.mk (pure_x hmix b36 plainG ⟨plain_nils, plain_nils, trivial⟩ plain_bool rfl ?_)
 unfold c36
 (refine wx_Dq ?_; repeat' (first | with_reducible refine And.intro ?_ ?_ | intro hsp))
 (refine loop_x [0, 1] (fun (i : Nat) => [(5, .int .i64 (i : Nat))]) (fun (i : Nat) => ⟨[], 0⟩) (fun (i : Nat) => i = 0) (fun (i : Nat) => 0 - i) (0) [] rfl (fun _ => by first | exact Nat.zero_le _ | (dsimp only; omega)) ?_ (by ((try (conv => whnf)); exact wkx_Dq)) ?_)
 ·rfl
 rintro i rfl
 (refine wx_Dq ?_; repeat' (first | with_reducible refine And.intro ?_ ?_ | intro hsp))
 all_goals exact end_bool rfl
theorem do_drop (h : TOk L t) (x : Cl) (hm : x.w.tmod 10 = 7) : ∃ L' t' s', TOk L' t' ∧ LocD x L t s L' t' s' := by
 obtain ⟨G, e, t', L', hGl, h1, h2, h3⟩ := both_Drop h x.v.1
 have hG : PureS 36 [(G.elim .nils fun G => .isl (G.map nat1)), (G.elim .nils fun G => .isl (G.map nat1))] (.bool true) := by
  cases G with
  | none => exact same_nil
  | some G => exact same_nat (hGl G rfl)
 refine ⟨L', t', s, h1, ⟨loc_x hmix b10 rfl ?_⟩⟩
 unfold stA at h3
 unfold c10
 unfold doN rdN clA
 generalize (G.elim AV.nils fun G => .isl (G.map nat1)) = g at *
 (refine wx_Dqn ?_; repeat' (first | with_reducible refine And.intro ?_ ?_ | intro hsp))
 all_goals first | exact end_do rfl rfl rfl rfl rfl rfl rfl rfl rfl | (exfalso; simp at hsp; done) | exact end_do (congrArg AV.bool (by simp)) rfl rfl rfl rfl rfl rfl rfl rfl
end
end Go.Proofs.YtccbhbdbmmkcdaaGreat.Sh
