/-
 The law's systems: any frames.
-/
import Derived.Test.YtccbhbdbmmkcdaaGreatDq
set_option linter.unusedSimpArgs false
set_option linter.unusedVariables false
namespace Go.Pol
open Go.Am
def opn (s : Sy) (f : Int) : Sy := ((s.chg f 1 0 1 0).2.chg f 1 1 2 2).2
def opnS (fs : List Int) : Nat → Sy
 | 0 => Sy.new []
 | k + 1 => opn (opnS fs k) (nth 0 fs k)
theorem good_opn {fs : List Int} : ∀ k, GoodS (opnS fs k)
 | 0 => good_new rfl
 | k + 1 => good_chg (good_chg (good_opn k) (by omega)) (by omega)
end Go.Pol
namespace Go.Proofs.YtccbhbdbmmkcdaaGreat.Sh
open Go Go.Am Go.Pol
theorem plx_Dr {p : Prop} (h : p := by ((first | assumption | exact plain_int | exact plain_bool | exact plain_undef | exact plain_nils | exact plain_nilp | exact plain_nilf | exact plain_str | with_reducible apply plain_int | with_reducible apply plain_bool | with_reducible apply plain_vwC | with_reducible apply plain_vwE | with_reducible apply plain_vs | with_reducible apply plain_stA | with_reducible apply plain_is | fail); first | done | fail)) : p := h
theorem prx_Dr {p : Prop} (h : p := by (((repeat' (first | exact plain_all0 | refine plain_all2 ?_ ?_ | exact plain_int | first | assumption | exact plain_int | exact plain_bool | exact plain_undef | exact plain_nils | exact plain_nilp | exact plain_nilf | exact plain_str | with_reducible apply plain_int | with_reducible apply plain_bool | with_reducible apply plain_vwC | with_reducible apply plain_vwE | with_reducible apply plain_vs | with_reducible apply plain_stA | with_reducible apply plain_is))); first | done | fail)) : p := h
theorem ppx_Dr {p : Prop} (h : p := by ((first | with_reducible assumption | with_reducible apply cells_plain | with_reducible apply ends_plain | with_reducible apply cnt_plain | with_reducible apply memI_plain _ _ | with_reducible apply vw_plain | with_reducible apply nat_plain | with_reducible apply a_plain | with_reducible apply b_plain | with_reducible apply plain_map (fun _ => plain_int) | with_reducible apply plain_map (fun _ => plain_bool) | exact prx_Dr | fail); first | done | fail)) : p := h
theorem wvx_Dr {p : Prop} (h : p := by ((first | exact wk_undef | exact wk_int (by first | rfl | omega | (dsimp only; omega)) | exact wk_bool rfl | exact wk_ptr rfl (by first | decide | simp | omega) | exact wk_sl rfl (by first | decide | simp | omega) (by first | rfl | omega | simp) (by first | omega | simp) (by first | omega | simp) | exact wk_own rfl (by first | decide | simp | omega) | exact wk_nil0 (by first | rfl | simp) | exact wk_slown rfl (by first | decide | omega | (simp; done)) (by first | omega | (simp; done)) (by first | rfl | omega | (simp; done) | (simp; omega)) | exact wk_plain hs plx_Dr | (with_reducible refine wk_fn ?_ ?_ <;> repeat' (first | with_reducible exact wkl_nil | with_reducible refine wkl_cons ?_ ?_ | exact wk_ptr rfl (by first | decide | simp | omega))) | (with_reducible refine wk_agg ?_; repeat' (first | with_reducible exact wkl_nil | with_reducible refine wkl_cons ?_ ?_ | exact wk_int (by first | rfl | omega | (dsimp only; omega)) | exact wk_bool rfl)) | exact wk_yld rfl (by first | decide | simp | omega) | fail); first | done | fail)) : p := h
theorem wkx_Dr {p : Prop} (h : p := by (refine weak_s (by exact oneOf_of rfl) (by exact subH_of rfl) (by intro hs; (repeat' ((try (conv => whnf)); first | with_reducible exact True.intro | with_reducible refine And.intro ?_ ?_ | (with_reducible refine WkX.mk ?_; first | exact wvx_Dr | fail)))) (by intro hs; (try dsimp only); (repeat' (first | with_reducible exact wko_nil | refine wko_plain hs (by first | decide | omega | simp) rfl (by first | rfl) (by (first | exact ppx_Dr | fail | ((refine plain_app ?_ ?_) <;> (first | exact ppx_Dr | fail)))) ?_ | refine wko_cells (by first | decide | omega | simp) rfl (by repeat' (first | with_reducible exact wkl_nil | with_reducible refine wkl_cons ?_ ?_ | (first | exact wvx_Dr | fail))) ?_ | refine wko_loop (by first | decide | omega | simp) rfl (by ((try subst hF); (try subst hF2); exact wkl_sd (wkf_sget (by (repeat' ((try (conv => whnf)); first | with_reducible exact True.intro | with_reducible refine And.intro ?_ ?_ | (with_reducible refine WkX.mk ?_; first | exact wvx_Dr | fail))))))) ?_ | exact wko_nil))))) : p := h
theorem wx_Dr {p q : Prop} (hq : q) (h : HidP q → p := by (intro hQz; ((repeat' ((try (conv => whnf)); first | (with_reducible first | refine run_cons ?_ | refine runq_cons ?_ | refine code_seq ?_ | refine code_reg ?_ | refine code_cond ?_ | refine run_nil ?_ | refine runq_nil ?_ | refine rund_op rfl ?_ | refine rund_nil ?_ | refine code_block ?_ | refine code_skip ?_ | refine code_exit ?_ | refine code_ret ?_ | refine code_range ?_ | refine rund_fast (by decide +kernel) ?_ | refine rund_slow (by decide +kernel) ?_ | refine br_tt ?_ | refine br_ff ?_ | refine br_n ?_ | refine br_and ?_ | refine br_or ?_ | refine br_t (by assumption) ?_ | refine br_f (by assumption) ?_ | refine eq_i64 (by omega) ?_ | refine el_tn ?_) | ((with_reducible refine br_dt ?_ ?_); focus omega) | ((with_reducible refine br_df ?_ ?_); focus omega) | ((with_reducible apply br_dq hQz) <;> (try intro hsp hQz)) | ((with_reducible refine ck_x ?_ ?_); focus (first | omega | rfl | assumption | decide | (simp only [List.length_map, List.length_cons, List.length_nil]; omega))) | (with_reducible first | refine eq_tn ?_ | refine eq_tn1 ?_ | refine eq_tn2 ?_ | refine eq_m1 ?_ | refine eq_m2 ?_ | refine eq_zm ?_ | refine eq_z ?_ | refine len_map ?_ | refine len_sl ?_ | refine len_nils ?_ | refine len_own' ?_ | refine len_isl ?_ | refine eq_u8 (by omega) ?_ | refine eq_u16 (by omega) ?_) | refine el_mapE (d := 0) int1_len (by first | assumption | omega) (by with_reducible assumption) ?_ | (with_reducible first | refine eq_rfl ?_ | refine ChkX.mk (by kernel_rfl) ?_ | refine code_q rfl ?_ | refine code_d (by decide +kernel) ?_ | refine end_go rfl ?_) | refine cx_locN (by assumption) ?_ | refine cx_locS (by assumption) rfl (by decide) ?_ | refine len_map ?_ | refine len_isl ?_ | refine el_of rfl rfl ?_ | refine del_own ?_ | refine del_own' rfl ?_ | refine as_go rfl ?_ | refine rd_go rfl ?_ | refine rg_end rfl ?_ | refine flat_ownX ?_ | refine EqLX.mk ?_ | ((with_reducible apply br_bq hQz) <;> (try intro hsp hQz)) | exact hQz.out)) <;> (try (conv => whnf))))) : p := h ⟨hq⟩
structure LocNP (f : Nat) (avs : List AV) (ds : List AV) : Prop where
 out : LocC Tryz.prog G0 f avs [] 0 fun x h => x = .ptr 0 0 ∧ h = ⟨[(0, .cells ds)], 1⟩
 pd : ∀ x ∈ ds, Plain x
 pa : ∀ x ∈ avs, Plain x
theorem end_np {top : Bool} {h : Hp} {x : AV} {i : Nat} {ds : List AV} (hx : x = .ptr i 0) (h0 : lk h.l i = some (.cells ds)) (pd : ∀ x ∈ ds, Plain x) : EndX top Tryz.prog 0 h x (fun r' h' => r' = .ptr 0 0 ∧ h' = ⟨[(0, .cells ds)], 1⟩) := by
 subst hx
 have hs : SubH (rn [(0, i)]) h ⟨[(0, .cells ds)], 1⟩ := fun j o hj => by
  simp only [lk] at hj
  split at hj
  ·rename_i e; subst e; exact ⟨_, h0⟩
  ·cases hj
 exact end_loc [(0, i)] rfl (by decide) (oneOf_of rfl) (wk_ptr (i := 0) rfl (show 0 < 1 by decide)) (wko_plain hs (show 0 < 1 by decide) h0 rfl pd wko_nil) ⟨rfl, rfl⟩
theorem cx_np {f nx : Nat} {avs : List AV} {ds : List AV} {l : List (Nat × AObj)} {K : AV → Hp → Prop} (hc : LocNP f avs ds) (hk : K (.ptr nx 0) ⟨(nx, .cells ds) :: l, nx + 1⟩) : CallX Tryz.prog G0 (.fn f [] []) avs ⟨l, nx⟩ K := by
 have k0 : back [] nx 0 nx := rfl
 exact cx_loc (r' := .ptr nx 0) (l1 := [(nx, .cells ds)]) [] hc.out plainG rfl .nil (by simpa using rnl_plain hc.pa) (by simp) (rn_ptr k0)
  (.cons k0 (rnl_plain hc.pd) .nil) (filtK_nil hk)
section
variable {fs : List Int}
theorem l_systemZ (hl : fs.length ≤ 40) : LocNP 5 [.isl (fs.map int1)] (opnS fs fs.length).a := by
 refine LocNP.mk (loc_x hmix b5 rfl ?_) a_plain fun x hx => by obtain rfl := List.mem_singleton.1 hx; exact plain_is
 have hnew := n_new
 unfold c5
 (refine wx_Dr ?_; repeat' (first | with_reducible refine And.intro ?_ ?_ | intro hsp))
 (refine loop_x [0] (fun (i : Nat) => [(3, .ptr 0 0), (5, .int .i64 (i : Nat))]) (fun (i : Nat) => ⟨[(0, .cells (opnS fs i).a)], 1⟩) (fun (i : Nat) => i ≤ fs.length) (fun (i : Nat) => fs.length - i) (0) [] rfl (fun _ => by first | exact Nat.zero_le _ | (dsimp only; omega)) ?_ (by ((try (conv => whnf)); exact wkx_Dr)) ?_)
 ·exact Nat.zero_le _
 intro i hi
 by_cases hil : i < fs.length
 ·have c1 := p_reserve (a := nth 0 fs i) (n := 1) (good_opn (fs := fs) i)
  have g2 : GoodS ((opnS fs i).chg (nth 0 fs i) 1 0 1 0).2 := good_chg (good_opn i) (by omega)
  have c2 := p_commit (a := nth 0 fs i) (n := 1) g2
  have hS : (((opnS fs i).chg (nth 0 fs i) 1 0 1 0).2.chg (nth 0 fs i) 1 1 2 2).2 = opnS fs (i + 1) := rfl
  rw [hS] at c2
  generalize hx : nth 0 fs i = f at *
  generalize opnS fs i = s at *
  generalize s.chg f 1 0 1 0 = w1 at *
  obtain ⟨e1, s1⟩ := w1
  (refine wx_Dr ?_; repeat' (first | with_reducible refine And.intro ?_ ?_ | intro hsp))
  all_goals exact next_x (i + 1) [] (by (try dsimp only); omega) (by first | omega | (dsimp only; omega)) rfl (by exact wkx_Dr)
 ·obtain rfl : i = fs.length := by omega
  (refine wx_Dr ?_; repeat' (first | with_reducible refine And.intro ?_ ?_ | intro hsp))
  exact end_np rfl rfl a_plain
end
end Go.Proofs.YtccbhbdbmmkcdaaGreat.Sh
