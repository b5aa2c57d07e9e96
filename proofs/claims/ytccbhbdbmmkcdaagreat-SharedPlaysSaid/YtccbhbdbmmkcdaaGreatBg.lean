/-
 The document's answer: a view is put in, or taken out.
-/
import Derived.Test.YtccbhbdbmmkcdaaGreatBf
set_option linter.unusedSimpArgs false
set_option linter.unusedVariables false
namespace Go.Am
section
variable {P : Program} {l : List (Nat × AObj)} {nx sz bytes d n m : Nat} {x : AV} {cs src : List AV} {rd : List Nat} {k : AV → Up → List Nat → Prop}
theorem app_0 (hs : srcV (lk l) sz x = some ([], 0, rd)) (hd : lk l d = some (.cells cs)) (hc : cs.length = n * sz) (hk : k (.sl d 0 n n sz) [(d, some (.cells cs))] (d :: rd)) : AppX l nx sz bytes (.sl d 0 n n sz) x k := by
 have e := appV_in (nx := nx) (bytes := bytes) (off := 0) (cp := n) (len := n) hs hd (Nat.le_refl _) (by rw [Nat.add_zero]; omega)
 rw [Nat.add_zero, show over cs (0 + n * sz) [] = cs from rfl] at e
 exact app_some e hk
theorem app_m (hs : srcV (lk l) sz x = some (src, m, rd)) (hd : lk l d = some (.cells cs)) (hc : cs.length = n * sz) (h0 : 0 < m) (hb : (n + m) * bytes ≤ 140737488355328 ∧ n + m ≤ 1000000000000) (hk : k (.sl nx 0 (n + m) (n + m) sz) [(d, none), (nx, some (.cells (cs ++ src)))] (d :: rd)) : AppX l nx sz bytes (.sl d 0 n n sz) x k := app_some (appV_sl hs hd hc h0 hb) hk
end
end Go.Am
namespace Go.Proofs.YtccbhbdbmmkcdaaGreat.Sh
open Go Go.Am Go.Pol
theorem plx_Bg {p : Prop} (h : p := by ((first | assumption | exact plain_int | exact plain_bool | exact plain_undef | exact plain_nils | exact plain_nilp | exact plain_nilf | exact plain_str | with_reducible apply plain_int | with_reducible apply plain_bool | with_reducible apply plain_vwC | with_reducible apply plain_vs | with_reducible apply plain_vsA | with_reducible apply plain_vwE | fail); first | done | fail)) : p := h
theorem prx_Bg {p : Prop} (h : p := by (((repeat' (first | exact plain_all0 | refine plain_all2 ?_ ?_ | exact plain_int | first | assumption | exact plain_int | exact plain_bool | exact plain_undef | exact plain_nils | exact plain_nilp | exact plain_nilf | exact plain_str | with_reducible apply plain_int | with_reducible apply plain_bool | with_reducible apply plain_vwC | with_reducible apply plain_vs | with_reducible apply plain_vsA | with_reducible apply plain_vwE))); first | done | fail)) : p := h
theorem ppx_Bg {p : Prop} (h : p := by ((first | with_reducible assumption | with_reducible apply vw_plain | with_reducible apply plain_flat vw_plain' | with_reducible apply plain_map (fun _ => plain_int) | with_reducible apply plain_map (fun _ => plain_bool) | exact prx_Bg | fail); first | done | fail)) : p := h
theorem wvx_Bg {p : Prop} (h : p := by ((first | exact wk_undef | exact wk_int (by first | rfl | omega | (dsimp only; omega)) | exact wk_bool rfl | exact wk_ptr rfl (by first | decide | simp | omega) | exact wk_sl rfl (by first | decide | simp | omega) (by first | rfl | omega | simp) (by first | omega | simp) (by first | omega | simp) | exact wk_own rfl (by first | decide | simp | omega) | exact wk_nil0 (by first | rfl | simp) | exact wk_slown rfl (by first | decide | omega | (simp; done)) (by first | omega | (simp; done)) (by first | rfl | omega | (simp; done) | (simp; omega)) | exact wk_plain hs plx_Bg | (with_reducible refine wk_fn ?_ ?_ <;> repeat' (first | with_reducible exact wkl_nil | with_reducible refine wkl_cons ?_ ?_ | exact wk_ptr rfl (by first | decide | simp | omega))) | (with_reducible refine wk_agg ?_; repeat' (first | with_reducible exact wkl_nil | with_reducible refine wkl_cons ?_ ?_ | exact wk_int (by first | rfl | omega | (dsimp only; omega)) | exact wk_bool rfl)) | exact wk_yld rfl (by first | decide | simp | omega) | fail); first | done | fail)) : p := h
theorem wkx_Bg {p : Prop} (h : p := by (refine weak_s (by exact oneOf_of rfl) (by exact subH_of rfl) (by intro hs; (repeat' ((try (conv => whnf)); first | with_reducible exact True.intro | with_reducible refine And.intro ?_ ?_ | (with_reducible refine WkX.mk ?_; first | exact wvx_Bg | fail)))) (by intro hs; (try dsimp only); (repeat' (first | with_reducible exact wko_nil | refine wko_plain hs (by first | decide | omega | simp) rfl (by first | rfl) (by (first | exact ppx_Bg | fail | ((refine plain_app ?_ ?_) <;> (first | exact ppx_Bg | fail)))) ?_ | refine wko_cells (by first | decide | omega | simp) rfl (by repeat' (first | with_reducible exact wkl_nil | with_reducible refine wkl_cons ?_ ?_ | (first | exact wvx_Bg | fail))) ?_ | refine wko_loop (by first | decide | omega | simp) rfl (by ((try subst hF); (try subst hF2); exact wkl_sd (wkf_sget (by (repeat' ((try (conv => whnf)); first | with_reducible exact True.intro | with_reducible refine And.intro ?_ ?_ | (with_reducible refine WkX.mk ?_; first | exact wvx_Bg | fail))))))) ?_ | exact wko_nil))))) : p := h
theorem wx_Bgn {p q : Prop} (hq : q) (h : HidP q → p := by (intro hQz; ((repeat' ((try (conv => whnf)); first | (with_reducible first | refine run_cons ?_ | refine runq_cons ?_ | refine code_seq ?_ | refine code_reg ?_ | refine code_cond ?_ | refine run_nil ?_ | refine runq_nil ?_ | refine rund_op rfl ?_ | refine rund_nil ?_ | refine code_block ?_ | refine code_skip ?_ | refine code_exit ?_ | refine code_ret ?_ | refine code_range ?_ | refine rund_fast (by decide +kernel) ?_ | refine rund_slow (by decide +kernel) ?_ | refine br_tt ?_ | refine br_ff ?_ | refine br_n ?_ | refine br_and ?_ | refine br_or ?_ | refine br_t (by assumption) ?_ | refine br_f (by assumption) ?_ | refine eq_i64 (by omega) ?_ | refine el_tn ?_) | ((with_reducible refine br_dt ?_ ?_); focus omega) | ((with_reducible refine br_df ?_ ?_); focus omega) | ((with_reducible apply br_dq hQz) <;> (try intro hsp hQz)) | ((with_reducible refine ck_x ?_ ?_); focus (first | omega | rfl | assumption | decide | (simp only [List.length_map, List.length_cons, List.length_nil]; omega) | (exact ⟨Nat.zero_le _, by simp, Nat.le_refl _, .inl rfl⟩) | (exact ⟨by simp, by simp, Nat.le_refl _, .inr (by first | (simp [vwC]; done) | fail)⟩))) | (with_reducible first | refine eq_tn ?_ | refine eq_tn1 ?_ | refine eq_tn2 ?_ | refine eq_m1 ?_ | refine eq_m2 ?_ | refine eq_zm ?_ | refine eq_z ?_ | refine len_map ?_ | refine len_sl ?_ | refine len_nils ?_ | refine len_own' ?_ | refine len_isl ?_ | refine eq_u8 (by omega) ?_ | refine eq_u16 (by omega) ?_) | refine el_mapE (d := dV) vw_len (by first | assumption | omega) (by with_reducible assumption) ?_ | refine app_m (src_of rfl (by first | (simp; done) | fail)) rfl (by first | (simp [flat_len vw_len]; done) | (simp [flat_len vw_len]; omega) | fail) (by first | decide | omega) ⟨by first | decide | omega, by first | decide | omega⟩ ?_ | refine app_m (src_isl X (by first | (rw [← List.map_take, ← List.map_drop]; congr 1; simp; done) | exact dr_all.trans (congrArg _ List.drop_left) | exact dr_all.trans (congrArg _ drop_mid) | (simp; done) | fail)) rfl (by first | (simp [flat_len vw_len]; done) | (simp [flat_len vw_len]; omega) | fail) (by first | decide | omega) ⟨by first | decide | omega, by first | decide | omega⟩ ?_ | refine app_m (src_isl Y (by first | (rw [← List.map_take, ← List.map_drop]; congr 1; simp; done) | exact dr_all.trans (congrArg _ List.drop_left) | exact dr_all.trans (congrArg _ drop_mid) | (simp; done) | fail)) rfl (by first | (simp [flat_len vw_len]; done) | (simp [flat_len vw_len]; omega) | fail) (by first | decide | omega) ⟨by first | decide | omega, by first | decide | omega⟩ ?_ | refine app_m (src_isl L (by first | (rw [← List.map_take, ← List.map_drop]; congr 1; simp; done) | exact dr_all.trans (congrArg _ List.drop_left) | exact dr_all.trans (congrArg _ drop_mid) | (simp; done) | fail)) rfl (by first | (simp [flat_len vw_len]; done) | (simp [flat_len vw_len]; omega) | fail) (by first | decide | omega) ⟨by first | decide | omega, by first | decide | omega⟩ ?_ | refine app_0 rfl rfl (by first | (simp [flat_len vw_len]; done) | (simp [flat_len vw_len]; omega) | fail) ?_ | refine app_0 (src_isl [] (by first | (rw [← List.map_take, ← List.map_drop]; congr 1; simp; done) | exact dr_all.trans (congrArg _ List.drop_left) | exact dr_all.trans (congrArg _ drop_mid) | (simp; done) | fail)) rfl (by first | (simp [flat_len vw_len]; done) | (simp [flat_len vw_len]; omega) | fail) ?_ | refine eq_of (by with_reducible assumption) ?_ | (with_reducible first | refine eq_rfl ?_ | refine ChkX.mk (by kernel_rfl) ?_ | refine code_d (by decide +kernel) ?_ | refine end_go rfl ?_) | refine dcx_pureS (by assumption) ?_ | refine qcx_pureS (by assumption) ?_ | refine cx_pureS (by assumption) ?_ | refine len_map ?_ | refine len_isl ?_ | refine el_of rfl rfl ?_ | refine del_own ?_ | refine del_own' rfl ?_ | refine as_go rfl ?_ | refine rd_go rfl ?_ | refine rg_end rfl ?_ | refine flat_ownX ?_ | refine EqLX.mk ?_ | ((with_reducible apply br_bq hQz) <;> (try intro hsp hQz)) | exact hQz.out)) <;> (try (conv => whnf))))) : p := h ⟨hq⟩
theorem src_isl {at_ : At} {els : List (List AV)} (l : List Vw) (e : els = l.map vwC) : srcV at_ 4 (.isl els) = some (flat vwC l, l.length, []) := by subst e; exact src_map vw_len
theorem drop_mid {s : Vw} {X Y : List Vw} : List.drop (X.length + 1) (X ++ s :: Y) = Y := by
 rw [show X ++ s :: Y = (X ++ [s]) ++ Y by simp, List.drop_append_of_le_length (by simp), List.drop_of_length_le (by simp)]; rfl
theorem dr_all {L : List Vw} {k : Nat} : List.drop k (List.take (List.map vwC L).length (List.map vwC L)) = (L.drop k).map vwC := by rw [List.take_length, List.map_drop]
theorem wk_new {h : Hp} {d n : Nat} {k : Nat} {σ : Nat → Nat} {cs : List AV} (l : List Vw) (hi : lk h.l d = some (.cells cs)) (hc : cs = flat vwC l) (hl : n = l.length) : WkV Tryz.prog σ h ⟨[], k⟩ (.sl d 0 n n 4) (.isl (l.map vwC)) := by
 subst hc; exact wk_frzS vw_len vw_plain' hi hl
theorem k_beforeV (u w : Vw) (b : Bool) (h : b = decide (bef u w)) : PureS 97 [.agg [.int .i64 (u.1 : Nat), .int .i64 (u.2.1 : Nat), .int .i64 (u.2.2.1 : Nat), .bool u.2.2.2], .agg [.int .i64 (w.1 : Nat), .int .i64 (w.2.1 : Nat), .int .i64 (w.2.2.1 : Nat), .bool w.2.2.2]] (.bool b) :=
 k_before (rwV u) (rwV w) b (h.trans (decide_eq_decide.2 (by unfold bef befW rwV; dsimp only; omega)))
section
variable {L X Y : List Vw} {v : Vw}
set_option maxHeartbeats 1600000 in
theorem q_put (hL : L = X ++ Y) (hX : ∀ u ∈ X, bef u v) (hY : ∀ u Y', Y = u :: Y' → ¬ bef u v) (hl : L.length ≤ 4000) : PureS 71 [.agg [.isl (L.map vwC)], .agg (vwC v)] (.agg [.isl ((X ++ v :: Y).map vwC)]) := by
 refine PureS.mk (pure_x hmix b71 plainG ⟨plain_vsA, plain_vwC, trivial⟩ plain_vsA rfl ?_)
 unfold c71
 have hle : X.length ≤ L.length := by rw [hL]; simp
 have hll : L.length = X.length + Y.length := by rw [hL, List.length_append]
 show CodeX _ _ _ _ _ _ _ _ _
 (refine wx_Tc ?_; repeat' (first | with_reducible refine And.intro ?_ ?_ | intro hsp))
 (refine loop_x [2, 3, 4] (fun (i : Nat) => [(5, .int .i64 (i : Nat))]) (fun (i : Nat) => ⟨[(0, .cells [.isl (L.map vwC)]), (1, .cells (vwC v)), (2, .cells [.nils])], 3⟩) (fun (i : Nat) => i ≤ X.length) (fun (i : Nat) => X.length - i) (0) [] rfl (fun _ => by first | exact Nat.zero_le _ | (dsimp only; omega)) ?_ (by ((try (conv => whnf)); exact wkx_Bg)) ?_)
 ·exact Nat.zero_le _
 intro i hi
 by_cases hia : i < X.length
 ·have hil : i < L.length := by omega
  have hx : nth dV L i = nth dV X i := by rw [hL, nth_lo hia]
  have hne := hX _ (nth_mem (d := dV) hia)
  rw [← hx] at hne
  have kb := k_beforeV (nth dV L i) v true (decide_eq_true hne).symm
  clear hx
  generalize hx : nth dV L i = u at *
  (refine wx_Bgn ?_; repeat' (first | with_reducible refine And.intro ?_ ?_ | intro hsp))
  all_goals exact next_x (i + 1) [] (by (try dsimp only); omega) (by first | omega | (dsimp only; omega)) rfl (by exact wkx_Bg)
 ·obtain rfl : i = X.length := by omega
  clear hi hle
  by_cases hX0 : X = []
  ·subst hX0
   rw [List.nil_append] at hL
   subst hL
   by_cases hY0 : L = []
   ·subst hY0
    (refine wx_Bgn ?_; repeat' (first | with_reducible refine And.intro ?_ ?_ | intro hsp))
    all_goals exact end_wk (wk_agg (wkl_cons (wk_new ([] ++ v :: []) rfl (by simp [flat, vwC]) (by simp; try omega)) wkl_nil))
   ·have hYp : 0 < L.length := List.length_pos_iff.2 hY0
    have hY1 : ∀ (h : 0 < L.length), ¬ bef (nth dV L 0) v := fun h => hY _ (L.drop 1) (by rw [nth_get h]; cases L with
     | nil => exact absurd rfl hY0
     | cons a r => rfl)
    have hlt : ([] : List Vw).length < L.length := hYp
    have kb := k_beforeV (nth dV L ([] : List Vw).length) v false (decide_eq_false (hY1 hYp)).symm
    clear hY1
    generalize hx : nth dV L ([] : List Vw).length = u at *
    (refine wx_Bgn ?_; repeat' (first | with_reducible refine And.intro ?_ ?_ | intro hsp))
    all_goals exact end_wk (wk_agg (wkl_cons (wk_new ([] ++ v :: L) rfl (by simp [flat, vwC]) (by simp; try omega)) wkl_nil))
  ·have hXp : 0 < X.length := List.length_pos_iff.2 hX0
   by_cases hY0 : Y = []
   ·subst hY0
    obtain rfl : L = X := by rw [hL, List.append_nil]
    (refine wx_Bgn ?_; repeat' (first | with_reducible refine And.intro ?_ ?_ | intro hsp))
    all_goals exact end_wk (wk_agg (wkl_cons (wk_new (L ++ v :: []) rfl (by simp [flat, vwC]) (by simp; try omega)) wkl_nil))
   ·have hYp : 0 < Y.length := List.length_pos_iff.2 hY0
    have hlt : X.length < L.length := by omega
    have hx0 : nth dV L X.length = nth dV Y 0 := by rw [hL]; unfold nth; rw [List.getElem?_append_right (Nat.le_refl _), Nat.sub_self]
    have hY1 : ¬ bef (nth dV Y 0) v := hY _ (Y.drop 1) (by rw [nth_get hYp]; cases Y with
     | nil => exact absurd rfl hY0
     | cons a r => rfl)
    have kb := k_beforeV (nth dV L X.length) v false (decide_eq_false (by rw [hx0]; exact hY1)).symm
    clear hx0 hY1
    generalize hx : nth dV L X.length = u at *
    subst hL
    rw [List.length_append] at hl hll hlt
    (refine wx_Bgn ?_; repeat' (first | with_reducible refine And.intro ?_ ?_ | intro hsp))
    all_goals exact end_wk (wk_agg (wkl_cons (wk_new (X ++ v :: Y) rfl (by simp [flat, vwC]) (by simp; try omega)) wkl_nil))
set_option maxHeartbeats 1600000 in
theorem q_cut (hL : L = X ++ v :: Y) (hl : L.length ≤ 4000) : PureS 62 [.agg [.isl (L.map vwC)], .int .i64 (X.length : Nat)] (.agg [.isl ((X ++ Y).map vwC)]) := by
 refine PureS.mk (pure_x hmix b62 plainG ⟨plain_vsA, plain_int, trivial⟩ plain_vsA rfl ?_)
 unfold c62
 subst hL
 simp only [List.length_append, List.length_cons] at hl
 have hw : IntKind.i64.wrap ((X.length : Int) + 1) = ((X.length + 1 : Nat) : Int) := by rw [IntWalk.i64_in _ (by omega)]; omega
 have hXY : (List.map vwC (X ++ v :: Y)).length = X.length + (Y.length + 1) := by simp
 by_cases hX0 : X = []
 ·subst hX0
  by_cases hY0 : Y = []
  ·subst hY0
   (refine wx_Bgn ?_; repeat' (first | with_reducible refine And.intro ?_ ?_ | intro hsp))
   all_goals exact end_wk (wk_agg (wkl_cons (wk_new ([]) rfl (by simp [flat, vwC]) (by simp; try omega)) wkl_nil))
  ·have hYp : 0 < Y.length := List.length_pos_iff.2 hY0
   (refine wx_Bgn ?_; repeat' (first | with_reducible refine And.intro ?_ ?_ | intro hsp))
   all_goals exact end_wk (wk_agg (wkl_cons (wk_new ([] ++ Y) rfl (by simp [flat, vwC]) (by simp; try omega)) wkl_nil))
 ·have hXp : 0 < X.length := List.length_pos_iff.2 hX0
  by_cases hY0 : Y = []
  ·subst hY0
   (refine wx_Bgn ?_; repeat' (first | with_reducible refine And.intro ?_ ?_ | intro hsp))
   all_goals exact end_wk (wk_agg (wkl_cons (wk_new (X ++ []) rfl (by simp [flat, vwC]) (by simp; try omega)) wkl_nil))
  ·have hYp : 0 < Y.length := List.length_pos_iff.2 hY0
   (refine wx_Bgn ?_; repeat' (first | with_reducible refine And.intro ?_ ?_ | intro hsp))
   all_goals exact end_wk (wk_agg (wkl_cons (wk_new (X ++ Y) rfl (by simp [flat, vwC]) (by simp; try omega)) wkl_nil))
end
end Go.Proofs.YtccbhbdbmmkcdaaGreat.Sh
