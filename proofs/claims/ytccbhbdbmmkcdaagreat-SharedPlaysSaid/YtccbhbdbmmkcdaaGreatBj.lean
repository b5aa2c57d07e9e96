/-
 The document's answer: Drop.
-/
import Derived.Test.YtccbhbdbmmkcdaaGreatBi
import Derived.Test.YtccbhbdbmmkcdaaGreatYp
import Derived.Test.YtccbhbdbmmkcdaaGreatAmWn
set_option linter.unusedSimpArgs false
set_option linter.unusedVariables false
namespace Go.Pol
open Go.Am
theorem noA_nil (a : Nat) : noA a [] = [] := rfl
theorem noA_s {L : List Vw} {i a : Nat} (hi : i < L.length) : noA a (L.take (i + 1)) = if (nth dV L i).1 = a then noA a (L.take i) else noA a (L.take i) ++ [nth dV L i] := by
 rw [take_nth (d := dV) hi]; unfold noA; rw [List.filter_append]
 by_cases h : (nth dV L i).1 = a <;> simp [h]
theorem cnt_pos {L : List Vw} {f : Nat} : 0 < cntF L f ↔ ∃ v ∈ L, v.2.2.1 = f := by
 unfold cntF
 rw [List.length_pos_iff_exists_mem]
 constructor
 ·rintro ⟨v, hv⟩; rw [List.mem_filter, decide_eq_true_eq] at hv; exact ⟨v, hv⟩
 ·rintro ⟨v, hv, he⟩; exact ⟨v, List.mem_filter.2 ⟨hv, decide_eq_true he⟩⟩
theorem gone_iff (L : List Vw) (a f : Nat) : goneB L (ofA a L) (ofA a L).length f = true ↔ 0 < cntF L f ∧ cntF (noA a L) f = 0 := by
 unfold goneB
 rw [less_all, List.take_length, Bool.and_eq_true, decide_eq_true_eq, decide_eq_true_eq]
 constructor
 ·rintro ⟨h1, h2⟩
  obtain ⟨v, h3, h4⟩ := List.mem_map.1 h1
  exact ⟨cnt_pos.2 ⟨v, (mem_ofA.1 h3).1, h4⟩, h2⟩
 ·rintro ⟨h1, h2⟩
  obtain ⟨v, h3, h4⟩ := cnt_pos.1 h1
  refine ⟨?_, h2⟩
  by_cases hv : v.1 = a
  ·exact List.mem_map.2 ⟨v, mem_ofA.2 ⟨h3, hv⟩, h4⟩
  ·have : 0 < cntF (noA a L) f := cnt_pos.2 ⟨v, by unfold noA; exact List.mem_filter.2 ⟨h3, decide_eq_true hv⟩, h4⟩
   omega
end Go.Pol
namespace Go.Proofs.YtccbhbdbmmkcdaaGreat.Sh
open Go Go.Am Go.Pol
theorem plx_Bj {p : Prop} (h : p := by ((first | assumption | exact plain_int | exact plain_bool | exact plain_undef | exact plain_nils | exact plain_nilp | exact plain_nilf | exact plain_str | with_reducible apply plain_int | with_reducible apply plain_bool | with_reducible apply plain_vwC | with_reducible apply plain_vwE | with_reducible apply plain_vs | with_reducible apply plain_vsA | with_reducible apply plain_t2 | with_reducible apply plain_ste | with_reducible apply plain_s3 | with_reducible apply plain_sn | fail); first | done | fail)) : p := h
theorem prx_Bj {p : Prop} (h : p := by (((repeat' (first | exact plain_all0 | refine plain_all2 ?_ ?_ | exact plain_int | first | assumption | exact plain_int | exact plain_bool | exact plain_undef | exact plain_nils | exact plain_nilp | exact plain_nilf | exact plain_str | with_reducible apply plain_int | with_reducible apply plain_bool | with_reducible apply plain_vwC | with_reducible apply plain_vwE | with_reducible apply plain_vs | with_reducible apply plain_vsA | with_reducible apply plain_t2 | with_reducible apply plain_ste | with_reducible apply plain_s3 | with_reducible apply plain_sn))); first | done | fail)) : p := h
theorem ppx_Bj {p : Prop} (h : p := by ((first | with_reducible assumption | with_reducible apply vw_plain | with_reducible apply plain_flat vw_plain' | with_reducible apply plain_flat nat1_plain | with_reducible apply plain_map (fun _ => plain_int) | with_reducible apply plain_map (fun _ => plain_bool) | exact prx_Bj | fail); first | done | fail)) : p := h
theorem wvx_Bj {p : Prop} (h : p := by ((first | exact wk_undef | exact wk_int (by first | rfl | omega | (dsimp only; omega)) | exact wk_bool rfl | exact wk_ptr rfl (by first | decide | simp | omega) | exact wk_sl rfl (by first | decide | simp | omega) (by first | rfl | omega | simp) (by first | omega | simp) (by first | omega | simp) | exact wk_frzW (fun hz => by simp [lk, lk_ownE hz]) not3 hs | exact wk_own rfl (by first | decide | simp | omega) | exact wk_nil0 (by first | rfl | simp) | exact wk_slown rfl (by first | decide | omega | (simp; done)) (by first | omega | (simp; done)) (by first | rfl | omega | (simp; done) | (simp; omega)) | exact wk_plain hs plx_Bj | (with_reducible refine wk_fn ?_ ?_ <;> repeat' (first | with_reducible exact wkl_nil | with_reducible refine wkl_cons ?_ ?_ | exact wk_ptr rfl (by first | decide | simp | omega))) | (with_reducible refine wk_agg ?_; repeat' (first | with_reducible exact wkl_nil | with_reducible refine wkl_cons ?_ ?_ | exact wk_int (by first | rfl | omega | (dsimp only; omega)) | exact wk_bool rfl)) | exact wk_yld rfl (by first | decide | simp | omega) | fail); first | done | fail)) : p := h
theorem wkx_Bj {p : Prop} (h : p := by (refine weak_o (by rfl) (by rfl) (fun hz => by first | exact absurd rfl hz | (simp [lk, lk_ownE hz]; done) | exact lk_ownE hz | rfl) (by rfl) (vw_plain') (by intro hs; (repeat' ((try (conv => whnf)); first | with_reducible exact True.intro | with_reducible refine And.intro ?_ ?_ | (with_reducible refine WkX.mk ?_; first | exact wvx_Bj | fail)))) (by intro hs; (repeat' (first | with_reducible exact wko_nil | refine wko_plain hs (by first | decide | omega | simp) rfl (by first | rfl) (by (first | exact ppx_Bj | fail | ((refine plain_app ?_ ?_) <;> (first | exact ppx_Bj | fail)))) ?_ | refine wko_cells (by first | decide | omega | simp) rfl (by repeat' (first | with_reducible exact wkl_nil | with_reducible refine wkl_cons ?_ ?_ | (first | exact wvx_Bj | fail))) ?_ | refine wko_loop (by first | decide | omega | simp) rfl (by ((try subst hF); (try subst hF2); exact wkl_sd (wkf_sget (by (repeat' ((try (conv => whnf)); first | with_reducible exact True.intro | with_reducible refine And.intro ?_ ?_ | (with_reducible refine WkX.mk ?_; first | exact wvx_Bj | fail))))))) ?_ | exact wko_nil))))) : p := h
theorem wkx_Bj1 {p : Prop} (h : p := by (refine weak_o (by rfl) (by rfl) (fun hz => by first | exact absurd rfl hz | (simp [lk, lk_ownE hz]; done) | exact lk_ownE hz | rfl) (by rfl) (nat1_plain) (by intro hs; (repeat' ((try (conv => whnf)); first | with_reducible exact True.intro | with_reducible refine And.intro ?_ ?_ | (with_reducible refine WkX.mk ?_; first | exact wvx_Bj | fail)))) (by intro hs; (repeat' (first | with_reducible exact wko_nil | refine wko_plain hs (by first | decide | omega | simp) rfl (by first | rfl) (by (first | exact ppx_Bj | fail | ((refine plain_app ?_ ?_) <;> (first | exact ppx_Bj | fail)))) ?_ | refine wko_cells (by first | decide | omega | simp) rfl (by repeat' (first | with_reducible exact wkl_nil | with_reducible refine wkl_cons ?_ ?_ | (first | exact wvx_Bj | fail))) ?_ | refine wko_loop (by first | decide | omega | simp) rfl (by ((try subst hF); (try subst hF2); exact wkl_sd (wkf_sget (by (repeat' ((try (conv => whnf)); first | with_reducible exact True.intro | with_reducible refine And.intro ?_ ?_ | (with_reducible refine WkX.mk ?_; first | exact wvx_Bj | fail))))))) ?_ | exact wko_nil))))) : p := h
theorem wx_Bjn {p q : Prop} (hq : q) (h : HidP q → p := by (intro hQz; ((repeat' ((try (conv => whnf)); first | (with_reducible first | refine run_cons ?_ | refine runq_cons ?_ | refine code_seq ?_ | refine code_reg ?_ | refine code_cond ?_ | refine run_nil ?_ | refine runq_nil ?_ | refine rund_op rfl ?_ | refine rund_nil ?_ | refine code_block ?_ | refine code_skip ?_ | refine code_exit ?_ | refine code_ret ?_ | refine code_range ?_ | refine rund_fast (by decide +kernel) ?_ | refine rund_slow (by decide +kernel) ?_ | refine br_tt ?_ | refine br_ff ?_ | refine br_n ?_ | refine br_and ?_ | refine br_or ?_ | refine br_t (by assumption) ?_ | refine br_f (by assumption) ?_ | refine eq_i64 (by omega) ?_ | refine el_tn ?_) | ((with_reducible refine br_dt ?_ ?_); focus omega) | ((with_reducible refine br_df ?_ ?_); focus omega) | ((with_reducible apply br_dq hQz) <;> (try intro hsp hQz)) | ((with_reducible refine ck_x ?_ ?_); focus (first | omega | rfl | assumption | decide | (simp only [List.length_map, List.length_cons, List.length_nil]; omega))) | (with_reducible first | refine eq_tn ?_ | refine eq_tn1 ?_ | refine eq_tn2 ?_ | refine eq_m1 ?_ | refine eq_m2 ?_ | refine eq_zm ?_ | refine eq_z ?_ | refine len_map ?_ | refine len_sl ?_ | refine len_nils ?_ | refine len_own' ?_ | refine len_isl ?_ | refine eq_u8 (by omega) ?_ | refine eq_u16 (by omega) ?_) | refine el_mapE (d := dV) vw_len (by first | assumption | omega) (by with_reducible assumption) ?_ | (with_reducible first | refine eq_rfl ?_ | refine ChkX.mk (by kernel_rfl) ?_ | refine code_d (by decide +kernel) ?_ | refine end_go rfl ?_) | refine apps_own (f := vwC) (l2 := [u]) vw_len (src_of rfl (by first | rfl | (simp; done) | (simp [*]; done))) (fun hz => by first | (simp [lk, lk_own, lk_ownS hz, lk_ownE hz]; done) | rfl) (fun hz => by first | (simp [lk, lk_own, lk_ownO, lk_tN hz, lk_ownN hz]; done) | rfl) (by first | rfl | (simp [flat, vwC]; done) | (simp [flat, vwC, *]; done)) (by decide) ⟨by omega, by omega⟩ rfl ?_ | ((with_reducible apply appx_q hQz); intro hQa hQb; refine appx_own (f := vwC) (l2 := [u]) vw_len (src_of rfl (by first | rfl | (simp; done) | (simp [*]; done))) (fun hz => by first | (simp [lk, lk_own, lk_ownS hz, lk_ownE hz]; done) | rfl) (by first | rfl | (simp [flat, vwC]; done) | (simp [flat, vwC, *]; done)) (by decide) ⟨by omega, by omega⟩ ?_ ?_ <;> intro hzz <;> first | (have hQz := HidP.mk (hQa.out hzz)) | (have hQz := HidP.mk (hQb.out hzz))) | refine len_map ?_ | refine len_isl ?_ | refine el_of rfl rfl ?_ | refine del_own ?_ | refine del_own' rfl ?_ | refine as_go rfl ?_ | refine rd_go rfl ?_ | refine rg_end rfl ?_ | refine flat_ownX ?_ | refine EqLX.mk ?_ | ((with_reducible apply br_bq hQz) <;> (try intro hsp hQz)) | exact hQz.out)) <;> (try (conv => whnf))))) : p := h ⟨hq⟩
theorem wx_Bj {p q : Prop} (hq : q) (h : HidP q → p := by (intro hQz; ((repeat' ((try (conv => whnf)); first | (with_reducible first | refine run_cons ?_ | refine runq_cons ?_ | refine code_seq ?_ | refine code_reg ?_ | refine code_cond ?_ | refine run_nil ?_ | refine runq_nil ?_ | refine rund_op rfl ?_ | refine rund_nil ?_ | refine code_block ?_ | refine code_skip ?_ | refine code_exit ?_ | refine code_ret ?_ | refine code_range ?_ | refine rund_fast (by decide +kernel) ?_ | refine rund_slow (by decide +kernel) ?_ | refine br_tt ?_ | refine br_ff ?_ | refine br_n ?_ | refine br_and ?_ | refine br_or ?_ | refine br_t (by assumption) ?_ | refine br_f (by assumption) ?_ | refine eq_i64 (by omega) ?_ | refine el_tn ?_) | ((with_reducible refine br_dt ?_ ?_); focus omega) | ((with_reducible refine br_df ?_ ?_); focus omega) | ((with_reducible apply br_dq hQz) <;> (try intro hsp hQz)) | ((with_reducible refine ck_x ?_ ?_); focus (first | omega | rfl | assumption | decide | (simp only [List.length_map, List.length_cons, List.length_nil]; omega))) | (with_reducible first | refine eq_tn ?_ | refine eq_tn1 ?_ | refine eq_tn2 ?_ | refine eq_m1 ?_ | refine eq_m2 ?_ | refine eq_zm ?_ | refine eq_z ?_ | refine len_map ?_ | refine len_sl ?_ | refine len_nils ?_ | refine len_own' ?_ | refine len_isl ?_ | refine eq_u8 (by omega) ?_ | refine eq_u16 (by omega) ?_) | (with_reducible first | refine eq_rfl ?_ | refine ChkX.mk (by kernel_rfl) ?_ | refine code_q rfl ?_ | refine code_d (by decide +kernel) ?_ | refine end_go rfl ?_) | refine dcx_pureS (by assumption) ?_ | refine qcx_pureS (by assumption) ?_ | refine cx_pureS (by assumption) ?_ | refine apps_own (f := nat1) (l2 := [f]) nat1_len (src_of rfl rfl) (fun hz => by first | (simp [lk, lk_ownE hz]; done) | exact lk_ownE hz) (fun hz => by first | (simp [lk, lk_ownN hz]; done) | exact lk_ownN hz) rfl (by decide) ⟨by omega, by omega⟩ rfl ?_ | (refine appx_own (f := nat1) (l2 := [f]) nat1_len (src_of rfl rfl) (fun hz => by first | (simp [lk, lk_ownE hz]; done) | exact lk_ownE hz) rfl (by decide) ⟨by omega, by omega⟩ ?_ ?_ <;> intro hzz) | (refine cx_in hmix b69 rfl ?_; unfold c69) | (refine cx_in hmix b67 rfl ?_; unfold c67) | refine len_map ?_ | refine len_isl ?_ | refine el_of rfl rfl ?_ | refine del_own ?_ | refine del_own' rfl ?_ | refine as_go rfl ?_ | refine rd_go rfl ?_ | refine rg_end rfl ?_ | refine flat_ownX ?_ | refine EqLX.mk ?_ | ((with_reducible apply br_bq hQz) <;> (try intro hsp hQz)) | exact hQz.out)) <;> (try (conv => whnf))))) : p := h ⟨hq⟩
theorem plain_sn {L : List Vw} {G : List Nat} {e : Int} : Plain (.tup [.agg [.isl (L.map vwC)], .isl (G.map nat1), .int .i64 e]) := plain_tup fun x hx => by
 simp only [List.mem_cons, List.not_mem_nil, or_false] at hx
 rcases hx with rfl | rfl | rfl
 ·exact plain_vsA
 ·exact plain_ns
 ·exact plain_int
theorem plain_snn {L : List Vw} {e : Int} : Plain (.tup [.agg [.isl (L.map vwC)], .nils, .int .i64 e]) := plain_tup fun x hx => by
 simp only [List.mem_cons, List.not_mem_nil, or_false] at hx
 rcases hx with rfl | rfl | rfl
 ·exact plain_vsA
 ·exact plain_nils
 ·exact plain_int
theorem not3 {x y z : AObj} : ∀ j o, lk (Hp.l ⟨[(0, x), (1, y), (2, z)] ++ ownH 4 nat1 [], 5⟩) j = some o → rn [] j ≠ 3 := fun j o hj => by
 show j ≠ 3
 rw [ownH_z rfl] at hj
 simp only [List.append_nil, lk] at hj
 repeat' split at hj
 all_goals first | omega | cases hj
section
variable {L : List Vw}
theorem q_Drop_no (a : Int) (hn : ¬ inR 64 a) : PureS 35 [.agg [.isl (L.map vwC)], .int .i64 a] (.tup [.agg [.isl (L.map vwC)], .nils, .int .i64 7]) := by
 refine PureS.mk (pure_x hmix b35 plainG ⟨plain_vsA, plain_int, trivial⟩ plain_snn rfl ?_)
 unfold c35
 unfold inR at hn
 (refine wx_Bj ?_; repeat' (first | with_reducible refine And.intro ?_ ?_ | intro hsp))
 all_goals first | exact end_plain rfl plain_snn | (exfalso; omega)
set_option maxHeartbeats 1600000 in
theorem q_Drop {a : Nat} (ha : a < 64) (hl : L.length ≤ 2000) : PureS 35 [.agg [.isl (L.map vwC)], .int .i64 (a : Nat)] (.tup [.agg [.isl ((noA a L).map vwC)], .isl ((goneL L a).map nat1), .int .i64 0]) := by
 refine PureS.mk (pure_x hmix b35 plainG ⟨plain_vsA, plain_int, trivial⟩ plain_sn rfl ?_)
 unfold c35
 (refine wx_Bj ?_; repeat' (first | with_reducible refine And.intro ?_ ?_ | intro hsp))
 (refine loop_x [1, 2, 4, 7] (fun (i : Nat) => [(8, .int .i64 (i : Nat))]) (fun (i : Nat) => ⟨[(0, .cells [.isl (L.map vwC)]), (1, .cells [.nils]), (2, .cells [ownV 3 4 (noA a (L.take i)).length])] ++ ownH 3 vwC (noA a (L.take i)), 4⟩) (fun (i : Nat) => i ≤ L.length) (fun (i : Nat) => L.length - i) (0) [] rfl (fun _ => by first | exact Nat.zero_le _ | (dsimp only; omega)) ?_ (by ((try (conv => whnf)); (rw [List.take_zero, noA_nil]); exact wkx_Bj)) ?_)
 ·exact Nat.zero_le _
 intro i hi
 have hnl : (noA a (L.take i)).length ≤ i := Nat.le_trans (List.length_filter_le ..) (by rw [List.length_take]; omega)
 by_cases hil : i < L.length
 ·have hs := noA_s (a := a) hil
  generalize hx : nth dV L i = u at *
  by_cases hu : u.1 = a
  ·rw [if_pos hu] at hs
   (refine wx_Bjn ?_; repeat' (first | with_reducible refine And.intro ?_ ?_ | intro hsp))
   all_goals exact next_x (i + 1) [] (by (try dsimp only); omega) (by first | omega | (dsimp only; omega)) rfl (by ((try dsimp only); rw [hs]); exact wkx_Bj)
  ·rw [if_neg hu] at hs
   (refine wx_Bjn ?_; repeat' (first | with_reducible refine And.intro ?_ ?_ | intro hsp))
   all_goals exact next_x (i + 1) [(3, 12)] (by (try dsimp only); omega) (by first | omega | (dsimp only; omega)) rfl (by ((try dsimp only); rw [hs]); exact wkx_Bj)
 ·obtain rfl : i = L.length := by omega
  rw [List.take_length] at hnl ⊢
  (refine wx_Bj ?_; repeat' (first | with_reducible refine And.intro ?_ ?_ | intro hsp))
  have hg := gone_iff L a
  have hgoal : goneL L a = goneU (goneB L (ofA a L) (ofA a L).length) 1024 := rfl
  rw [hgoal]
  generalize goneB L (ofA a L) (ofA a L).length = g at *
  (refine loop_x [2, 4, 7] (fun (f : Nat) => [(9, ownV 4 1 (goneU g f).length), (10, .int .i64 (f : Nat))]) (fun (f : Nat) => ⟨[(0, .cells [.isl (L.map vwC)]), (1, .cells [.nils]), (2, .cells [.isl ((noA a L).map vwC)])] ++ ownH 4 nat1 (goneU g f), 5⟩) (fun (f : Nat) => f ≤ 1024) (fun (f : Nat) => 1024 - f) (0) [] rfl (fun _ => by first | exact Nat.zero_le _ | (dsimp only; omega)) ?_ (by ((try (conv => whnf)); (rw [goneU_0]); exact wkx_Bj1)) ?_)
  ·exact Nat.zero_le _
  intro f hf
  have hgf := goneU_le g f
  by_cases hf2 : f < 1024
  ·have n1 := q_count (L := L) (f : Nat) (by omega)
   have n2 := q_count (L := noA a L) (f : Nat) (by omega)
   rw [cntI_nat] at n1 n2
   have hgs := goneU_s g f
   have hgi := hg f
   generalize cntF L f = x1 at *
   generalize cntF (noA a L) f = x2 at *
   cases hb : g f
   ·rw [hb, if_neg (by simp)] at hgs
    rw [hb] at hgi
    have hno : ¬ (0 < x1 ∧ x2 = 0) := fun h => by have := hgi.2 h; cases this
    (refine wx_Bj ?_; repeat' (first | with_reducible refine And.intro ?_ ?_ | intro hsp))
    all_goals first | exact next_x (f + 1) [] (by (try dsimp only); omega) (by first | omega | (dsimp only; omega)) rfl (by ((try dsimp only); rw [hgs]); exact wkx_Bj1) | (exfalso; omega)
   ·rw [hb, if_pos rfl] at hgs
    rw [hb] at hgi
    have hyes := hgi.1 rfl
    (refine wx_Bj ?_; repeat' (first | with_reducible refine And.intro ?_ ?_ | intro hsp))
    all_goals first | exact next_x (f + 1) [(4, 6)] (by (try dsimp only); omega) (by first | omega | (dsimp only; omega)) rfl (by ((try dsimp only); rw [hgs]); exact wkx_Bj1) | (exfalso; omega)
  ·obtain rfl : f = 1024 := by omega
   (refine wx_Bj ?_; repeat' (first | with_reducible refine And.intro ?_ ?_ | intro hsp))
   exact end_wk (wk_tup (wkl_cons (wk_plain subH_nil plain_vsA) (wkl_cons (wk_frzO nat1_len nat1_plain fun hz => by simp [lk, lk_ownE hz]) (wkl_cons (wk_int rfl) wkl_nil))))
end
end Go.Proofs.YtccbhbdbmmkcdaaGreat.Sh
