/-
 SharedPlays: whatever the frames and the calls, the law returns true.
-/
import Derived.Test.YtccbhbdbmmkcdaaGreatDr
import Derived.Test.YtccbhbdbmmkcdaaGreatYr
set_option linter.unusedSimpArgs false
set_option linter.unusedVariables false
namespace Go.Proofs.YtccbhbdbmmkcdaaGreat.Sh
open Go Go.Am Go.Pol
theorem plx_Ds {p : Prop} (h : p := by ((first | assumption | exact plain_int | exact plain_bool | exact plain_undef | exact plain_nils | exact plain_nilp | exact plain_nilf | exact plain_str | with_reducible apply plain_int | with_reducible apply plain_bool | with_reducible apply plain_vwC | with_reducible apply plain_vwE | with_reducible apply plain_vs | with_reducible apply plain_stA | with_reducible apply plain_is | with_reducible apply plain_cls | fail); first | done | fail)) : p := h
theorem prx_Ds {p : Prop} (h : p := by (((repeat' (first | exact plain_all0 | refine plain_all2 ?_ ?_ | exact plain_int | first | assumption | exact plain_int | exact plain_bool | exact plain_undef | exact plain_nils | exact plain_nilp | exact plain_nilf | exact plain_str | with_reducible apply plain_int | with_reducible apply plain_bool | with_reducible apply plain_vwC | with_reducible apply plain_vwE | with_reducible apply plain_vs | with_reducible apply plain_stA | with_reducible apply plain_is | with_reducible apply plain_cls))); first | done | fail)) : p := h
theorem ppx_Ds {p : Prop} (h : p := by ((first | with_reducible assumption | with_reducible apply cells_plain | with_reducible apply ends_plain | with_reducible apply cnt_plain | with_reducible apply memI_plain _ _ | with_reducible apply vw_plain | with_reducible apply nat_plain | with_reducible apply a_plain | with_reducible apply b_plain | with_reducible apply u_plain | with_reducible apply plain_map (fun _ => plain_int) | with_reducible apply plain_map (fun _ => plain_bool) | exact prx_Ds | fail); first | done | fail)) : p := h
theorem wvx_Ds {p : Prop} (h : p := by ((first | exact wk_undef | exact wk_int (by first | rfl | omega | (dsimp only; omega)) | exact wk_bool rfl | exact wk_ptr rfl (by first | decide | simp | omega) | exact wk_map rfl (by first | decide | simp | omega) | exact wk_sl rfl (by first | decide | simp | omega) (by first | rfl | omega | simp) (by first | omega | simp) (by first | omega | simp) | exact wk_nils | exact wk_own rfl (by first | decide | simp | omega) | exact wk_nil0 (by first | rfl | simp) | exact wk_slown rfl (by first | decide | omega | (simp; done)) (by first | omega | (simp; done)) (by first | rfl | omega | (simp; done) | (simp; omega)) | exact wk_plain hs plx_Ds | (with_reducible refine wk_fn ?_ ?_ <;> repeat' (first | with_reducible exact wkl_nil | with_reducible refine wkl_cons ?_ ?_ | exact wk_ptr rfl (by first | decide | simp | omega))) | (with_reducible refine wk_agg ?_; repeat' (first | with_reducible exact wkl_nil | with_reducible refine wkl_cons ?_ ?_ | exact wk_int (by first | rfl | omega | (dsimp only; omega)) | exact wk_bool rfl)) | exact wk_yld rfl (by first | decide | simp | omega) | (with_reducible refine wk_tup ?_; repeat' (first | with_reducible exact wkl_nil | with_reducible refine wkl_cons ?_ ?_ | exact wk_int (by first | rfl | omega | (dsimp only; omega)) | exact wk_bool rfl | exact wk_ptr rfl (by first | decide | simp | omega))) | fail); first | done | fail)) : p := h
theorem wkx_Ds {p : Prop} (h : p := by (refine weak_s (by exact oneOf_of rfl) (by exact subH_of rfl) (by intro hs; (repeat' ((try (conv => whnf)); first | with_reducible exact True.intro | with_reducible refine And.intro ?_ ?_ | (with_reducible refine WkX.mk ?_; first | exact wvx_Ds | fail)))) (by intro hs; (try dsimp only); (repeat' (first | with_reducible exact wko_nil | refine wko_tab hs (by first | decide | omega | simp) rfl rfl (by first | decide | omega | simp) rfl (by first | decide | omega | simp) ?_ | refine wko_maps hs (by first | decide | omega | simp) rfl rfl key_plain ?_ | refine wko_plain hs (by first | decide | omega | simp) rfl (by first | rfl) (by (first | exact ppx_Ds | fail | ((refine plain_app ?_ ?_) <;> (first | exact ppx_Ds | fail)))) ?_ | refine wko_cells (by first | decide | omega | simp) rfl (by repeat' (first | with_reducible exact wkl_nil | with_reducible refine wkl_cons ?_ ?_ | (first | exact wvx_Ds | fail))) ?_ | refine wko_loop (by first | decide | omega | simp) rfl (by ((try subst hF); (try subst hF2); exact wkl_sd (wkf_sget (by (repeat' ((try (conv => whnf)); first | with_reducible exact True.intro | with_reducible refine And.intro ?_ ?_ | (with_reducible refine WkX.mk ?_; first | exact wvx_Ds | fail))))))) ?_ | exact wko_nil))))) : p := h
theorem wx_Ds {p q : Prop} (hq : q) (h : HidP q → p := by (intro hQz; ((repeat' ((try (conv => whnf)); first | (with_reducible first | refine run_cons ?_ | refine runq_cons ?_ | refine code_seq ?_ | refine code_reg ?_ | refine code_cond ?_ | refine run_nil ?_ | refine runq_nil ?_ | refine rund_op rfl ?_ | refine rund_nil ?_ | refine code_block ?_ | refine code_skip ?_ | refine code_exit ?_ | refine code_ret ?_ | refine code_range ?_ | refine rund_fast (by decide +kernel) ?_ | refine rund_slow (by decide +kernel) ?_ | refine br_tt ?_ | refine br_ff ?_ | refine br_n ?_ | refine br_and ?_ | refine br_or ?_ | refine br_t (by assumption) ?_ | refine br_f (by assumption) ?_ | refine eq_i64 (by omega) ?_ | refine el_tn ?_) | ((with_reducible refine br_dt ?_ ?_); focus omega) | ((with_reducible refine br_df ?_ ?_); focus omega) | ((with_reducible apply br_dq hQz) <;> (try intro hsp hQz)) | ((with_reducible refine ck_x ?_ ?_); focus (first | omega | rfl | assumption | decide | (simp only [List.length_map, List.length_cons, List.length_nil]; omega))) | (with_reducible first | refine eq_tn ?_ | refine eq_tn1 ?_ | refine eq_tn2 ?_ | refine eq_m1 ?_ | refine eq_m2 ?_ | refine eq_zm ?_ | refine eq_z ?_ | refine len_map ?_ | refine len_sl ?_ | refine len_nils ?_ | refine len_own' ?_ | refine len_isl ?_ | refine eq_u8 (by omega) ?_ | refine eq_u16 (by omega) ?_) | refine el_mapE (d := 0) int1_len (by first | assumption | omega) (by with_reducible assumption) ?_ | refine el_mapE (d := dC) clE_len (by first | assumption | omega) (by with_reducible assumption) ?_ | (with_reducible first | refine eq_rfl ?_ | refine ChkX.mk (by kernel_rfl) ?_ | refine code_q rfl ?_ | refine code_d (by decide +kernel) ?_ | refine end_go rfl ?_) | refine cx_pureS (by assumption) ?_ | refine cx_np (by assumption) ?_ | refine cx_NT (by assumption) ?_ | refine cx_locN (by assumption) ?_ | refine cx_locS (by assumption) rfl (by decide) ?_ | refine cx_do (by assumption) rfl rfl rfl rfl rfl rfl rfl rfl (by decide) rfl ?_ | refine len_map ?_ | refine len_isl ?_ | refine el_of rfl rfl ?_ | refine del_own ?_ | refine del_own' rfl ?_ | refine as_go rfl ?_ | refine rd_go rfl ?_ | refine rg_end rfl ?_ | refine flat_ownX ?_ | refine EqLX.mk ?_ | ((with_reducible apply br_bq hQz) <;> (try intro hsp hQz)) | exact hQz.out)) <;> (try (conv => whnf))))) : p := h ⟨hq⟩
theorem wx_Dsn {p q : Prop} (hq : q) (h : HidP q → p := by (intro hQz; ((repeat' ((try (conv => whnf)); first | (with_reducible first | refine run_cons ?_ | refine runq_cons ?_ | refine code_seq ?_ | refine code_reg ?_ | refine code_cond ?_ | refine run_nil ?_ | refine runq_nil ?_ | refine rund_op rfl ?_ | refine rund_nil ?_ | refine code_block ?_ | refine code_skip ?_ | refine code_exit ?_ | refine code_ret ?_ | refine code_range ?_ | refine rund_fast (by decide +kernel) ?_ | refine rund_slow (by decide +kernel) ?_ | refine br_tt ?_ | refine br_ff ?_ | refine br_n ?_ | refine br_and ?_ | refine br_or ?_ | refine br_t (by assumption) ?_ | refine br_f (by assumption) ?_ | refine eq_i64 (by omega) ?_ | refine el_tn ?_) | ((with_reducible refine br_dt ?_ ?_); focus omega) | ((with_reducible refine br_df ?_ ?_); focus omega) | ((with_reducible apply br_dq hQz) <;> (try intro hsp hQz)) | ((with_reducible refine ck_x ?_ ?_); focus (first | omega | rfl | assumption | decide | (simp only [List.length_map, List.length_cons, List.length_nil]; omega))) | (with_reducible first | refine eq_tn ?_ | refine eq_tn1 ?_ | refine eq_tn2 ?_ | refine eq_m1 ?_ | refine eq_m2 ?_ | refine eq_zm ?_ | refine eq_z ?_ | refine len_map ?_ | refine len_sl ?_ | refine len_nils ?_ | refine len_own' ?_ | refine len_isl ?_ | refine eq_u8 (by omega) ?_ | refine eq_u16 (by omega) ?_) | (with_reducible first | refine eq_rfl ?_ | refine ChkX.mk (by kernel_rfl) ?_ | refine code_d (by decide +kernel) ?_ | refine end_go rfl ?_) | refine dcx_tab (by assumption) rfl rfl rfl rfl rfl rfl rfl ?_ | refine cx_tab (by assumption) rfl rfl rfl rfl rfl (by decide) rfl ?_ | refine cx_pureS (by assumption) ?_ | refine dcx_pureS (by assumption) ?_ | refine len_map ?_ | refine len_isl ?_ | refine el_of rfl rfl ?_ | refine del_own ?_ | refine del_own' rfl ?_ | refine as_go rfl ?_ | refine rd_go rfl ?_ | refine rg_end rfl ?_ | refine flat_ownX ?_ | refine EqLX.mk ?_ | ((with_reducible apply br_bq hQz) <;> (try intro hsp hQz)) | exact hQz.out)) <;> (try (conv => whnf))))) : p := h ⟨hq⟩
def clE (x : Cl) : List AV := [.int .u8 x.w, .int .i64 x.v.1, .int .i64 x.v.2.1, .int .i64 x.v.2.2.1, .bool x.v.2.2.2, .int .i64 x.o, .int .i64 x.at_, .int .u8 x.b]
theorem clE_len (x : Cl) : (clE x).length = 8 := rfl
theorem plain_clE (x : Cl) : ∀ y ∈ clE x, Plain y := fun y hy => by
 unfold clE at hy
 simp only [List.mem_cons, List.not_mem_nil, or_false] at hy
 rcases hy with rfl | rfl | rfl | rfl | rfl | rfl | rfl | rfl <;> first | exact plain_int | exact plain_bool
theorem plain_cls {l : List Cl} : Plain (.isl (l.map clE)) := plain_isl fun e he => by
 obtain ⟨n, _, rfl⟩ := List.mem_map.1 he; exact plain_clE n
theorem u_plain {L : List Vw} : ∀ x ∈ [AV.isl (L.map vwC)], Plain x := fun x hx => by obtain rfl := List.mem_singleton.1 hx; exact plain_vs
theorem cx_do {x : Cl} {L L' : List Vw} {t t' : TS} {s s' : Sy} {a b c d e g u r nx : Nat} {l : List (Nat × AObj)} {K : AV → Hp → Prop} (hc : LocD x L t s L' t' s')
  (h0 : lk l a = some (.cells (tabC b e t.C))) (h1 : lk l b = some (.cells [.sl c 0 t.n t.n 7, .sl d 0 t.m t.m 3, .int .i64 (t.S.fr : Nat)])) (h2 : lk l c = some (.cells (cellsB t.n t.V t.W t.V3 t.V4 t.S.L t.S.N t.S.P))) (h3 : lk l d = some (.cells (endsB t.m t.S.A t.S.B t.S.C))) (h4 : lk l e = some (.maps (t.E.map keyE))) (h5 : lk l g = some (.cells s.a)) (h6 : lk l u = some (.cells [.isl (L.map vwC)])) (h7 : lk l r = some (.cells s.b))
  (hlt : a < nx ∧ b < nx ∧ c < nx ∧ d < nx ∧ e < nx ∧ g < nx ∧ u < nx ∧ r < nx) (hd : nodB [a, b, c, d, e, g, u, r] = true)
  (hk : filtK [a, b, c, d, e, g, u, r] l fun l2 => K (.bool true) ⟨doN L' t' s' a b c d e g u r ++ l2, nx⟩) : CallX Tryz.prog G0 (.fn 10 [] []) [.ptr a 0, .ptr g 0, .ptr u 0, .ptr r 0, .agg (clE x)] ⟨l, nx⟩ K := by
 have e0 : enter [a, b, c, d, e, g, u, r] a 0 := rfl
 have e1 : enter [a, b, c, d, e, g, u, r] b 1 := rfl
 have e2 : enter [a, b, c, d, e, g, u, r] c 2 := rfl
 have e3 : enter [a, b, c, d, e, g, u, r] d 3 := rfl
 have e4 : enter [a, b, c, d, e, g, u, r] e 4 := rfl
 have e5 : enter [a, b, c, d, e, g, u, r] g 5 := rfl
 have e6 : enter [a, b, c, d, e, g, u, r] u 6 := rfl
 have e7 : enter [a, b, c, d, e, g, u, r] r 7 := rfl
 have k0 : back [a, b, c, d, e, g, u, r] nx 0 a := rfl
 have k1 : back [a, b, c, d, e, g, u, r] nx 1 b := rfl
 have k2 : back [a, b, c, d, e, g, u, r] nx 2 c := rfl
 have k3 : back [a, b, c, d, e, g, u, r] nx 3 d := rfl
 have k4 : back [a, b, c, d, e, g, u, r] nx 4 e := rfl
 have k5 : back [a, b, c, d, e, g, u, r] nx 5 g := rfl
 have k6 : back [a, b, c, d, e, g, u, r] nx 6 u := rfl
 have k7 : back [a, b, c, d, e, g, u, r] nx 7 r := rfl
 refine cx_loc (l1 := doN L' t' s' a b c d e g u r) [a, b, c, d, e, g, u, r] hc.out plainG hd
  (.cons e0 h0 (rn_tabC e1 e4) (.cons e1 h1 ⟨rn_sl e2, rn_sl e3, rn_plain plain_int, trivial⟩ (.cons e2 h2 rnl_cells (.cons e3 h3 rnl_ends (.maps e4 h4 key_plain (.cons e5 h5 (rnl_plain a_plain) (.cons e6 h6 (rnl_plain u_plain) (.cons e7 h7 (rnl_plain b_plain) .nil))))))))
  ?_ (by intro x hx; simp only [List.mem_cons, List.not_mem_nil, or_false] at hx; omega) (rn_plain plain_bool)
  (.cons k0 (rn_tabC k1 k4) (.cons k1 ⟨rn_sl k2, rn_sl k3, rn_plain plain_int, trivial⟩ (.cons k2 rnl_cells (.cons k3 rnl_ends (.maps k4 key_plain (.cons k5 (rnl_plain a_plain) (.cons k6 (rnl_plain u_plain) (.cons k7 (rnl_plain b_plain) .nil)))))))) hk
 simp only [List.nil_append, List.append_nil]
 exact ⟨rn_ptr e0, rn_ptr e5, rn_ptr e6, rn_ptr e7, rn_plain (plain_clA x), trivial⟩
theorem q_newZ : LocN 7 [.agg [.nils]] 0 (Sy.new []).b := (q_new (l := []) (i := (chkP []).1) rfl).weak ⟨wk_pl, trivial⟩ (plain_1 plain_npl)
theorem do_all {L : List Vw} {t : TS} {s : Sy} (h : TOk L t) (x : Cl) (hw : 0 ≤ x.w) : ∃ L' t' s', TOk L' t' ∧ LocD x L t s L' t' s' := by
 have h0 : x.w.tmod 10 = x.w % 10 := Int.tmod_eq_emod_of_nonneg hw
 rcases (show x.w.tmod 10 = 0 ∨ x.w.tmod 10 = 1 ∨ x.w.tmod 10 = 2 ∨ x.w.tmod 10 = 3 ∨ x.w.tmod 10 = 4 ∨ x.w.tmod 10 = 5 ∨ x.w.tmod 10 = 6 ∨ x.w.tmod 10 = 7 ∨ x.w.tmod 10 = 8 ∨ x.w.tmod 10 = 9 by omega) with hm | hm | hm | hm | hm | hm | hm | hm | hm | hm
 ·exact do_map0 h x hm
 ·exact do_map1 h x hm
 ·exact do_unmap h x hm
 ·exact do_protect h x hm
 ·exact do_find h x hm
 ·exact do_fork h x hm
 ·exact do_split h x hm
 ·exact do_drop h x hm
 ·exact do_read h x hm
 ·exact do_write h x hm
def dC : Cl := ⟨0, (0, 0, 0, false), 0, 0, 0⟩
section
variable {fs : List Int} {cl : List Cl}
theorem do_chain (hw : ∀ x ∈ cl, 0 ≤ x.w) (s0 : Sy) : ∃ S : Nat → List Vw × TS × Sy, S 0 = ([], T0, s0) ∧ (∀ k, k ≤ cl.length → TOk (S k).1 (S k).2.1) ∧ ∀ k, k < cl.length → LocD (nth dC cl k) (S k).1 (S k).2.1 (S k).2.2 (S (k + 1)).1 (S (k + 1)).2.1 (S (k + 1)).2.2 := by
 refine chain (n := cl.length) (P := fun _ s => TOk s.1 s.2.1) (S := fun k s s' => LocD (nth dC cl k) s.1 s.2.1 s.2.2 s'.1 s'.2.1 s'.2.2) ([], T0, s0) tok_0 fun k s hk hs => ?_
 obtain ⟨L', t', s', h1, h2⟩ := do_all hs (nth dC cl k) (hw _ (nth_mem (d := dC) hk))
 exact ⟨(L', t', s'), h1, h2⟩
set_option maxHeartbeats 1600000 in
theorem k_plays (hw : ∀ x ∈ cl, 0 ≤ x.w) : PureS 3 [.isl (fs.map int1), .isl (cl.map clE)] (.bool true) := by
 refine PureS.mk (pure_x hmix b3 plainG ⟨plain_is, plain_cls, trivial⟩ plain_bool rfl ?_)
 unfold c3
 have ha := k_awake
 by_cases hb : fs.length ≤ 40 ∧ cl.length ≤ 60
 ·have hsys := l_systemZ (fs := fs) hb.1
  have hnew := n_New
  have hq := q_newZ
  (refine wx_Ds ?_; repeat' (first | with_reducible refine And.intro ?_ ?_ | intro hsp))
  obtain ⟨S, hS0, hS, hst⟩ := do_chain hw (opnS fs fs.length)
  generalize T0 = t0 at *
  (refine loop_x [0, 1] (fun (i : Nat) => [(5, .ptr 0 0), (6, .ptr 1 0), (7, .ptr 6 0), (9, .int .i64 (i : Nat))]) (fun (i : Nat) => ⟨[(0, .cells (opnS fs fs.length).a)] ++ tabN t0 1 2 3 4 5 ++ [(6, .cells (opnS fs i).b)], 7⟩) (fun (i : Nat) => i ≤ fs.length) (fun (i : Nat) => fs.length - i) (0) [] rfl (fun _ => by first | exact Nat.zero_le _ | (dsimp only; omega)) ?_ (by ((try (conv => whnf)); exact wkx_Ds)) ?_)
  ·exact Nat.zero_le _
  intro i hi
  by_cases hil : i < fs.length
  ·have c1 := q_reserve (a := nth 0 fs i) (n := 1) (good_opn (fs := fs) i)
   have g2 : GoodS ((opnS fs i).chg (nth 0 fs i) 1 0 1 0).2 := good_chg (good_opn i) (by omega)
   have c2 := q_commit (a := nth 0 fs i) (n := 1) g2
   have hSi : (((opnS fs i).chg (nth 0 fs i) 1 0 1 0).2.chg (nth 0 fs i) 1 1 2 2).2 = opnS fs (i + 1) := rfl
   rw [hSi] at c2
   generalize hx : nth 0 fs i = f at *
   generalize (opnS fs i).chg f 1 0 1 0 = w1 at *
   obtain ⟨e1, s1⟩ := w1
   clear hsys hq hnew ha hS hst hS0
   (refine wx_Ds ?_; repeat' (first | with_reducible refine And.intro ?_ ?_ | intro hsp))
   all_goals exact next_x (i + 1) [] (by (try dsimp only); omega) (by first | omega | (dsimp only; omega)) rfl (by exact wkx_Ds)
  ·obtain rfl : i = fs.length := by omega
   generalize opnS fs fs.length = s0 at *
   have hsL : (S 0).1 = [] := by rw [hS0]
   have hsT : (S 0).2.1 = t0 := by rw [hS0]
   have hsS : (S 0).2.2 = s0 := by rw [hS0]
   (refine wx_Ds ?_; repeat' (first | with_reducible refine And.intro ?_ ?_ | intro hsp))
   (refine loop_x [1] (fun (k : Nat) => [(5, .ptr 0 0), (6, .ptr 1 0), (7, .ptr 6 0), (10, .ptr 7 0), (11, .int .i64 (k : Nat))]) (fun (k : Nat) => ⟨[(0, .cells (S k).2.2.a)] ++ tabN (S k).2.1 1 2 3 4 5 ++ [(6, .cells (S k).2.2.b), (7, .cells [.isl ((S k).1.map vwC)])], 8⟩) (fun (k : Nat) => k ≤ cl.length) (fun (k : Nat) => cl.length - k) (0) [] rfl (fun _ => by first | exact Nat.zero_le _ | (dsimp only; omega)) ?_ (by ((try (conv => whnf)); (rw [hsL, hsT, hsS]); exact wkx_Ds)) ?_)
   ·exact Nat.zero_le _
   intro k hk
   by_cases hkl : k < cl.length
   ·have hd := hst k hkl
    have hx' : nth dC cl k = nth dC cl k := rfl
    generalize hx : nth dC cl k = x at *
    clear hsys hq hnew ha hS hst hS0
    (refine wx_Ds ?_; repeat' (first | with_reducible refine And.intro ?_ ?_ | intro hsp))
    all_goals (unfold doN rdN; skip)
    all_goals exact next_x (k + 1) [] (by (try dsimp only); omega) (by first | omega | (dsimp only; omega)) rfl (by exact wkx_Ds)
   ·obtain rfl : k = cl.length := by omega
    have hT := hS _ (Nat.le_refl _)
    have hsv := t_Save hT
    have hsm := q_same (L := (S cl.length).1) (by have := hT.len; omega)
    have n1 := n_Count 0
    have n2 := n_Drop 0
    have n3 := n_Map 0 0 0 false
    have n4 := n_Save
    generalize S cl.length = y at *
    obtain ⟨L', t', s'⟩ := y
    dsimp only at *
    (refine wx_Dsn ?_; repeat' (first | with_reducible refine And.intro ?_ ?_ | intro hsp))
    all_goals first | exact end_bool rfl | (exfalso; simp at hsp; done)
 ·(refine wx_Ds ?_; repeat' (first | with_reducible refine And.intro ?_ ?_ | intro hsp))
  all_goals first | exact end_bool rfl | (exfalso; omega)
end
end Go.Proofs.YtccbhbdbmmkcdaaGreat.Sh
