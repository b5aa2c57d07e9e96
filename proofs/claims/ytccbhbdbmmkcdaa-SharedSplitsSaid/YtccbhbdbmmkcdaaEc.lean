/-
  Calls over a table and a system: byteOf, all, Write.
-/
import Derived.Test.YtccbhbdbmmkcdaaAmWt
import Derived.Test.YtccbhbdbmmkcdaaShE
import Derived.Test.YtccbhbdbmmkcdaaAmWn
set_option linter.unusedSimpArgs false
set_option linter.unusedVariables false
namespace Go.Pol
open Go.Am
/-- What is read at a place, and at the place 5, of each view. -/
def allL (s : Sy) (k : Nat) (L : List Vw) : List Int := L.flatMap fun v => [s.B v.2.2.1 k, s.B v.2.2.1 5]
theorem allL_nil (s : Sy) (k : Nat) : allL s k [] = [] := rfl
theorem allL_app (s : Sy) (k : Nat) (L M : List Vw) : allL s k (L ++ M) = allL s k L ++ allL s k M := List.flatMap_append ..
theorem allL_len (s : Sy) (k : Nat) (L : List Vw) : (allL s k L).length = 2 * L.length := by
  induction L with
  | nil => rfl
  | cons v L ih => rw [show v :: L = [v] ++ L from rfl, allL_app, List.length_append, ih]; simp [allL]; omega
theorem allL_at (s : Sy) (k : Nat) {L : List Vw} {i : Nat} (h : i < L.length) : nth 0 (allL s k L) (2 * i) = s.B (nth dV L i).2.2.1 k ∧ nth 0 (allL s k L) (2 * i + 1) = s.B (nth dV L i).2.2.1 5 := by
  have e : L = L.take i ++ nth dV L i :: L.drop (i + 1) := by rw [nth_get h, ← List.drop_eq_getElem_cons h, List.take_append_drop]
  have hl : (allL s k (L.take i)).length = 2 * i := by rw [allL_len, List.length_take, Nat.min_eq_left (by omega)]
  have e2 : allL s k L = allL s k (L.take i) ++ (s.B (nth dV L i).2.2.1 k :: s.B (nth dV L i).2.2.1 5 :: allL s k (L.drop (i + 1))) := by
    conv => lhs; rw [e]
    rw [allL_app]; rfl
  have g : ∀ {X Y : List Int} {n j : Nat}, X.length = n → nth 0 (X ++ Y) (n + j) = nth 0 Y j := fun {X Y n j} hx => by
    unfold nth; rw [← hx, List.getElem?_append_right (by omega), Nat.add_sub_cancel_left]
  rw [e2]
  exact ⟨g (j := 0) hl, g (j := 1) hl⟩
end Go.Pol
namespace Go.Proofs.Ytccbhbdbmmkcdaa.Sh
open Go Go.Am Go.Pol
theorem wkx_Ec {p : Prop} (h : p := by (refine weak_o (by rfl) (by rfl) (fun hz => by first | exact absurd rfl hz | (simp [lk, lk_ownE hz]; done) | exact lk_ownE hz | rfl) (by rfl) (int1_plain) (by intro hs; (repeat' ((try (conv => whnf)); first | with_reducible exact True.intro | with_reducible refine And.intro ?_ ?_ | (with_reducible refine WkX.mk ?_; first | exact wk_undef | exact wk_int (by first | rfl | omega | (dsimp only; omega)) | exact wk_bool rfl | exact wk_ptr rfl (by first | decide | simp | omega) | exact wk_map rfl (by first | decide | simp | omega) | exact wk_sl rfl (by first | decide | simp | omega) (by first | rfl | omega | simp) (by first | omega | simp) (by first | omega | simp) | exact wk_own rfl (by first | decide | simp | omega) | exact wk_nil0 (by first | rfl | simp) | exact wk_slown rfl (by first | decide | omega | (simp; done)) (by first | omega | (simp; done)) (by first | rfl | omega | (simp; done) | (simp; omega)) | exact wk_plain hs (by (first | assumption | exact plain_int | exact plain_bool | exact plain_undef | exact plain_nils | exact plain_nilp | exact plain_nilf | exact plain_str | with_reducible apply plain_int | with_reducible apply plain_bool | with_reducible apply plain_vwC | with_reducible apply plain_vwE | with_reducible apply plain_vs | with_reducible apply plain_vsA | with_reducible apply plain_is)) | (with_reducible refine wk_fn ?_ ?_ <;> repeat' (first | with_reducible exact wkl_nil | with_reducible refine wkl_cons ?_ ?_ | exact wk_ptr rfl (by first | decide | simp | omega))) | (with_reducible refine wk_agg ?_; repeat' (first | with_reducible exact wkl_nil | with_reducible refine wkl_cons ?_ ?_ | exact wk_int (by first | rfl | omega | (dsimp only; omega)) | exact wk_bool rfl)) | exact wk_yld rfl (by first | decide | simp | omega))))) (by intro hs; (repeat' (first | with_reducible exact wko_nil | refine wko_tab hs (by first | decide | omega | simp) rfl rfl (by first | decide | omega | simp) rfl (by first | decide | omega | simp) ?_ | refine wko_maps hs (by first | decide | omega | simp) rfl rfl key_plain ?_ | refine wko_plain hs (by first | decide | omega | simp) rfl (by first | rfl) (by (first | with_reducible assumption | with_reducible apply cells_plain | with_reducible apply ends_plain | with_reducible apply cnt_plain | with_reducible apply memI_plain _ _ | with_reducible apply vw_plain | with_reducible apply plain_flat vw_plain' | with_reducible apply nat_plain | with_reducible apply a_plain | with_reducible apply plain_flat nat1_plain | with_reducible apply plain_flat int1_plain | with_reducible apply plain_map (fun _ => plain_int) | with_reducible apply plain_map (fun _ => plain_bool) | ((repeat' (first | exact plain_all0 | refine plain_all2 ?_ ?_ | exact plain_int | first | assumption | exact plain_int | exact plain_bool | exact plain_undef | exact plain_nils | exact plain_nilp | exact plain_nilf | exact plain_str | with_reducible apply plain_int | with_reducible apply plain_bool | with_reducible apply plain_vwC | with_reducible apply plain_vwE | with_reducible apply plain_vs | with_reducible apply plain_vsA | with_reducible apply plain_is)); done) | ((refine plain_app ?_ ?_) <;> (first | with_reducible assumption | with_reducible apply cells_plain | with_reducible apply ends_plain | with_reducible apply cnt_plain | with_reducible apply memI_plain _ _ | with_reducible apply vw_plain | with_reducible apply plain_flat vw_plain' | with_reducible apply nat_plain | with_reducible apply a_plain | with_reducible apply plain_flat nat1_plain | with_reducible apply plain_flat int1_plain | with_reducible apply plain_map (fun _ => plain_int) | with_reducible apply plain_map (fun _ => plain_bool) | ((repeat' (first | exact plain_all0 | refine plain_all2 ?_ ?_ | exact plain_int | first | assumption | exact plain_int | exact plain_bool | exact plain_undef | exact plain_nils | exact plain_nilp | exact plain_nilf | exact plain_str | with_reducible apply plain_int | with_reducible apply plain_bool | with_reducible apply plain_vwC | with_reducible apply plain_vwE | with_reducible apply plain_vs | with_reducible apply plain_vsA | with_reducible apply plain_is)); done))))) ?_ | refine wko_cells (by first | decide | omega | simp) rfl (by repeat' (first | with_reducible exact wkl_nil | with_reducible refine wkl_cons ?_ ?_ | (first | exact wk_undef | exact wk_int (by first | rfl | omega | (dsimp only; omega)) | exact wk_bool rfl | exact wk_ptr rfl (by first | decide | simp | omega) | exact wk_map rfl (by first | decide | simp | omega) | exact wk_sl rfl (by first | decide | simp | omega) (by first | rfl | omega | simp) (by first | omega | simp) (by first | omega | simp) | exact wk_own rfl (by first | decide | simp | omega) | exact wk_nil0 (by first | rfl | simp) | exact wk_slown rfl (by first | decide | omega | (simp; done)) (by first | omega | (simp; done)) (by first | rfl | omega | (simp; done) | (simp; omega)) | exact wk_plain hs (by (first | assumption | exact plain_int | exact plain_bool | exact plain_undef | exact plain_nils | exact plain_nilp | exact plain_nilf | exact plain_str | with_reducible apply plain_int | with_reducible apply plain_bool | with_reducible apply plain_vwC | with_reducible apply plain_vwE | with_reducible apply plain_vs | with_reducible apply plain_vsA | with_reducible apply plain_is)) | (with_reducible refine wk_fn ?_ ?_ <;> repeat' (first | with_reducible exact wkl_nil | with_reducible refine wkl_cons ?_ ?_ | exact wk_ptr rfl (by first | decide | simp | omega))) | (with_reducible refine wk_agg ?_; repeat' (first | with_reducible exact wkl_nil | with_reducible refine wkl_cons ?_ ?_ | exact wk_int (by first | rfl | omega | (dsimp only; omega)) | exact wk_bool rfl)) | exact wk_yld rfl (by first | decide | simp | omega)))) ?_ | refine wko_loop (by first | decide | omega | simp) rfl (by ((try subst hF); (try subst hF2); exact wkl_sd (wkf_sget (by (repeat' ((try (conv => whnf)); first | with_reducible exact True.intro | with_reducible refine And.intro ?_ ?_ | (with_reducible refine WkX.mk ?_; first | exact wk_undef | exact wk_int (by first | rfl | omega | (dsimp only; omega)) | exact wk_bool rfl | exact wk_ptr rfl (by first | decide | simp | omega) | exact wk_map rfl (by first | decide | simp | omega) | exact wk_sl rfl (by first | decide | simp | omega) (by first | rfl | omega | simp) (by first | omega | simp) (by first | omega | simp) | exact wk_own rfl (by first | decide | simp | omega) | exact wk_nil0 (by first | rfl | simp) | exact wk_slown rfl (by first | decide | omega | (simp; done)) (by first | omega | (simp; done)) (by first | rfl | omega | (simp; done) | (simp; omega)) | exact wk_plain hs (by (first | assumption | exact plain_int | exact plain_bool | exact plain_undef | exact plain_nils | exact plain_nilp | exact plain_nilf | exact plain_str | with_reducible apply plain_int | with_reducible apply plain_bool | with_reducible apply plain_vwC | with_reducible apply plain_vwE | with_reducible apply plain_vs | with_reducible apply plain_vsA | with_reducible apply plain_is)) | (with_reducible refine wk_fn ?_ ?_ <;> repeat' (first | with_reducible exact wkl_nil | with_reducible refine wkl_cons ?_ ?_ | exact wk_ptr rfl (by first | decide | simp | omega))) | (with_reducible refine wk_agg ?_; repeat' (first | with_reducible exact wkl_nil | with_reducible refine wkl_cons ?_ ?_ | exact wk_int (by first | rfl | omega | (dsimp only; omega)) | exact wk_bool rfl)) | exact wk_yld rfl (by first | decide | simp | omega)))))))) ?_ | exact wko_nil))))) : p := h
theorem wx_Ec {p q : Prop} (hq : q) (h : HidP q → p := by (intro hQz; ((repeat' ((try (conv => whnf)); first | (with_reducible first | refine run_cons ?_ | refine runq_cons ?_ | refine code_seq ?_ | refine code_reg ?_ | refine code_cond ?_ | refine run_nil ?_ | refine runq_nil ?_ | refine rund_op rfl ?_ | refine rund_nil ?_ | refine code_block ?_ | refine code_skip ?_ | refine code_exit ?_ | refine code_ret ?_ | refine code_range ?_ | refine rund_fast (by decide +kernel) ?_ | refine rund_slow (by decide +kernel) ?_ | refine br_tt ?_ | refine br_ff ?_ | refine br_n ?_ | refine br_and ?_ | refine br_or ?_ | refine br_t (by assumption) ?_ | refine br_f (by assumption) ?_ | refine eq_i64 (by omega) ?_ | refine el_tn ?_) | ((with_reducible refine br_dt ?_ ?_); focus omega) | ((with_reducible refine br_df ?_ ?_); focus omega) | ((with_reducible apply br_dq hQz) <;> (try intro hsp hQz)) | ((with_reducible refine ck_x ?_ ?_); focus (first | omega | rfl | assumption | decide | (simp only [List.length_map, List.length_cons, List.length_nil]; omega))) | (with_reducible first | refine eq_tn ?_ | refine eq_tn1 ?_ | refine eq_tn2 ?_ | refine eq_m1 ?_ | refine eq_m2 ?_ | refine eq_zm ?_ | refine eq_z ?_ | refine len_map ?_ | refine len_sl ?_ | refine len_nils ?_ | refine len_own' ?_ | refine len_isl ?_ | refine eq_u8 (by omega) ?_ | refine eq_u16 (by omega) ?_) | (with_reducible first | refine eq_rfl ?_ | refine ChkX.mk (by kernel_rfl) ?_ | refine code_q rfl ?_ | refine code_d (by decide +kernel) ?_ | refine end_go rfl ?_) | (refine cx_in hmix b32 rfl ?_; unfold c32) | refine cx_tab (by assumption) rfl rfl rfl rfl rfl (by decide) rfl ?_ | refine cx_locS (by assumption) rfl (by decide) ?_ | refine len_map ?_ | refine len_isl ?_ | refine el_of rfl rfl ?_ | refine del_own ?_ | refine del_own' rfl ?_ | refine as_go rfl ?_ | refine rd_go rfl ?_ | refine rg_end rfl ?_ | refine flat_ownX ?_ | refine EqLX.mk ?_ | ((with_reducible apply br_bq hQz) <;> (try intro hsp hQz)) | exact hQz.out)) <;> (try (conv => whnf))))) : p := h ⟨hq⟩
theorem wx_Ecn {p q : Prop} (hq : q) (h : HidP q → p := by (intro hQz; ((repeat' ((try (conv => whnf)); first | (with_reducible first | refine run_cons ?_ | refine runq_cons ?_ | refine code_seq ?_ | refine code_reg ?_ | refine code_cond ?_ | refine run_nil ?_ | refine runq_nil ?_ | refine rund_op rfl ?_ | refine rund_nil ?_ | refine code_block ?_ | refine code_skip ?_ | refine code_exit ?_ | refine code_ret ?_ | refine code_range ?_ | refine rund_fast (by decide +kernel) ?_ | refine rund_slow (by decide +kernel) ?_ | refine br_tt ?_ | refine br_ff ?_ | refine br_n ?_ | refine br_and ?_ | refine br_or ?_ | refine br_t (by assumption) ?_ | refine br_f (by assumption) ?_ | refine eq_i64 (by omega) ?_ | refine el_tn ?_) | ((with_reducible refine br_dt ?_ ?_); focus omega) | ((with_reducible refine br_df ?_ ?_); focus omega) | ((with_reducible apply br_dq hQz) <;> (try intro hsp hQz)) | ((with_reducible refine ck_x ?_ ?_); focus (first | omega | rfl | assumption | decide | (simp only [List.length_map, List.length_cons, List.length_nil]; omega))) | (with_reducible first | refine eq_tn ?_ | refine eq_tn1 ?_ | refine eq_tn2 ?_ | refine eq_m1 ?_ | refine eq_m2 ?_ | refine eq_zm ?_ | refine eq_z ?_ | refine len_map ?_ | refine len_sl ?_ | refine len_nils ?_ | refine len_own' ?_ | refine len_isl ?_ | refine eq_u8 (by omega) ?_ | refine eq_u16 (by omega) ?_) | refine el_mapE (d := dV) vw_len (by first | assumption | omega) (by with_reducible assumption) ?_ | (with_reducible first | refine eq_rfl ?_ | refine ChkX.mk (by kernel_rfl) ?_ | refine code_d (by decide +kernel) ?_ | refine end_go rfl ?_) | refine apps_own (f := int1) (l2 := [y1, y2]) int1_len (src_of rfl (by first | rfl | (simp; done) | (simp [*]; done))) (fun hz => by first | (simp [lk, lk_own, lk_ownS hz, lk_ownE hz]; done) | rfl) (fun hz => by first | (simp [lk, lk_own, lk_ownO, lk_tN hz, lk_ownN hz]; done) | rfl) (by first | rfl | (simp [flat, int1]; done) | (simp [flat, int1, *]; done)) (by decide) ⟨by omega, by omega⟩ rfl ?_ | ((with_reducible apply appx_q hQz); intro hQa hQb; refine appx_own (f := int1) (l2 := [y1, y2]) int1_len (src_of rfl (by first | rfl | (simp; done) | (simp [*]; done))) (fun hz => by first | (simp [lk, lk_own, lk_ownS hz, lk_ownE hz]; done) | rfl) (by first | rfl | (simp [flat, int1]; done) | (simp [flat, int1, *]; done)) (by decide) ⟨by omega, by omega⟩ ?_ ?_ <;> intro hzz <;> first | (have hQz := HidP.mk (hQa.out hzz)) | (have hQz := HidP.mk (hQb.out hzz))) | refine dcx_tx (by assumption) rfl rfl rfl rfl rfl rfl rfl rfl ?_ | refine len_map ?_ | refine len_isl ?_ | refine el_of rfl rfl ?_ | refine del_own ?_ | refine del_own' rfl ?_ | refine as_go rfl ?_ | refine rd_go rfl ?_ | refine rg_end rfl ?_ | refine flat_ownX ?_ | refine EqLX.mk ?_ | ((with_reducible apply br_bq hQz) <;> (try intro hsp hQz)) | exact hQz.out)) <;> (try (conv => whnf))))) : p := h ⟨hq⟩
def int1 (n : Int) : List AV := [.int .i64 n]
theorem int1_len (n : Int) : (int1 n).length = 1 := rfl
theorem int1_plain (n : Int) : ∀ x ∈ int1 n, Plain x := fun x hx => by obtain rfl := List.mem_singleton.1 hx; exact plain_int
theorem plain_is {l : List Int} : Plain (.isl (l.map int1)) := plain_isl fun e he => by
  obtain ⟨n, _, rfl⟩ := List.mem_map.1 he; exact int1_plain n
theorem wk_frzI {σ : Nat → Nat} {h h' : Hp} {d : Nat} {L : List Int} (hi : L.length ≠ 0 → lk h.l d = some (.cells (flat int1 L))) (hi' : ∀ j o, lk h'.l j = some o → σ j ≠ d) (hs : SubH σ h h') : WkV Try.prog σ h h' (ownV d 1 L.length) (.isl (L.map int1)) := by
  by_cases hz : L.length = 0
  · rw [hz, own_z, List.eq_nil_of_length_eq_zero hz]; exact wk_nils
  · rw [own_s hz]
    refine wk_frz (hi hz) hi' hs (by simp) (fun e he => ?_) ?_ fun e he x hx => ?_
    · obtain ⟨s, _, rfl⟩ := List.mem_map.1 he; rfl
    · rw [List.drop_zero, List.take_of_length_le (by rw [flat_len int1_len]; exact Nat.le_refl _)]; rfl
    · obtain ⟨s, _, rfl⟩ := List.mem_map.1 he; exact int1_plain s x hx
/-- A call on a table and a system. -/
structure LocTX (f : Nat) (avs : List AV) (t : TS) (s : Sy) (r : AV) (s' : Sy) : Prop where
  out : LocC Try.prog G0 f (.ptr 0 0 :: .ptr 5 0 :: avs) (rdN t s 0 1 2 3 4 5) 6 fun x h1 => x = r ∧ h1 = ⟨rdN t s' 0 1 2 3 4 5, 6⟩
  pa : ∀ x ∈ avs, Plain x
  pr : Plain r
theorem end_TX {top : Bool} {h : Hp} {N0 : Nat} {x r : AV} {t : TS} {s : Sy} (hr : SubH (rn []) h ⟨rdN t s 0 1 2 3 4 5, 6⟩ → WkV Try.prog (rn []) h ⟨rdN t s 0 1 2 3 4 5, 6⟩ x r) (h0 : lk h.l 0 = some (.cells (tabC 1 4 t.C))) (h1 : lk h.l 1 = some (.cells [.sl 2 0 t.n t.n 7, .sl 3 0 t.m t.m 3, .int .i64 (t.S.fr : Nat)])) (h2 : lk h.l 2 = some (.cells (cellsB t.n t.V t.W t.V3 t.V4 t.S.L t.S.N t.S.P))) (h3 : lk h.l 3 = some (.cells (endsB t.m t.S.A t.S.B t.S.C))) (h4 : lk h.l 4 = some (.maps (t.E.map keyE))) (h5 : lk h.l 5 = some (.cells s.a)) (hN0 : N0 ≤ 6 := by decide) :
    EndX top Try.prog N0 h x (fun r' h' => r' = r ∧ h' = ⟨rdN t s 0 1 2 3 4 5, 6⟩) := by
  have hs : SubH (rn []) h ⟨rdN t s 0 1 2 3 4 5, 6⟩ := fun i o hi => by
    simp only [rdN, lk] at hi
    show ∃ o', lk h.l i = some o'
    split at hi
    · rename_i e; subst e; exact ⟨_, h0⟩
    · split at hi
      · rename_i e; subst e; exact ⟨_, h1⟩
      · split at hi
        · rename_i e; subst e; exact ⟨_, h2⟩
        · split at hi
          · rename_i e; subst e; exact ⟨_, h3⟩
          · split at hi
            · rename_i e; subst e; exact ⟨_, h4⟩
            · split at hi
              · rename_i e; subst e; exact ⟨_, h5⟩
              · cases hi
  refine end_loc [] rfl hN0 (oneOf_of rfl) (hr hs) ?_ ⟨rfl, rfl⟩
  exact wko_tab hs (show 0 < 6 by decide) h0 rfl (show 1 < 6 by decide) rfl (show 4 < 6 by decide)
    (wko_cells (show 1 < 6 by decide) h1 (wkl_cons (wk_sl rfl (show 2 < 6 by decide) rfl (Nat.le_refl _) (Nat.le_refl _)) (wkl_cons (wk_sl rfl (show 3 < 6 by decide) rfl (Nat.le_refl _) (Nat.le_refl _)) (wkl_cons (wk_int rfl) wkl_nil)))
    (wko_plain hs (show 2 < 6 by decide) h2 rfl cells_plain (wko_plain hs (show 3 < 6 by decide) h3 rfl ends_plain (wko_maps hs (show 4 < 6 by decide) h4 rfl key_plain (wko_plain hs (show 5 < 6 by decide) h5 rfl a_plain wko_nil)))))
theorem rd_not {t : TS} {s : Sy} {d : Nat} (hd : 6 ≤ d) : ∀ j o, lk (Hp.l ⟨rdN t s 0 1 2 3 4 5, 6⟩) j = some o → rn [] j ≠ d := fun j o hj => by
  have : j < 6 := Classical.byContradiction fun hn => by
    simp only [rdN, lk] at hj
    repeat' split at hj
    all_goals first | omega | cases hj
  show j ≠ d
  omega
theorem cx_tx {f : Nat} {avs : List AV} {t : TS} {s s' : Sy} {a b c d e g nx : Nat} {l : List (Nat × AObj)} {r : AV} {K : AV → Hp → Prop} (hc : LocTX f avs t s r s')
    (h0 : lk l a = some (.cells (tabC b e t.C))) (h1 : lk l b = some (.cells [.sl c 0 t.n t.n 7, .sl d 0 t.m t.m 3, .int .i64 (t.S.fr : Nat)])) (h2 : lk l c = some (.cells (cellsB t.n t.V t.W t.V3 t.V4 t.S.L t.S.N t.S.P))) (h3 : lk l d = some (.cells (endsB t.m t.S.A t.S.B t.S.C))) (h4 : lk l e = some (.maps (t.E.map keyE))) (h5 : lk l g = some (.cells s.a))
    (hlt : a < nx ∧ b < nx ∧ c < nx ∧ d < nx ∧ e < nx ∧ g < nx) (hd : nodB [a, b, c, d, e, g] = true)
    (hk : filtK [a, b, c, d, e, g] l fun l2 => K r ⟨rdN t s' a b c d e g ++ l2, nx⟩) : CallX Try.prog G0 (.fn f [] []) (.ptr a 0 :: .ptr g 0 :: avs) ⟨l, nx⟩ K := by
  have e0 : enter [a, b, c, d, e, g] a 0 := rfl
  have e1 : enter [a, b, c, d, e, g] b 1 := rfl
  have e2 : enter [a, b, c, d, e, g] c 2 := rfl
  have e3 : enter [a, b, c, d, e, g] d 3 := rfl
  have e4 : enter [a, b, c, d, e, g] e 4 := rfl
  have e5 : enter [a, b, c, d, e, g] g 5 := rfl
  have k0 : back [a, b, c, d, e, g] nx 0 a := rfl
  have k1 : back [a, b, c, d, e, g] nx 1 b := rfl
  have k2 : back [a, b, c, d, e, g] nx 2 c := rfl
  have k3 : back [a, b, c, d, e, g] nx 3 d := rfl
  have k4 : back [a, b, c, d, e, g] nx 4 e := rfl
  have k5 : back [a, b, c, d, e, g] nx 5 g := rfl
  refine cx_loc (l1 := rdN t s' a b c d e g) [a, b, c, d, e, g] hc.out plainG hd
    (.cons e0 h0 (rn_tabC e1 e4) (.cons e1 h1 ⟨rn_sl e2, rn_sl e3, rn_plain plain_int, trivial⟩ (.cons e2 h2 rnl_cells (.cons e3 h3 rnl_ends (.maps e4 h4 key_plain (.cons e5 h5 (rnl_plain a_plain) .nil))))))
    ?_ (by intro x hx; simp only [List.mem_cons, List.not_mem_nil, or_false] at hx; omega) (rn_plain hc.pr)
    (.cons k0 (rn_tabC k1 k4) (.cons k1 ⟨rn_sl k2, rn_sl k3, rn_plain plain_int, trivial⟩ (.cons k2 rnl_cells (.cons k3 rnl_ends (.maps k4 key_plain (.cons k5 (rnl_plain a_plain) .nil)))))) hk
  simp only [List.nil_append, List.append_nil]
  exact ⟨rn_ptr e0, rn_ptr e5, rnl_plain hc.pa⟩
theorem dcx_tx {f : Nat} {avs : List AV} {t : TS} {s s' : Sy} {a b c d e g : Nat} {h : Hp} {r : AV} {K : AV → Up → List Nat → Prop} (hc : LocTX f avs t s r s')
    (h0 : lk h.l a = some (.cells (tabC b e t.C))) (h1 : lk h.l b = some (.cells [.sl c 0 t.n t.n 7, .sl d 0 t.m t.m 3, .int .i64 (t.S.fr : Nat)])) (h2 : lk h.l c = some (.cells (cellsB t.n t.V t.W t.V3 t.V4 t.S.L t.S.N t.S.P))) (h3 : lk h.l d = some (.cells (endsB t.m t.S.A t.S.B t.S.C))) (h4 : lk h.l e = some (.maps (t.E.map keyE))) (h5 : lk h.l g = some (.cells s.a))
    (hd : nodB [a, b, c, d, e, g] = true) (hnx' : [a, b, c, d, e, g].contains h.next = false)
    (hk : K r [(a, some (.cells (tabC b e t.C))), (b, some (.cells [.sl c 0 t.n t.n 7, .sl d 0 t.m t.m 3, .int .i64 (t.S.fr : Nat)])), (c, some (.cells (cellsB t.n t.V t.W t.V3 t.V4 t.S.L t.S.N t.S.P))), (d, some (.cells (endsB t.m t.S.A t.S.B t.S.C))), (e, some (.maps (t.E.map keyE))), (g, some (.cells s'.a))] [a, b, c, d, e, g]) : DCallX Try.prog G0 f (.ptr a 0 :: .ptr g 0 :: avs) h K := by
  have hnx : h.next ∉ [a, b, c, d, e, g] := fun hm => by rw [List.contains_eq_mem, decide_eq_false_iff_not] at hnx'; exact hnx' hm
  have e0 : enter [a, b, c, d, e, g] a 0 := rfl
  have e1 : enter [a, b, c, d, e, g] b 1 := rfl
  have e2 : enter [a, b, c, d, e, g] c 2 := rfl
  have e3 : enter [a, b, c, d, e, g] d 3 := rfl
  have e4 : enter [a, b, c, d, e, g] e 4 := rfl
  have e5 : enter [a, b, c, d, e, g] g 5 := rfl
  have k0 : enterB [a, b, c, d, e, g] 0 a := rfl
  have k1 : enterB [a, b, c, d, e, g] 1 b := rfl
  have k2 : enterB [a, b, c, d, e, g] 2 c := rfl
  have k3 : enterB [a, b, c, d, e, g] 3 d := rfl
  have k4 : enterB [a, b, c, d, e, g] 4 e := rfl
  have k5 : enterB [a, b, c, d, e, g] 5 g := rfl
  refine dcx_loc (l1 := rdN t s' a b c d e g) [a, b, c, d, e, g] hc.out plainG hd
    (.cons e0 h0 (rn_tabC e1 e4) (.cons e1 h1 ⟨rn_sl e2, rn_sl e3, rn_plain plain_int, trivial⟩ (.cons e2 h2 rnl_cells (.cons e3 h3 rnl_ends (.maps e4 h4 key_plain (.cons e5 h5 (rnl_plain a_plain) .nil))))))
    hnx ?_ ?_ ⟨rn_ptr e0, rn_ptr e5, rnl_plain hc.pa⟩ (rn_plain hc.pr)
    (.cons k0 (rn_tabC k1 k4) (.cons k1 ⟨rn_sl k2, rn_sl k3, rn_plain plain_int, trivial⟩ (.cons k2 rnl_cells (.cons k3 rnl_ends (.maps k4 key_plain (.cons k5 (rnl_plain a_plain) .nil)))))) hk
  · intro x hx
    simp only [rdN, lk]
    repeat' split
    all_goals first | exact ⟨_, rfl⟩ | (exfalso; simp only [List.mem_cons, List.not_mem_nil, or_false] at hx; omega)
  · intro j x hx
    have : j < 6 := (List.getElem?_eq_some_iff.1 hx).1
    simp only [rdN, lk]
    repeat' split
    all_goals first | exact ⟨_, rfl⟩ | (exfalso; omega)
section
variable {L : List Vw} {t : TS} {s : Sy} {v : Vw} {fs : List Nat}
theorem frs_mem (hv : v ∈ L) : v.2.2.1 ∈ frs L := List.mem_map.2 ⟨v, hv, rfl⟩
theorem x_byteOfG (g : Nat) (w : Bool) (h : TOk L t) (hs : SyOk fs s) (hf : v.2.2.1 ∈ fs) (hv : v ∈ L) {k : Nat} (hk : k < 64) : LocTX 25 [.agg [.int .i64 (v.1 : Nat), .int .i64 (v.2.1 : Nat), .int .i64 (g : Nat), .bool w], .int .i64 (k : Nat)] t s (.int .i64 (s.B v.2.2.1 k)) s := by
  have hok := h.ok v hv
  have hw := t_where h hv (at_ := v.2.1 * 64 + k) (by omega) (by omega) (w := false) (fun e => by cases e)
  rw [show (v.2.1 * 64 + k) % 64 = k by omega, show ((v.2.1 * 64 + k : Nat) : Int) = (v.2.1 : Int) * 64 + (k : Nat) by omega] at hw
  have hr := p_read (s := s) (a := ((v.2.2.1 * 64 + k : Nat) : Int))
  rw [sy_read hs hok.2.2 hf hk] at hr
  dsimp only at hr
  have hb := hs.byte v.2.2.1 k
  refine LocTX.mk (loc_x hmix b25 rfl ?_) (fun x hx => by simp only [List.mem_cons, List.not_mem_nil, or_false] at hx; rcases hx with rfl | rfl; exact plain_vwE; exact plain_int) plain_int
  unfold c25
  generalize s.B v.2.2.1 k = y at *
  (refine wx_Ec ?_; repeat' (first | with_reducible refine And.intro ?_ ?_ | intro hsp))
  all_goals exact end_TX (fun hs => wk_int rfl) rfl rfl rfl rfl rfl rfl
theorem x_byteOf (h : TOk L t) (hs : SyOk fs s) (hf : v.2.2.1 ∈ fs) (hv : v ∈ L) {k : Nat} (hk : k < 64) : LocTX 25 [.agg (vwC v), .int .i64 (k : Nat)] t s (.int .i64 (s.B v.2.2.1 k)) s := x_byteOfG v.2.2.1 v.2.2.2 h hs hf hv hk
set_option maxHeartbeats 1600000 in
theorem x_all (h : TOk L t) (hs : SyOk fs s) {M : List Vw} (hM : ∀ v ∈ M, v ∈ L ∧ v.2.2.1 ∈ fs) (hl : M.length ≤ 60) {k : Nat} (hk : k < 64) : LocTX 20 [.isl (M.map vwC), .int .i64 (k : Nat)] t s (.isl ((allL s k M).map int1)) s := by
  refine LocTX.mk (loc_x hmix b20 rfl ?_) (fun x hx => by simp only [List.mem_cons, List.not_mem_nil, or_false] at hx; rcases hx with rfl | rfl; exact plain_vs; exact plain_int) plain_is
  unfold c20
  (refine wx_Ec ?_; repeat' (first | with_reducible refine And.intro ?_ ?_ | intro hsp))
  (refine loop_x [0, 1, 2, 3] (fun (i : Nat) => [(9, ownV 6 1 (allL s k (M.take i)).length), (10, .int .i64 (i : Nat))]) (fun (i : Nat) => ⟨rdN t s 0 1 2 3 4 5 ++ ownH 6 int1 (allL s k (M.take i)), 7⟩) (fun (i : Nat) => i ≤ M.length) (fun (i : Nat) => M.length - i) (0) [] rfl (fun _ => by first | exact Nat.zero_le _ | (dsimp only; omega)) ?_ (by ((try (conv => whnf)); (rw [List.take_zero, allL_nil]); exact wkx_Ec)) ?_)
  · exact Nat.zero_le _
  intro i hi
  have hln := allL_len s k (M.take i)
  rw [List.length_take] at hln
  by_cases hil : i < M.length
  · have hm := hM _ (nth_mem (d := dV) hil)
    have c1 := x_byteOf h hs hm.2 hm.1 hk
    have c2 := x_byteOf h hs hm.2 hm.1 (k := 5) (by omega)
    have htk : allL s k (M.take (i + 1)) = allL s k (M.take i) ++ [s.B (nth dV M i).2.2.1 k, s.B (nth dV M i).2.2.1 5] := by rw [take_nth (d := dV) hil, allL_app]; rfl
    have hb1 := hs.byte (nth dV M i).2.2.1 k
    generalize hx : nth dV M i = v at *
    generalize s.B v.2.2.1 k = y1 at *
    generalize s.B v.2.2.1 5 = y2 at *
    unfold vwC at c1 c2
    (refine wx_Ecn ?_; repeat' (first | with_reducible refine And.intro ?_ ?_ | intro hsp))
    all_goals exact next_x (i + 1) [(6, 24)] (by (try dsimp only); omega) (by first | omega | (dsimp only; omega)) rfl (by ((try dsimp only); rw [htk]); exact wkx_Ec)
  · rw [List.take_of_length_le (by omega)]
    (refine wx_Ec ?_; repeat' (first | with_reducible refine And.intro ?_ ?_ | intro hsp))
    exact end_TX (fun hs => wk_frzI (fun hz => by simp [lk, rdN, lk_ownE hz]) (rd_not (by decide)) hs) rfl rfl rfl rfl rfl rfl
end
end Go.Proofs.Ytccbhbdbmmkcdaa.Sh
