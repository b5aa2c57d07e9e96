/-
  take, Map, Unmap, Split.
  Split.
  What All yields: walked, Save.
  Save.
-/
import Derived.Test.YtccbhbdbmmkcdaaAmWt
import Derived.Test.YtccbhbdbmmkcdaaShC
set_option linter.unusedSimpArgs false
set_option linter.unusedVariables false
namespace Go.Proofs.Ytccbhbdbmmkcdaa.Sh
open Go Go.Am Go.Pol
theorem wx_Yh {p q : Prop} (hq : q) (h : HidP q → p := by (intro hQz; ((repeat' ((try (conv => whnf)); first | (with_reducible first | refine run_cons ?_ | refine runq_cons ?_ | refine code_seq ?_ | refine code_reg ?_ | refine code_cond ?_ | refine run_nil ?_ | refine runq_nil ?_ | refine rund_op rfl ?_ | refine rund_nil ?_ | refine code_block ?_ | refine code_skip ?_ | refine code_exit ?_ | refine code_ret ?_ | refine code_range ?_ | refine rund_fast (by decide +kernel) ?_ | refine rund_slow (by decide +kernel) ?_ | refine br_tt ?_ | refine br_ff ?_ | refine br_n ?_ | refine br_and ?_ | refine br_or ?_ | refine br_t (by assumption) ?_ | refine br_f (by assumption) ?_ | refine eq_i64 (by omega) ?_ | refine el_tn ?_) | ((with_reducible refine br_dt ?_ ?_); focus omega) | ((with_reducible refine br_df ?_ ?_); focus omega) | ((with_reducible apply br_dq hQz) <;> (try intro hsp hQz)) | ((with_reducible refine ck_x ?_ ?_); focus (first | omega | rfl | assumption | decide | (simp only [List.length_map, List.length_cons, List.length_nil]; omega))) | (with_reducible first | refine eq_tn ?_ | refine eq_tn1 ?_ | refine eq_tn2 ?_ | refine eq_m1 ?_ | refine eq_m2 ?_ | refine eq_zm ?_ | refine eq_z ?_ | refine len_map ?_ | refine len_sl ?_ | refine len_nils ?_ | refine len_own' ?_ | refine len_isl ?_ | refine eq_u8 (by omega) ?_ | refine eq_u16 (by omega) ?_) | refine nthK_of (by with_reducible assumption) ?_ | refine mlook_yes hmf hj rfl rfl rfl rfl ?_ | refine mlook_no (by assumption) rfl rfl rfl ?_ | refine mlen_of rfl (by with_reducible assumption) ?_ | (with_reducible first | refine eq_rfl ?_ | refine ChkX.mk (by kernel_rfl) ?_ | refine code_q rfl ?_ | refine code_d (by decide +kernel) ?_ | refine end_go rfl ?_) | refine cx_locV (by assumption) rfl (by omega) ?_ | refine cx_tab (by assumption) rfl rfl rfl rfl rfl (by decide) rfl ?_ | (refine cx_in hmix b37 rfl ?_; unfold c37) | refine cx_pureS (by assumption) ?_ | refine len_map ?_ | refine len_isl ?_ | refine el_of rfl rfl ?_ | refine del_own ?_ | refine del_own' rfl ?_ | refine as_go rfl ?_ | refine rd_go rfl ?_ | refine rg_end rfl ?_ | refine flat_ownX ?_ | refine EqLX.mk ?_ | ((with_reducible apply br_bq hQz) <;> (try intro hsp hQz)) | exact hQz.out)) <;> (try (conv => whnf))))) : p := h ⟨hq⟩
section
variable {L : List Vw} {t : TS} {v : Vw} {s : Nat}
theorem plain_vl {a b c : Int} {w : Bool} : ∀ x ∈ [AV.agg [.int .i64 a, .int .i64 b, .int .i64 c, .bool w]], Plain x := fun x hx => by
  obtain rfl := List.mem_singleton.1 hx; exact plain_vwE
theorem k_right (a k f : Int) (w : Bool) : PureS 39 [.agg [.int .i64 a, .int .i64 k, .int .i64 f, .bool w]] (.bool (decide (inR 64 a ∧ inR 1024 k ∧ inR 1024 f))) := by
  refine PureS.mk (pure_x hmix b39 plainG ⟨plain_vwE, trivial⟩ plain_bool rfl ?_)
  unfold c39
  have ha := k_arenas1 a
  have hk := k_pages2 k f
  by_cases h1 : inR 64 a <;> by_cases h2 : (inR 1024 k ∧ inR 1024 f)
  all_goals first | rw [if_pos h1] at ha | rw [if_neg h1] at ha
  all_goals first | rw [if_pos h2] at hk | rw [if_neg h2] at hk
  all_goals (refine wx_Yh ?_; repeat' (first | with_reducible refine And.intro ?_ ?_ | intro hsp))
  all_goals exact end_bool (by first | (simp [h1, h2]; done) | (symm; rw [decide_eq_false_iff_not]; intro h3; first | exact h1 h3.1 | exact h2 h3.2) | (symm; rw [decide_eq_true_eq]; exact ⟨h1, h2⟩))
theorem right_ok (hv : v.1 < 64 ∧ v.2.1 < 1024 ∧ v.2.2.1 < 1024) : inR 64 (v.1 : Nat) ∧ inR 1024 (v.2.1 : Nat) ∧ inR 1024 (v.2.2.1 : Nat) := ⟨inR64 hv.1, inR1k hv.2.1, inR1k hv.2.2⟩
theorem t_Map (h : TOk L t) (hv : v.1 < 64 ∧ v.2.1 < 1024 ∧ v.2.2.1 < 1024) (hn : ∀ u ∈ L, ¬ atV (v.1, v.2.1) u) (hl : L.length < 2000) : ∃ t', TOk (insV v L) t' ∧ LocT 26 [.agg (vwC v)] t (.int .i64 0) t' := by
  have hmf := mf_no (h.noentry hn)
  have hlen : (t.E.map keyE).length = L.length := by rw [List.length_map, h.elen]
  obtain ⟨t', h1, _, _, hput⟩ := t_put h hv hn hl
  refine ⟨t', h1, ?_⟩
  obtain ⟨va, vk, vf, vw⟩ := v
  have hr := k_right (va : Nat) (vk : Nat) (vf : Nat) vw
  rw [decide_eq_true (right_ok hv)] at hr
  unfold vwC at hput ⊢
  dsimp only at *
  refine LocT.mk (loc_x hmix b26 rfl ?_) plain_vl plain_int
  unfold c26
  generalize L.length = n at *
  (refine wx_Yh ?_; repeat' (first | with_reducible refine And.intro ?_ ?_ | intro hsp))
  all_goals exact end_tab rfl plain_int rfl rfl rfl rfl rfl
end
end Go.Proofs.Ytccbhbdbmmkcdaa.Sh
namespace Go.Proofs.Ytccbhbdbmmkcdaa.Sh
open Go Go.Am Go.Pol
section
variable {L : List Vw} {t : TS} {v : Vw} {s : Nat}
/-- A view with another frame, to be written. -/
def frV (f : Nat) (v : Vw) : Vw := (v.1, v.2.1, f, true)
end
end Go.Proofs.Ytccbhbdbmmkcdaa.Sh
namespace Go.Proofs.Ytccbhbdbmmkcdaa.Sh
open Go Go.Am Go.Pol
theorem vw_plain' (v : Vw) : ∀ x ∈ vwC v, Plain x := vw_plain
theorem vw_len (v : Vw) : (vwC v).length = 4 := rfl
theorem plain_vs {L : List Vw} : Plain (.isl (L.map vwC)) := plain_isl fun e he => by
  obtain ⟨v, _, rfl⟩ := List.mem_map.1 he; exact vw_plain
theorem plain_vsA {L : List Vw} : Plain (.agg [.isl (L.map vwC)]) := plain_agg fun x hx => by
  obtain rfl := List.mem_singleton.1 hx; exact plain_vs

/-- As end_tab, of a result that is forgotten in part. -/
theorem end_tabW {top : Bool} {h : Hp} {N0 : Nat} {x r : AV} {t : TS} (hr : SubH (rn []) h ⟨tabS t, 5⟩ → WkV Try.prog (rn []) h ⟨tabS t, 5⟩ x r) (h0 : lk h.l 0 = some (.cells (tabC 1 4 t.C))) (h1 : lk h.l 1 = some (.cells [.sl 2 0 t.n t.n 7, .sl 3 0 t.m t.m 3, .int .i64 (t.S.fr : Nat)])) (h2 : lk h.l 2 = some (.cells (cellsB t.n t.V t.W t.V3 t.V4 t.S.L t.S.N t.S.P))) (h3 : lk h.l 3 = some (.cells (endsB t.m t.S.A t.S.B t.S.C))) (h4 : lk h.l 4 = some (.maps (t.E.map keyE))) (hN0 : N0 ≤ 5 := by decide) :
    EndX top Try.prog N0 h x (fun r' h' => r' = r ∧ h' = ⟨tabS t, 5⟩) := by
  have hs : SubH (rn []) h ⟨tabS t, 5⟩ := fun i o hi => by
    simp only [tabS, lk] at hi
    show ∃ o', lk h.l i = some o'
    split at hi
    · rename_i e; subst e; exact ⟨_, h0⟩
    · split at hi
      · rename_i e; subst e; exact ⟨_, h1⟩
      · split at hi
        · rename_i e; subst e; exact ⟨_, h2⟩
        · split at hi
          · rename_i e; subst e; exact ⟨_, h3⟩
          · split at hi
            · rename_i e; subst e; exact ⟨_, h4⟩
            · cases hi
  refine end_loc [] rfl hN0 (oneOf_of rfl) (hr hs) ?_ ⟨rfl, rfl⟩
  exact wko_tab hs (show 0 < 5 by decide) h0 rfl (show 1 < 5 by decide) rfl (show 4 < 5 by decide)
    (wko_cells (show 1 < 5 by decide) h1 (wkl_cons (wk_sl rfl (show 2 < 5 by decide) rfl (Nat.le_refl _) (Nat.le_refl _)) (wkl_cons (wk_sl rfl (show 3 < 5 by decide) rfl (Nat.le_refl _) (Nat.le_refl _)) (wkl_cons (wk_int rfl) wkl_nil)))
    (wko_plain hs (show 2 < 5 by decide) h2 rfl cells_plain (wko_plain hs (show 3 < 5 by decide) h3 rfl ends_plain (wko_maps hs (show 4 < 5 by decide) h4 rfl key_plain wko_nil))))
section
variable {L : List Vw} {t : TS}
/-- The next link, and the value, of the slot that is yielded. -/
theorem TOk.at_ (h : TOk L t) {a k : Nat} (hk : k < (t.Q a).length) : nth 0 (t.Q a) k < t.n ∧ hd ((t.Q a).drop k) = (nth 0 (t.Q a) k : Nat) ∧ t.S.N (nth 0 (t.Q a) k) = hd ((t.Q a).drop (k + 1)) ∧ nth dV (ofA a L) k = t.U (nth 0 (t.Q a) k) ∧ nth 0 (t.Q a) k ∈ t.Q a ∧ ((cellsB t.n t.V t.W t.V3 t.V4 t.S.L t.S.N t.S.P).drop (nth 0 (t.Q a) k * 7)).take 4 = vwC (t.U (nth 0 (t.Q a) k)) := by
  have hm := nth_mem (d := 0) hk
  have hlt := (h.pool.inv.st.us a _ hm).1
  refine ⟨hlt, by rw [nth_get hk, List.drop_eq_getElem_cons hk]; rfl, (h.pool.inv.st.ch a ((t.Q a).take k) (nth 0 (t.Q a) k) ((t.Q a).drop (k + 1)) (by rw [nth_get hk, ← List.drop_eq_getElem_cons hk, List.take_append_drop])).1, ?_, hm, ?_⟩
  · rw [← h.lst, nth_get (by rw [List.length_map]; exact hk), nth_get hk, List.getElem_map]
  · rw [tkV hlt]
    obtain ⟨e1, e2, e3, e4⟩ := h.val a _ hm
    rw [e1, e2, e3, e4]; rfl
end
end Go.Proofs.Ytccbhbdbmmkcdaa.Sh
namespace Go.Pol
def upto (a : Nat) (L : List Vw) : List Vw := L.filter fun v => decide (v.1 < a)
end Go.Pol
namespace Go.Proofs.Ytccbhbdbmmkcdaa.Sh
open Go Go.Am Go.Pol
section
variable {L : List Vw} {t : TS}
end
end Go.Proofs.Ytccbhbdbmmkcdaa.Sh
