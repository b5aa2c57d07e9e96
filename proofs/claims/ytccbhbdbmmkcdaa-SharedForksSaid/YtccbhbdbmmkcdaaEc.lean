/-
  Calls over a table and a system: byteOf, all, Write.
-/
import Derived.Test.YtccbhbdbmmkcdaaAmWt
import Derived.Test.YtccbhbdbmmkcdaaShE
import Derived.Test.YtccbhbdbmmkcdaaAmWn
set_option linter.unusedSimpArgs false
set_option linter.unusedVariables false
namespace Go.Pol
open Go.Am
/-- What is read at a place, and at the place 5, of each view. -/
def allL (s : Sy) (k : Nat) (L : List Vw) : List Int := L.flatMap fun v => [s.B v.2.2.1 k, s.B v.2.2.1 5]
end Go.Pol
namespace Go.Proofs.Ytccbhbdbmmkcdaa.Sh
open Go Go.Am Go.Pol
theorem wx_Ec {p q : Prop} (hq : q) (h : HidP q → p := by (intro hQz; ((repeat' ((try (conv => whnf)); first | (with_reducible first | refine run_cons ?_ | refine runq_cons ?_ | refine code_seq ?_ | refine code_reg ?_ | refine code_cond ?_ | refine run_nil ?_ | refine runq_nil ?_ | refine rund_op rfl ?_ | refine rund_nil ?_ | refine code_block ?_ | refine code_skip ?_ | refine code_exit ?_ | refine code_ret ?_ | refine code_range ?_ | refine rund_fast (by decide +kernel) ?_ | refine rund_slow (by decide +kernel) ?_ | refine br_tt ?_ | refine br_ff ?_ | refine br_n ?_ | refine br_and ?_ | refine br_or ?_ | refine br_t (by assumption) ?_ | refine br_f (by assumption) ?_ | refine eq_i64 (by omega) ?_ | refine el_tn ?_) | ((with_reducible refine br_dt ?_ ?_); focus omega) | ((with_reducible refine br_df ?_ ?_); focus omega) | ((with_reducible apply br_dq hQz) <;> (try intro hsp hQz)) | ((with_reducible refine ck_x ?_ ?_); focus (first | omega | rfl | assumption | decide | (simp only [List.length_map, List.length_cons, List.length_nil]; omega))) | (with_reducible first | refine eq_tn ?_ | refine eq_tn1 ?_ | refine eq_tn2 ?_ | refine eq_m1 ?_ | refine eq_m2 ?_ | refine eq_zm ?_ | refine eq_z ?_ | refine len_map ?_ | refine len_sl ?_ | refine len_nils ?_ | refine len_own' ?_ | refine len_isl ?_ | refine eq_u8 (by omega) ?_ | refine eq_u16 (by omega) ?_) | (with_reducible first | refine eq_rfl ?_ | refine ChkX.mk (by kernel_rfl) ?_ | refine code_q rfl ?_ | refine code_d (by decide +kernel) ?_ | refine end_go rfl ?_) | (refine cx_in hmix b32 rfl ?_; unfold c32) | refine cx_tab (by assumption) rfl rfl rfl rfl rfl (by decide) rfl ?_ | refine cx_locS (by assumption) rfl (by decide) ?_ | refine len_map ?_ | refine len_isl ?_ | refine el_of rfl rfl ?_ | refine del_own ?_ | refine del_own' rfl ?_ | refine as_go rfl ?_ | refine rd_go rfl ?_ | refine rg_end rfl ?_ | refine flat_ownX ?_ | refine EqLX.mk ?_ | ((with_reducible apply br_bq hQz) <;> (try intro hsp hQz)) | exact hQz.out)) <;> (try (conv => whnf))))) : p := h ⟨hq⟩
def int1 (n : Int) : List AV := [.int .i64 n]
theorem int1_plain (n : Int) : ∀ x ∈ int1 n, Plain x := fun x hx => by obtain rfl := List.mem_singleton.1 hx; exact plain_int
theorem plain_is {l : List Int} : Plain (.isl (l.map int1)) := plain_isl fun e he => by
  obtain ⟨n, _, rfl⟩ := List.mem_map.1 he; exact int1_plain n
/-- A call on a table and a system. -/
structure LocTX (f : Nat) (avs : List AV) (t : TS) (s : Sy) (r : AV) (s' : Sy) : Prop where
  out : LocC Try.prog G0 f (.ptr 0 0 :: .ptr 5 0 :: avs) (rdN t s 0 1 2 3 4 5) 6 fun x h1 => x = r ∧ h1 = ⟨rdN t s' 0 1 2 3 4 5, 6⟩
  pa : ∀ x ∈ avs, Plain x
  pr : Plain r
theorem end_TX {top : Bool} {h : Hp} {N0 : Nat} {x r : AV} {t : TS} {s : Sy} (hr : SubH (rn []) h ⟨rdN t s 0 1 2 3 4 5, 6⟩ → WkV Try.prog (rn []) h ⟨rdN t s 0 1 2 3 4 5, 6⟩ x r) (h0 : lk h.l 0 = some (.cells (tabC 1 4 t.C))) (h1 : lk h.l 1 = some (.cells [.sl 2 0 t.n t.n 7, .sl 3 0 t.m t.m 3, .int .i64 (t.S.fr : Nat)])) (h2 : lk h.l 2 = some (.cells (cellsB t.n t.V t.W t.V3 t.V4 t.S.L t.S.N t.S.P))) (h3 : lk h.l 3 = some (.cells (endsB t.m t.S.A t.S.B t.S.C))) (h4 : lk h.l 4 = some (.maps (t.E.map keyE))) (h5 : lk h.l 5 = some (.cells s.a)) (hN0 : N0 ≤ 6 := by decide) :
    EndX top Try.prog N0 h x (fun r' h' => r' = r ∧ h' = ⟨rdN t s 0 1 2 3 4 5, 6⟩) := by
  have hs : SubH (rn []) h ⟨rdN t s 0 1 2 3 4 5, 6⟩ := fun i o hi => by
    simp only [rdN, lk] at hi
    show ∃ o', lk h.l i = some o'
    split at hi
    · rename_i e; subst e; exact ⟨_, h0⟩
    · split at hi
      · rename_i e; subst e; exact ⟨_, h1⟩
      · split at hi
        · rename_i e; subst e; exact ⟨_, h2⟩
        · split at hi
          · rename_i e; subst e; exact ⟨_, h3⟩
          · split at hi
            · rename_i e; subst e; exact ⟨_, h4⟩
            · split at hi
              · rename_i e; subst e; exact ⟨_, h5⟩
              · cases hi
  refine end_loc [] rfl hN0 (oneOf_of rfl) (hr hs) ?_ ⟨rfl, rfl⟩
  exact wko_tab hs (show 0 < 6 by decide) h0 rfl (show 1 < 6 by decide) rfl (show 4 < 6 by decide)
    (wko_cells (show 1 < 6 by decide) h1 (wkl_cons (wk_sl rfl (show 2 < 6 by decide) rfl (Nat.le_refl _) (Nat.le_refl _)) (wkl_cons (wk_sl rfl (show 3 < 6 by decide) rfl (Nat.le_refl _) (Nat.le_refl _)) (wkl_cons (wk_int rfl) wkl_nil)))
    (wko_plain hs (show 2 < 6 by decide) h2 rfl cells_plain (wko_plain hs (show 3 < 6 by decide) h3 rfl ends_plain (wko_maps hs (show 4 < 6 by decide) h4 rfl key_plain (wko_plain hs (show 5 < 6 by decide) h5 rfl a_plain wko_nil)))))
theorem cx_tx {f : Nat} {avs : List AV} {t : TS} {s s' : Sy} {a b c d e g nx : Nat} {l : List (Nat × AObj)} {r : AV} {K : AV → Hp → Prop} (hc : LocTX f avs t s r s')
    (h0 : lk l a = some (.cells (tabC b e t.C))) (h1 : lk l b = some (.cells [.sl c 0 t.n t.n 7, .sl d 0 t.m t.m 3, .int .i64 (t.S.fr : Nat)])) (h2 : lk l c = some (.cells (cellsB t.n t.V t.W t.V3 t.V4 t.S.L t.S.N t.S.P))) (h3 : lk l d = some (.cells (endsB t.m t.S.A t.S.B t.S.C))) (h4 : lk l e = some (.maps (t.E.map keyE))) (h5 : lk l g = some (.cells s.a))
    (hlt : a < nx ∧ b < nx ∧ c < nx ∧ d < nx ∧ e < nx ∧ g < nx) (hd : nodB [a, b, c, d, e, g] = true)
    (hk : filtK [a, b, c, d, e, g] l fun l2 => K r ⟨rdN t s' a b c d e g ++ l2, nx⟩) : CallX Try.prog G0 (.fn f [] []) (.ptr a 0 :: .ptr g 0 :: avs) ⟨l, nx⟩ K := by
  have e0 : enter [a, b, c, d, e, g] a 0 := rfl
  have e1 : enter [a, b, c, d, e, g] b 1 := rfl
  have e2 : enter [a, b, c, d, e, g] c 2 := rfl
  have e3 : enter [a, b, c, d, e, g] d 3 := rfl
  have e4 : enter [a, b, c, d, e, g] e 4 := rfl
  have e5 : enter [a, b, c, d, e, g] g 5 := rfl
  have k0 : back [a, b, c, d, e, g] nx 0 a := rfl
  have k1 : back [a, b, c, d, e, g] nx 1 b := rfl
  have k2 : back [a, b, c, d, e, g] nx 2 c := rfl
  have k3 : back [a, b, c, d, e, g] nx 3 d := rfl
  have k4 : back [a, b, c, d, e, g] nx 4 e := rfl
  have k5 : back [a, b, c, d, e, g] nx 5 g := rfl
  refine cx_loc (l1 := rdN t s' a b c d e g) [a, b, c, d, e, g] hc.out plainG hd
    (.cons e0 h0 (rn_tabC e1 e4) (.cons e1 h1 ⟨rn_sl e2, rn_sl e3, rn_plain plain_int, trivial⟩ (.cons e2 h2 rnl_cells (.cons e3 h3 rnl_ends (.maps e4 h4 key_plain (.cons e5 h5 (rnl_plain a_plain) .nil))))))
    ?_ (by intro x hx; simp only [List.mem_cons, List.not_mem_nil, or_false] at hx; omega) (rn_plain hc.pr)
    (.cons k0 (rn_tabC k1 k4) (.cons k1 ⟨rn_sl k2, rn_sl k3, rn_plain plain_int, trivial⟩ (.cons k2 rnl_cells (.cons k3 rnl_ends (.maps k4 key_plain (.cons k5 (rnl_plain a_plain) .nil)))))) hk
  simp only [List.nil_append, List.append_nil]
  exact ⟨rn_ptr e0, rn_ptr e5, rnl_plain hc.pa⟩
theorem dcx_tx {f : Nat} {avs : List AV} {t : TS} {s s' : Sy} {a b c d e g : Nat} {h : Hp} {r : AV} {K : AV → Up → List Nat → Prop} (hc : LocTX f avs t s r s')
    (h0 : lk h.l a = some (.cells (tabC b e t.C))) (h1 : lk h.l b = some (.cells [.sl c 0 t.n t.n 7, .sl d 0 t.m t.m 3, .int .i64 (t.S.fr : Nat)])) (h2 : lk h.l c = some (.cells (cellsB t.n t.V t.W t.V3 t.V4 t.S.L t.S.N t.S.P))) (h3 : lk h.l d = some (.cells (endsB t.m t.S.A t.S.B t.S.C))) (h4 : lk h.l e = some (.maps (t.E.map keyE))) (h5 : lk h.l g = some (.cells s.a))
    (hd : nodB [a, b, c, d, e, g] = true) (hnx' : [a, b, c, d, e, g].contains h.next = false)
    (hk : K r [(a, some (.cells (tabC b e t.C))), (b, some (.cells [.sl c 0 t.n t.n 7, .sl d 0 t.m t.m 3, .int .i64 (t.S.fr : Nat)])), (c, some (.cells (cellsB t.n t.V t.W t.V3 t.V4 t.S.L t.S.N t.S.P))), (d, some (.cells (endsB t.m t.S.A t.S.B t.S.C))), (e, some (.maps (t.E.map keyE))), (g, some (.cells s'.a))] [a, b, c, d, e, g]) : DCallX Try.prog G0 f (.ptr a 0 :: .ptr g 0 :: avs) h K := by
  have hnx : h.next ∉ [a, b, c, d, e, g] := fun hm => by rw [List.contains_eq_mem, decide_eq_false_iff_not] at hnx'; exact hnx' hm
  have e0 : enter [a, b, c, d, e, g] a 0 := rfl
  have e1 : enter [a, b, c, d, e, g] b 1 := rfl
  have e2 : enter [a, b, c, d, e, g] c 2 := rfl
  have e3 : enter [a, b, c, d, e, g] d 3 := rfl
  have e4 : enter [a, b, c, d, e, g] e 4 := rfl
  have e5 : enter [a, b, c, d, e, g] g 5 := rfl
  have k0 : enterB [a, b, c, d, e, g] 0 a := rfl
  have k1 : enterB [a, b, c, d, e, g] 1 b := rfl
  have k2 : enterB [a, b, c, d, e, g] 2 c := rfl
  have k3 : enterB [a, b, c, d, e, g] 3 d := rfl
  have k4 : enterB [a, b, c, d, e, g] 4 e := rfl
  have k5 : enterB [a, b, c, d, e, g] 5 g := rfl
  refine dcx_loc (l1 := rdN t s' a b c d e g) [a, b, c, d, e, g] hc.out plainG hd
    (.cons e0 h0 (rn_tabC e1 e4) (.cons e1 h1 ⟨rn_sl e2, rn_sl e3, rn_plain plain_int, trivial⟩ (.cons e2 h2 rnl_cells (.cons e3 h3 rnl_ends (.maps e4 h4 key_plain (.cons e5 h5 (rnl_plain a_plain) .nil))))))
    hnx ?_ ?_ ⟨rn_ptr e0, rn_ptr e5, rnl_plain hc.pa⟩ (rn_plain hc.pr)
    (.cons k0 (rn_tabC k1 k4) (.cons k1 ⟨rn_sl k2, rn_sl k3, rn_plain plain_int, trivial⟩ (.cons k2 rnl_cells (.cons k3 rnl_ends (.maps k4 key_plain (.cons k5 (rnl_plain a_plain) .nil)))))) hk
  · intro x hx
    simp only [rdN, lk]
    repeat' split
    all_goals first | exact ⟨_, rfl⟩ | (exfalso; simp only [List.mem_cons, List.not_mem_nil, or_false] at hx; omega)
  · intro j x hx
    have : j < 6 := (List.getElem?_eq_some_iff.1 hx).1
    simp only [rdN, lk]
    repeat' split
    all_goals first | exact ⟨_, rfl⟩ | (exfalso; omega)
section
variable {L : List Vw} {t : TS} {s : Sy} {v : Vw} {fs : List Nat}
theorem frs_mem (hv : v ∈ L) : v.2.2.1 ∈ frs L := List.mem_map.2 ⟨v, hv, rfl⟩
theorem x_byteOfG (g : Nat) (w : Bool) (h : TOk L t) (hs : SyOk fs s) (hf : v.2.2.1 ∈ fs) (hv : v ∈ L) {k : Nat} (hk : k < 64) : LocTX 25 [.agg [.int .i64 (v.1 : Nat), .int .i64 (v.2.1 : Nat), .int .i64 (g : Nat), .bool w], .int .i64 (k : Nat)] t s (.int .i64 (s.B v.2.2.1 k)) s := by
  have hok := h.ok v hv
  have hw := t_where h hv (at_ := v.2.1 * 64 + k) (by omega) (by omega) (w := false) (fun e => by cases e)
  rw [show (v.2.1 * 64 + k) % 64 = k by omega, show ((v.2.1 * 64 + k : Nat) : Int) = (v.2.1 : Int) * 64 + (k : Nat) by omega] at hw
  have hr := p_read (s := s) (a := ((v.2.2.1 * 64 + k : Nat) : Int))
  rw [sy_read hs hok.2.2 hf hk] at hr
  dsimp only at hr
  have hb := hs.byte v.2.2.1 k
  refine LocTX.mk (loc_x hmix b25 rfl ?_) (fun x hx => by simp only [List.mem_cons, List.not_mem_nil, or_false] at hx; rcases hx with rfl | rfl; exact plain_vwE; exact plain_int) plain_int
  unfold c25
  generalize s.B v.2.2.1 k = y at *
  (refine wx_Ec ?_; repeat' (first | with_reducible refine And.intro ?_ ?_ | intro hsp))
  all_goals exact end_TX (fun hs => wk_int rfl) rfl rfl rfl rfl rfl rfl
theorem x_byteOf (h : TOk L t) (hs : SyOk fs s) (hf : v.2.2.1 ∈ fs) (hv : v ∈ L) {k : Nat} (hk : k < 64) : LocTX 25 [.agg (vwC v), .int .i64 (k : Nat)] t s (.int .i64 (s.B v.2.2.1 k)) s := x_byteOfG v.2.2.1 v.2.2.2 h hs hf hv hk
end
end Go.Proofs.Ytccbhbdbmmkcdaa.Sh
