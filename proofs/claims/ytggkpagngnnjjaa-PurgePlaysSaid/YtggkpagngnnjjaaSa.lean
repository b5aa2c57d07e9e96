/-
  Orders of a queue: plain; and why a page is ordered (the functions that collect gets).
-/
import Derived.Test.YtggkpagngnnjjaaQi
set_option linter.unusedSimpArgs false
set_option linter.unusedVariables false
namespace Go.Pol
open Go.Am
/-- Why the page at a place is ordered at a time; 0: it is not. -/
def whyT (age keep now : Int) (l : List (Int × Int)) (i : Nat) : Int := if (nth d0 l i).2 + age ≤ now then 1 else if keep < (l.length : Int) - i then 2 else 0
/-- Why the page at a place is among the first n. -/
def whyF (n why : Int) (i : Nat) : Int := if n ≤ (i : Nat) then 0 else why
/-- All pages, with reasons. -/
def ordL (l : List (Int × Int)) (W : Nat → Int) : List (Int × Int) := (List.range l.length).map fun i => ((nth d0 l i).1, W i)
theorem ordL_len (l : List (Int × Int)) (W : Nat → Int) : (ordL l W).length = l.length := by simp [ordL]
theorem ordL_nth {l : List (Int × Int)} {W : Nat → Int} {i : Nat} (hi : i < l.length) : nth d0 (ordL l W) i = ((nth d0 l i).1, W i) := by
  rw [nth_get (by rw [ordL_len]; exact hi)]
  simp [ordL]
/-- Where the collecting stops. -/
structure Stop (W : Nat → Int) (n k : Nat) : Prop where
  le : k ≤ n
  on : ∀ i, i < k → W i ≠ 0
  off : k = n ∨ W k = 0
theorem stop_from (W : Nat → Int) (n : Nat) : ∀ d k, n = k + d → (∀ i, i < k → W i ≠ 0) → ∃ k', Stop W n k'
  | 0, k, h, h1 => ⟨k, by omega, h1, .inl (by omega)⟩
  | d + 1, k, h, h1 => by
    by_cases h0 : W k = 0
    · exact ⟨k, by omega, h1, .inr h0⟩
    · exact stop_from W n d (k + 1) (by omega) fun i hi => by
        by_cases e : i = k
        · subst e; exact h0
        · exact h1 i (by omega)
theorem stop_ex (W : Nat → Int) (n : Nat) : ∃ k, Stop W n k := stop_from W n n 0 (by omega) fun i hi => by omega
theorem plain_val2 {p st : Int} : Plain (.agg [.int .i64 p, .int .i64 st]) := plain_agg fun x hx => by
  simp only [List.mem_cons, List.not_mem_nil, or_false] at hx
  rcases hx with rfl | rfl <;> exact plain_int
end Go.Pol
namespace Go.Proofs.Ytggkpagngnnjjaa
open Go Go.Am Go.Pol
/-- The store of Tick's function. -/
def tS (x : QD) (now : Int) : List (Nat × AObj) := [(0, .cells [.ptr 2 0]), (1, .cells [.int .i64 now]), (2, .cells (x.que 3)), (3, .cells (x.pool 4 5)), (4, .cells x.cells), (5, .cells x.ends)]
section
variable {x : QD}
set_option maxRecDepth 20000 in
theorem end_ts {top : Bool} {h : Hp} {N0 : Nat} {now : Int} {m m' : Int} (e : m = m') (a0 : lk h.l 0 = some (.cells [.ptr 2 0])) (a1 : lk h.l 1 = some (.cells [.int .i64 now])) (h0 : lk h.l 2 = some (.cells (x.que 3))) (h1 : lk h.l 3 = some (.cells (x.pool 4 5))) (h2 : lk h.l 4 = some (.cells x.cells)) (h3 : lk h.l 5 = some (.cells x.ends)) (hN0 : N0 ≤ 6 := by decide) :
    EndX top Try.prog N0 h (.int .i64 m) (fun r' h' => r' = .int .i64 m' ∧ h' = ⟨tS x now, 6⟩) := by
  have hs : SubH (rn []) h ⟨tS x now, 6⟩ := fun i o hi => by
    simp only [tS, lk] at hi
    show ∃ o', lk h.l i = some o'
    split at hi
    · rename_i e; subst e; exact ⟨_, a0⟩
    · split at hi
      · rename_i e; subst e; exact ⟨_, a1⟩
      · split at hi
        · rename_i e; subst e; exact ⟨_, h0⟩
        · split at hi
          · rename_i e; subst e; exact ⟨_, h1⟩
          · split at hi
            · rename_i e; subst e; exact ⟨_, h2⟩
            · split at hi
              · rename_i e; subst e; exact ⟨_, h3⟩
              · cases hi
  subst e
  exact end_loc [] rfl hN0 (oneOf_of rfl) (wk_int rfl) (wko_cells (show 0 < 6 by decide) a0 (wkl_cons (wk_ptr rfl (show 2 < 6 by decide)) wkl_nil) (wko_cells (show 1 < 6 by decide) a1 (wkl_cons (wk_int rfl) wkl_nil)
    (wko_cells (show 2 < 6 by decide) h0 (wkl_qx hs rfl (show 3 < 6 by decide))
    (wko_cells (show 3 < 6 by decide) h1 (wkl_cons (wk_sl rfl (show 4 < 6 by decide) rfl (Nat.le_refl _) (Nat.le_refl _)) (wkl_cons (wk_sl rfl (show 5 < 6 by decide) rfl (Nat.le_refl _) (Nat.le_refl _)) (wkl_cons (wk_int rfl) wkl_nil)))
    (wko_plain hs (show 4 < 6 by decide) h2 rfl cells_plain (wko_plain hs (show 5 < 6 by decide) h3 rfl ends_plain wko_nil)))))) ⟨rfl, rfl⟩
structure ClosT (x : QD) (now p st left r : Int) : Prop where
  out : LocC Try.prog G0 46 [.agg [.int .i64 p, .int .i64 st], .int .i64 left, .ptr 0 0, .ptr 1 0] (tS x now) 6 fun v h1 => v = .int .i64 r ∧ h1 = ⟨tS x now, 6⟩
set_option maxRecDepth 20000 in
theorem l_tick1 (h : GQ x) {now p st left r : Int} (hst : 0 ≤ st ∧ st ≤ 1000000000000) (hr : r = if st + x.age ≤ now then 1 else if x.keep < left then 2 else 0) : ClosT x now p st left r := by
  have ha := h.age_ok
  subst hr
  refine ClosT.mk (loc_x hmix b46 rfl ?_)
  unfold c46
  ((repeat' ((try (conv => whnf)); first | (with_reducible first | refine run_cons ?_ | refine runq_cons ?_ | refine code_seq ?_ | refine code_reg ?_ | refine code_cond ?_ | refine run_nil ?_ | refine runq_nil ?_ | refine rund_op rfl ?_ | refine rund_nil ?_ | refine code_block ?_ | refine code_skip ?_ | refine code_exit ?_ | refine code_ret ?_ | refine code_range ?_ | refine rund_fast (by decide +kernel) ?_ | refine rund_slow (by decide +kernel) ?_ | refine br_tt ?_ | refine br_ff ?_ | refine br_n ?_ | refine br_and ?_ | refine br_or ?_ | refine br_t (by assumption) ?_ | refine br_f (by assumption) ?_ | refine eq_i64 (by omega) ?_ | refine el_tn ?_) | (with_reducible refine br_d ?_ ?_ <;> intro hsp <;> first | (exfalso; omega) | skip) | ((with_reducible refine ck_x ?_ ?_); focus (first | omega | rfl | assumption | decide | (simp only [List.length_map, List.length_cons, List.length_nil]; omega))) | (with_reducible first | refine eq_tn ?_ | refine eq_tn1 ?_ | refine eq_tn2 ?_ | refine eq_m1 ?_ | refine eq_m2 ?_ | refine eq_zm ?_ | refine eq_z ?_ | refine len_map ?_ | refine len_sl ?_ | refine len_nils ?_ | refine len_own' ?_ | refine len_isl ?_ | refine eq_u8 (by omega) ?_ | refine eq_u16 (by omega) ?_) | (with_reducible first | refine eq_rfl ?_ | refine ChkX.mk (by kernel_rfl) ?_ | refine code_q rfl ?_ | refine code_d (by decide +kernel) ?_ | refine end_go rfl ?_) | refine len_map ?_ | refine len_isl ?_ | refine el_of rfl rfl ?_ | refine del_own ?_ | refine del_own' rfl ?_ | refine as_go rfl ?_ | refine rd_go rfl ?_ | refine rg_end rfl ?_ | refine flat_ownX ?_ | (with_reducible refine br_b ?_ ?_ <;> intro hsp))) <;> (try (conv => whnf)))
  · exact end_ts (by rw [if_pos hsp]) rfl rfl rfl rfl rfl rfl
  · exact end_ts (by rw [if_neg (by assumption), if_pos hsp]) rfl rfl rfl rfl rfl rfl
  · exact end_ts (by rw [if_neg (by assumption), if_neg hsp]) rfl rfl rfl rfl rfl rfl
set_option maxRecDepth 20000 in
theorem cx_tick1 {now p st left r : Int} {bq bn a b c d nx : Nat} {l : List (Nat × AObj)} {K : AV → Hp → Prop} (hc : ClosT x now p st left r)
    (g0 : lk l bq = some (.cells [.ptr a 0])) (g1 : lk l bn = some (.cells [.int .i64 now])) (hl0 : lk l a = some (.cells (x.que b))) (hl1 : lk l b = some (.cells (x.pool c d))) (hl2 : lk l c = some (.cells x.cells)) (hl3 : lk l d = some (.cells x.ends))
    (hlt : bq < nx ∧ bn < nx ∧ a < nx ∧ b < nx ∧ c < nx ∧ d < nx) (hd : nodB [bq, bn, a, b, c, d] = true)
    (hk : filtK [bq, bn, a, b, c, d] l fun l2 => K (.int .i64 r) ⟨[(bq, .cells [.ptr a 0]), (bn, .cells [.int .i64 now]), (a, .cells (x.que b)), (b, .cells (x.pool c d)), (c, .cells x.cells), (d, .cells x.ends)] ++ l2, nx⟩) :
    CallX Try.prog G0 (.fn 46 [] [.ptr bq 0, .ptr bn 0]) [.agg [.int .i64 p, .int .i64 st], .int .i64 left] ⟨l, nx⟩ K := by
  have e0 : enter [bq, bn, a, b, c, d] bq 0 := rfl
  have e1 : enter [bq, bn, a, b, c, d] bn 1 := rfl
  have e2 : enter [bq, bn, a, b, c, d] a 2 := rfl
  have e3 : enter [bq, bn, a, b, c, d] b 3 := rfl
  have e4 : enter [bq, bn, a, b, c, d] c 4 := rfl
  have e5 : enter [bq, bn, a, b, c, d] d 5 := rfl
  have k0 : back [bq, bn, a, b, c, d] nx 0 bq := rfl
  have k1 : back [bq, bn, a, b, c, d] nx 1 bn := rfl
  have k2 : back [bq, bn, a, b, c, d] nx 2 a := rfl
  have k3 : back [bq, bn, a, b, c, d] nx 3 b := rfl
  have k4 : back [bq, bn, a, b, c, d] nx 4 c := rfl
  have k5 : back [bq, bn, a, b, c, d] nx 5 d := rfl
  refine cx_loc (l1 := [(bq, .cells [.ptr a 0]), (bn, .cells [.int .i64 now]), (a, .cells (x.que b)), (b, .cells (x.pool c d)), (c, .cells x.cells), (d, .cells x.ends)]) [bq, bn, a, b, c, d] hc.out plainG hd
    (.cons e0 g0 ⟨rn_ptr e2, trivial⟩ (.cons e1 g1 ⟨rn_plain plain_int, trivial⟩ (.cons e2 hl0 (show RnL (enter [bq, bn, a, b, c, d]) (queB x.age x.ref x.keep (x.Q 0).length b x.F) (queB x.age x.ref x.keep (x.Q 0).length 3 x.F) from ⟨rn_plain plain_int, rn_plain plain_int, rn_plain plain_int, rn_plain plain_int, rn_ptr e3, rnl_plain (memI_plain 1024 x.F)⟩) (.cons e3 hl1 ⟨rn_sl e4, rn_sl e5, rn_plain plain_int, trivial⟩ (.cons e4 hl2 (rnl_plain cells_plain) (.cons e5 hl3 (rnl_plain ends_plain) .nil))))))
    (show RnL (enter [bq, bn, a, b, c, d]) [.agg [.int .i64 p, .int .i64 st], .int .i64 left, .ptr bq 0, .ptr bn 0] [.agg [.int .i64 p, .int .i64 st], .int .i64 left, .ptr 0 0, .ptr 1 0] from ⟨rn_plain plain_val2, rn_plain plain_int, rn_ptr e0, rn_ptr e1, trivial⟩) (by intro x hx; simp only [List.mem_cons, List.not_mem_nil, or_false] at hx; omega) (rn_plain plain_int)
    (.cons k0 ⟨rn_ptr k2, trivial⟩ (.cons k1 ⟨rn_plain plain_int, trivial⟩ (.cons k2 (show RnL (back [bq, bn, a, b, c, d] nx) (queB x.age x.ref x.keep (x.Q 0).length 3 x.F) (queB x.age x.ref x.keep (x.Q 0).length b x.F) from ⟨rn_plain plain_int, rn_plain plain_int, rn_plain plain_int, rn_plain plain_int, rn_ptr k3, rnl_plain (memI_plain 1024 x.F)⟩) (.cons k3 ⟨rn_sl k4, rn_sl k5, rn_plain plain_int, trivial⟩ (.cons k4 (rnl_plain cells_plain) (.cons k5 (rnl_plain ends_plain) .nil)))))) hk
/-- Force's function. -/
def fS (all n why : Int) : List (Nat × AObj) := [(0, .cells [.int .i64 all]), (1, .cells [.int .i64 n]), (2, .cells [.int .i64 why])]
structure ClosF (all n why p st left r : Int) : Prop where
  out : LocC Try.prog G0 47 [.agg [.int .i64 p, .int .i64 st], .int .i64 left, .ptr 0 0, .ptr 1 0, .ptr 2 0] (fS all n why) 3 fun v h1 => v = .int .i64 r ∧ h1 = ⟨fS all n why, 3⟩
theorem l_force1 {all n why p st left r : Int} (hb : 0 ≤ all ∧ all ≤ 100000 ∧ 0 ≤ left ∧ left ≤ 100000) (hr : r = if n ≤ all - left then 0 else why) : ClosF all n why p st left r := by
  subst hr
  refine ClosF.mk (loc_x hmix b47 rfl ?_)
  unfold c47
  ((repeat' ((try (conv => whnf)); first | (with_reducible first | refine run_cons ?_ | refine runq_cons ?_ | refine code_seq ?_ | refine code_reg ?_ | refine code_cond ?_ | refine run_nil ?_ | refine runq_nil ?_ | refine rund_op rfl ?_ | refine rund_nil ?_ | refine code_block ?_ | refine code_skip ?_ | refine code_exit ?_ | refine code_ret ?_ | refine code_range ?_ | refine rund_fast (by decide +kernel) ?_ | refine rund_slow (by decide +kernel) ?_ | refine br_tt ?_ | refine br_ff ?_ | refine br_n ?_ | refine br_and ?_ | refine br_or ?_ | refine br_t (by assumption) ?_ | refine br_f (by assumption) ?_ | refine eq_i64 (by omega) ?_ | refine el_tn ?_) | (with_reducible refine br_d ?_ ?_ <;> intro hsp <;> first | (exfalso; omega) | skip) | ((with_reducible refine ck_x ?_ ?_); focus (first | omega | rfl | assumption | decide | (simp only [List.length_map, List.length_cons, List.length_nil]; omega))) | (with_reducible first | refine eq_tn ?_ | refine eq_tn1 ?_ | refine eq_tn2 ?_ | refine eq_m1 ?_ | refine eq_m2 ?_ | refine eq_zm ?_ | refine eq_z ?_ | refine len_map ?_ | refine len_sl ?_ | refine len_nils ?_ | refine len_own' ?_ | refine len_isl ?_ | refine eq_u8 (by omega) ?_ | refine eq_u16 (by omega) ?_) | (with_reducible first | refine eq_rfl ?_ | refine ChkX.mk (by kernel_rfl) ?_ | refine code_q rfl ?_ | refine code_d (by decide +kernel) ?_ | refine end_go rfl ?_) | refine len_map ?_ | refine len_isl ?_ | refine el_of rfl rfl ?_ | refine del_own ?_ | refine del_own' rfl ?_ | refine as_go rfl ?_ | refine rd_go rfl ?_ | refine rg_end rfl ?_ | refine flat_ownX ?_ | (with_reducible refine br_b ?_ ?_ <;> intro hsp))) <;> (try (conv => whnf)))
  · rw [if_pos hsp]
    exact end_loc [] rfl (by decide) (oneOf_of rfl) (wk_int rfl) (wko_cells (show 0 < 3 by decide) rfl (wkl_cons (wk_int rfl) wkl_nil) (wko_cells (show 1 < 3 by decide) rfl (wkl_cons (wk_int rfl) wkl_nil) (wko_cells (show 2 < 3 by decide) rfl (wkl_cons (wk_int rfl) wkl_nil) wko_nil))) ⟨rfl, rfl⟩
  · rw [if_neg hsp]
    exact end_loc [] rfl (by decide) (oneOf_of rfl) (wk_int rfl) (wko_cells (show 0 < 3 by decide) rfl (wkl_cons (wk_int rfl) wkl_nil) (wko_cells (show 1 < 3 by decide) rfl (wkl_cons (wk_int rfl) wkl_nil) (wko_cells (show 2 < 3 by decide) rfl (wkl_cons (wk_int rfl) wkl_nil) wko_nil))) ⟨rfl, rfl⟩
theorem cx_force1 {all n why p st left r : Int} {a b c nx : Nat} {l : List (Nat × AObj)} {K : AV → Hp → Prop} (hc : ClosF all n why p st left r)
    (g0 : lk l a = some (.cells [.int .i64 all])) (g1 : lk l b = some (.cells [.int .i64 n])) (g2 : lk l c = some (.cells [.int .i64 why]))
    (hlt : a < nx ∧ b < nx ∧ c < nx) (hd : nodB [a, b, c] = true)
    (hk : filtK [a, b, c] l fun l2 => K (.int .i64 r) ⟨[(a, .cells [.int .i64 all]), (b, .cells [.int .i64 n]), (c, .cells [.int .i64 why])] ++ l2, nx⟩) :
    CallX Try.prog G0 (.fn 47 [] [.ptr a 0, .ptr b 0, .ptr c 0]) [.agg [.int .i64 p, .int .i64 st], .int .i64 left] ⟨l, nx⟩ K := by
  have e0 : enter [a, b, c] a 0 := rfl
  have e1 : enter [a, b, c] b 1 := rfl
  have e2 : enter [a, b, c] c 2 := rfl
  have k0 : back [a, b, c] nx 0 a := rfl
  have k1 : back [a, b, c] nx 1 b := rfl
  have k2 : back [a, b, c] nx 2 c := rfl
  exact cx_loc (l1 := [(a, .cells [.int .i64 all]), (b, .cells [.int .i64 n]), (c, .cells [.int .i64 why])]) [a, b, c] hc.out plainG hd
    (.cons e0 g0 ⟨rn_plain plain_int, trivial⟩ (.cons e1 g1 ⟨rn_plain plain_int, trivial⟩ (.cons e2 g2 ⟨rn_plain plain_int, trivial⟩ .nil)))
    (show RnL (enter [a, b, c]) [.agg [.int .i64 p, .int .i64 st], .int .i64 left, .ptr a 0, .ptr b 0, .ptr c 0] [.agg [.int .i64 p, .int .i64 st], .int .i64 left, .ptr 0 0, .ptr 1 0, .ptr 2 0] from ⟨rn_plain plain_val2, rn_plain plain_int, rn_ptr e0, rn_ptr e1, rn_ptr e2, trivial⟩) (by intro x hx; simp only [List.mem_cons, List.not_mem_nil, or_false] at hx; omega) (rn_plain plain_int)
    (.cons k0 ⟨rn_plain plain_int, trivial⟩ (.cons k1 ⟨rn_plain plain_int, trivial⟩ (.cons k2 ⟨rn_plain plain_int, trivial⟩ .nil))) hk
end
end Go.Proofs.Ytggkpagngnnjjaa
