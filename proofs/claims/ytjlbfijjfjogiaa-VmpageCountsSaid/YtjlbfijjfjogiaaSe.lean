/-
  Calls with a function that has one cell of its own; the program's make.
-/
import Derived.Test.YtjlbfijjfjogiaaSd
set_option linter.unusedSimpArgs false
set_option linter.unusedVariables false
namespace Go.Proofs.Ytjlbfijjfjogiaa
open Go Go.Am Go.Pol
/-- Such a call, as a structure (the unifier stops at it). -/
structure LocT (f g : Nat) (cs ds : List AV) (v x y : Int) (r : AV) : Prop where
  out : LocC Try.prog G0 f [.ptr 0 0, .int .i64 x, .int .i64 y, .fn g [] [.ptr 1 0]] [(0, .cells cs), (1, .cells [.int .i64 v])] 2 fun x h1 => x = r ∧ h1 = ⟨[(0, .cells ds), (1, .cells [.int .i64 v])], 2⟩
theorem cx_two {f g : Nat} {cs ds : List AV} {v x y : Int} {a b nx : Nat} {l : List (Nat × AObj)} {r : AV} {K : AV → Hp → Prop}
    (hc : LocT f g cs ds v x y r)
    (pc : ∀ x ∈ cs, Plain x) (pd : ∀ x ∈ ds, Plain x) (pr : Plain r)
    (hl0 : lk l a = some (.cells cs)) (hl1 : lk l b = some (.cells [.int .i64 v])) (hd : nodB [a, b] = true) (hlt : a < nx ∧ b < nx)
    (hk : filtK [a, b] l fun l2 => K r ⟨[(a, .cells ds), (b, .cells [.int .i64 v])] ++ l2, nx⟩) : CallX Try.prog G0 (.fn f [] []) [.ptr a 0, .int .i64 x, .int .i64 y, .fn g [] [.ptr b 0]] ⟨l, nx⟩ K := by
  have e0 : enter [a, b] a 0 := rfl
  have e1 : enter [a, b] b 1 := rfl
  have k0 : back [a, b] nx 0 a := rfl
  have k1 : back [a, b] nx 1 b := rfl
  refine cx_loc (l1 := [(a, .cells ds), (b, .cells [.int .i64 v])]) [a, b] hc.out plainG hd (.cons e0 hl0 (rnl_plain pc) (.cons e1 hl1 (rnl_plain (plain_1 plain_int)) .nil))
    ?_ (by intro x hx; simp only [List.mem_cons, List.not_mem_nil, or_false] at hx; omega) (rn_plain pr)
    (.cons k0 (rnl_plain pd) (.cons k1 (rnl_plain (plain_1 plain_int)) .nil)) hk
  simp only [List.nil_append, List.append_nil]
  exact ⟨rn_ptr e0, rn_plain plain_int, rn_plain plain_int, rn_fn trivial ⟨rn_ptr e1, trivial⟩, trivial⟩
theorem end_3 {top : Bool} {h : Hp} {x r : AV} {ds : List AV} {v w : Int} (hr : x = r) (hp : Plain r) (h0 : lk h.l 0 = some (.cells ds)) (h1 : lk h.l 1 = some (.cells [.int .i64 v])) (h2 : lk h.l 2 = some (.cells [.int .i64 w])) (pd : ∀ x ∈ ds, Plain x) :
    EndX top Try.prog 3 h x (fun r' h' => r' = r ∧ h' = ⟨[(0, .cells ds), (1, .cells [.int .i64 v]), (2, .cells [.int .i64 w])], 3⟩) := by
  subst hr
  have hs : SubH (rn []) h ⟨[(0, .cells ds), (1, .cells [.int .i64 v]), (2, .cells [.int .i64 w])], 3⟩ := fun i o hi => by
    simp only [lk] at hi
    show ∃ o', lk h.l i = some o'
    split at hi
    · rename_i e; subst e; exact ⟨_, h0⟩
    · split at hi
      · rename_i e; subst e; exact ⟨_, h1⟩
      · split at hi
        · rename_i e; subst e; exact ⟨_, h2⟩
        · cases hi
  exact end_loc [] rfl (Nat.le_refl _) (oneOf_of rfl) (wk_plain hs hp) (wko_plain hs (show 0 < 3 by decide) h0 rfl pd (wko_plain hs (show 1 < 3 by decide) h1 rfl (plain_1 plain_int) (wko_plain hs (show 2 < 3 by decide) h2 rfl (plain_1 plain_int) wko_nil))) ⟨rfl, rfl⟩
theorem wk {p q : Prop} (hq : q) (h : HidP q → p := by (intro hQz; ((repeat' ((try (conv => whnf)); first | (with_reducible first | refine run_cons ?_ | refine runq_cons ?_ | refine code_seq ?_ | refine code_reg ?_ | refine code_cond ?_ | refine run_nil ?_ | refine runq_nil ?_ | refine rund_op rfl ?_ | refine rund_nil ?_ | refine code_block ?_ | refine code_skip ?_ | refine code_exit ?_ | refine code_ret ?_ | refine code_range ?_ | refine rund_fast (by decide +kernel) ?_ | refine rund_slow (by decide +kernel) ?_ | refine br_tt ?_ | refine br_ff ?_ | refine br_n ?_ | refine br_and ?_ | refine br_or ?_ | refine br_t (by assumption) ?_ | refine br_f (by assumption) ?_ | refine eq_i64 (by omega) ?_ | refine el_tn ?_) | ((with_reducible refine br_dt ?_ ?_); focus omega) | ((with_reducible refine br_df ?_ ?_); focus omega) | ((with_reducible apply br_dq hQz) <;> (try intro hsp hQz)) | ((with_reducible refine ck_x ?_ ?_); focus (first | omega | rfl | assumption | decide | (simp only [List.length_map, List.length_cons, List.length_nil]; omega))) | (with_reducible first | refine eq_tn ?_ | refine eq_tn1 ?_ | refine eq_tn2 ?_ | refine eq_m1 ?_ | refine eq_m2 ?_ | refine eq_zm ?_ | refine eq_z ?_ | refine len_map ?_ | refine len_sl ?_ | refine len_nils ?_ | refine len_own' ?_ | refine len_isl ?_ | refine eq_u8 (by omega) ?_ | refine eq_u16 (by omega) ?_) | refine nthK_of sys_made ?_ | refine nthK_of (by with_reducible assumption) ?_ | refine eq_of (by with_reducible assumption) ?_ | (with_reducible first | refine eq_rfl ?_ | refine ChkX.mk (by kernel_rfl) ?_ | refine code_q rfl ?_ | refine code_d (by decide +kernel) ?_ | refine end_go rfl ?_) | refine cx_two (by assumption) (sys_plain stA_plain) (sys_plain stA_plain) plain_bool rfl rfl rfl (by omega) ?_ | refine cx_two (by assumption) (sys_plain stA_plain) (sys_plain stA_plain) (plain_tup fun x hx => by cases hx) rfl rfl rfl (by omega) ?_ | refine cx_locS (by assumption) rfl (by omega) ?_ | (refine cx_in hmix b47 rfl ?_; unfold c47) | refine len_map ?_ | refine len_isl ?_ | refine el_of rfl rfl ?_ | refine del_own ?_ | refine del_own' rfl ?_ | refine as_go rfl ?_ | refine rd_go rfl ?_ | refine rg_end rfl ?_ | refine flat_ownX ?_ | refine EqLX.mk ?_ | ((with_reducible apply br_bq hQz) <;> (try intro hsp hQz)) | exact hQz.out)) <;> (try (conv => whnf))))) : p := h ⟨hq⟩
section
variable {K : Nat → Int} {M G : Nat → Bool} {B : Nat → Nat → Int} {l : List Rl} {C H : Nat → Int}
set_option maxHeartbeats 1600000 in
theorem k_make_range {v w a n : Int} {k : Nat} (h : n < 1 ∨ a < 0 ∨ 1024 ≤ a ∨ 1024 - a < n) : LocC Try.prog G0 66 [.ptr 0 0, .int .i64 a, .int .i64 n, .agg [.int .i64 (k : Nat), .fn 85 [] [.ptr 1 0], .fn 86 [] [.ptr 2 0]]] [(0, .cells (sysB K M B (stA l C H))), (1, .cells [.int .i64 v]), (2, .cells [.int .i64 w])] 3 fun x h1 => x = .int .i64 7 ∧ h1 = ⟨[(0, .cells (sysB K M B (stA l C H))), (1, .cells [.int .i64 v]), (2, .cells [.int .i64 w])], 3⟩ := by
  refine loc_x hmix b66 rfl ?_
  unfold c66
  (refine wk ?_; repeat' (first | with_reducible refine And.intro ?_ ?_ | intro hsp))
  all_goals first | exact end_3 rfl plain_int rfl rfl rfl (sys_plain stA_plain) | (exfalso; omega)
set_option maxHeartbeats 1600000 in
theorem k_make_down {v w : Int} {a n k : Nat} (h1 : 1 ≤ n) (h2 : a + n ≤ 1024) (h : ¬ okR K M a n v) : LocC Try.prog G0 66 [.ptr 0 0, .int .i64 (a : Nat), .int .i64 (n : Nat), .agg [.int .i64 (k : Nat), .fn 85 [] [.ptr 1 0], .fn 86 [] [.ptr 2 0]]] [(0, .cells (sysB K M B (stA l C H))), (1, .cells [.int .i64 v]), (2, .cells [.int .i64 w])] 3 fun x h1 => x = .int .i64 9 ∧ h1 = ⟨[(0, .cells (sysB K M B (stA l C H))), (1, .cells [.int .i64 v]), (2, .cells [.int .i64 w])], 3⟩ := by
  have z := LocT.mk (k_all (K := K) (M := M) (B := B) (stA l C H) stA_plain v a n h2)
  rw [decide_eq_false h] at z
  refine loc_x hmix b66 rfl ?_
  unfold c66
  (refine wk ?_; repeat' (first | with_reducible refine And.intro ?_ ?_ | intro hsp))
  all_goals first | exact end_3 rfl plain_int rfl rfl rfl (sys_plain stA_plain) | (exfalso; omega) | (exfalso; exact absurd hsp (by simp [*])) | skip
set_option maxHeartbeats 1600000 in
theorem k_make_ref (hv : chkS l C H = 0) {v w : Int} {a n k : Nat} (hk : k < 7) (h1 : 1 ≤ n) (h2 : a + n ≤ 1024) (h : okR K M a n v) (hr : isR l C k = true) : LocC Try.prog G0 66 [.ptr 0 0, .int .i64 (a : Nat), .int .i64 (n : Nat), .agg [.int .i64 (k : Nat), .fn 85 [] [.ptr 1 0], .fn 86 [] [.ptr 2 0]]] [(0, .cells (sysB K M B (stA l C H))), (1, .cells [.int .i64 v]), (2, .cells [.int .i64 w])] 3 fun x h1 => x = .int .i64 60 ∧ h1 = ⟨[(0, .cells (sysB K M B (stA l (C1 C k) (H1 l C H k)))), (1, .cells [.int .i64 v]), (2, .cells [.int .i64 w])], 3⟩ := by
  have z := LocT.mk (k_all (K := K) (M := M) (B := B) (stA l C H) stA_plain v a n h2)
  rw [decide_eq_true h] at z
  have z3 := LocT.mk (k_each (K := K) (M := M) (B := B) (stA l (C1 C k) (H1 l C H k)) stA_plain w a n h2)
  have z2 := k_ref (K := K) (M := M) (B := B) hv hk
  rw [hr] at z2
  refine loc_x hmix b66 rfl ?_
  unfold c66
  (refine wk ?_; repeat' (first | with_reducible refine And.intro ?_ ?_ | intro hsp))
  all_goals first | exact end_3 rfl plain_int rfl rfl rfl (sys_plain stA_plain) | (exfalso; omega) | (exfalso; exact absurd hsp (by simp [*])) | skip
set_option maxHeartbeats 1600000 in
theorem k_make_ok (hv : chkS l C H = 0) {v w : Int} {a n k : Nat} (hk : k < 7) (h1 : 1 ≤ n) (h2 : a + n ≤ 1024) (h : okR K M a n v) (hr : isR l C k = false) : LocC Try.prog G0 66 [.ptr 0 0, .int .i64 (a : Nat), .int .i64 (n : Nat), .agg [.int .i64 (k : Nat), .fn 85 [] [.ptr 1 0], .fn 86 [] [.ptr 2 0]]] [(0, .cells (sysB K M B (stA l C H))), (1, .cells [.int .i64 v]), (2, .cells [.int .i64 w])] 3 fun x h1 => x = .int .i64 0 ∧ h1 = ⟨[(0, .cells (sysB (setR K a n w) (setM M a n false) (setP B a n) (stA l (C1 C k) (H1 l C H k)))), (1, .cells [.int .i64 v]), (2, .cells [.int .i64 w])], 3⟩ := by
  have z := LocT.mk (k_all (K := K) (M := M) (B := B) (stA l C H) stA_plain v a n h2)
  rw [decide_eq_true h] at z
  have z3 := LocT.mk (k_each (K := K) (M := M) (B := B) (stA l (C1 C k) (H1 l C H k)) stA_plain w a n h2)
  have z2 := k_ref (K := K) (M := M) (B := B) hv hk
  rw [hr] at z2
  refine loc_x hmix b66 rfl ?_
  unfold c66
  (refine wk ?_; repeat' (first | with_reducible refine And.intro ?_ ?_ | intro hsp))
  all_goals first | exact end_3 rfl plain_int rfl rfl rfl (sys_plain stA_plain) | (exfalso; omega) | (exfalso; exact absurd hsp (by simp [*])) | skip
end
end Go.Proofs.Ytjlbfijjfjogiaa
