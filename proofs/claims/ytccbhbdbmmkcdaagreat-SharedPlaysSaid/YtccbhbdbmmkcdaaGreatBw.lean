/-
 The document's answer: Where.
-/
import Derived.Test.YtccbhbdbmmkcdaaGreatBf
set_option linter.unusedSimpArgs false
set_option linter.unusedVariables false
namespace Go.Proofs.YtccbhbdbmmkcdaaGreat.Sh
open Go Go.Am Go.Pol
theorem wx_Bw {p q : Prop} (hq : q) (h : HidP q → p := by (intro hQz; ((repeat' ((try (conv => whnf)); first | (with_reducible first | refine run_cons ?_ | refine runq_cons ?_ | refine code_seq ?_ | refine code_reg ?_ | refine code_cond ?_ | refine run_nil ?_ | refine runq_nil ?_ | refine rund_op rfl ?_ | refine rund_nil ?_ | refine code_block ?_ | refine code_skip ?_ | refine code_exit ?_ | refine code_ret ?_ | refine code_range ?_ | refine rund_fast (by decide +kernel) ?_ | refine rund_slow (by decide +kernel) ?_ | refine br_tt ?_ | refine br_ff ?_ | refine br_n ?_ | refine br_and ?_ | refine br_or ?_ | refine br_t (by assumption) ?_ | refine br_f (by assumption) ?_ | refine eq_i64 (by omega) ?_ | refine el_tn ?_) | ((with_reducible refine br_dt ?_ ?_); focus omega) | ((with_reducible refine br_df ?_ ?_); focus omega) | ((with_reducible apply br_dq hQz) <;> (try intro hsp hQz)) | ((with_reducible refine ck_x ?_ ?_); focus (first | omega | rfl | assumption | decide | (simp only [List.length_map, List.length_cons, List.length_nil]; omega))) | (with_reducible first | refine eq_tn ?_ | refine eq_tn1 ?_ | refine eq_tn2 ?_ | refine eq_m1 ?_ | refine eq_m2 ?_ | refine eq_zm ?_ | refine eq_z ?_ | refine len_map ?_ | refine len_sl ?_ | refine len_nils ?_ | refine len_own' ?_ | refine len_isl ?_ | refine eq_u8 (by omega) ?_ | refine eq_u16 (by omega) ?_) | refine eq_of (by with_reducible assumption) ?_ | refine el_vw (by first | assumption | omega) (by with_reducible assumption) ?_ | (with_reducible first | refine eq_rfl ?_ | refine ChkX.mk (by kernel_rfl) ?_ | refine code_q rfl ?_ | refine code_d (by decide +kernel) ?_ | refine end_go rfl ?_) | (refine cx_in hmix b69 rfl ?_; unfold c69) | refine cx_pureS (by assumption) ?_ | refine dcx_pureS (by assumption) ?_ | refine len_map ?_ | refine len_isl ?_ | refine el_of rfl rfl ?_ | refine del_own ?_ | refine del_own' rfl ?_ | refine as_go rfl ?_ | refine rd_go rfl ?_ | refine rg_end rfl ?_ | refine flat_ownX ?_ | refine EqLX.mk ?_ | ((with_reducible apply br_bq hQz) <;> (try intro hsp hQz)) | exact hQz.out)) <;> (try (conv => whnf))))) : p := h ⟨hq⟩
section
variable {L A B : List Vw} {v : Vw}
theorem q_Where {at_ : Nat} (hv1 : v.1 < 64) (hat : at_ < 65536) (hk : v.2.1 = at_ / 64) {w : Bool} (hw : w = true → v.2.2.2 = true) (hL : L = A ++ v :: B) (hA : ∀ u ∈ A, ¬ atV (v.1, at_ / 64) u) (hf4 : v.2.2.1 < 1024) (hl : L.length ≤ 4000) : PureS 72 [.agg [.isl (L.map vwC)], .int .i64 (v.1 : Nat), .int .i64 (at_ : Nat), .bool w] (.tup [.int .i64 ((v.2.2.1 * 64 + at_ % 64 : Nat) : Int), .int .i64 0]) := by
 have hq := q64 (t := at_) (by omega)
 have hr := m64 (t := at_)
 have hf := q_find v.1 (at_ / 64) hL hA ⟨rfl, hk⟩ hl
 have hle : A.length < L.length := by rw [hL]; simp
 have hx : nth dV L A.length = v := by rw [hL, nth_mid]
 rw [show ((v.2.2.1 * 64 + at_ % 64 : Nat) : Int) = (v.2.2.1 : Int) * 64 + ((at_ % 64 : Nat) : Int) by omega]
 obtain ⟨va, vk, vf, vw⟩ := v
 dsimp only at *
 cases w <;> cases vw
 all_goals try (exfalso; simp at hw; done)
 all_goals refine PureS.mk (pure_x hmix b72 plainG ⟨plain_vsA, plain_int, plain_int, plain_bool, trivial⟩ plain_t2 rfl ?_)
 all_goals unfold c72
 all_goals (refine wx_Bw ?_; repeat' (first | with_reducible refine And.intro ?_ ?_ | intro hsp))
 all_goals first | exact end_plain rfl plain_t2 | (exfalso; omega)
theorem q_Where_ro {at_ : Nat} (hv1 : v.1 < 64) (hat : at_ < 65536) (hk : v.2.1 = at_ / 64) (hw : v.2.2.2 = false) (hL : L = A ++ v :: B) (hA : ∀ u ∈ A, ¬ atV (v.1, at_ / 64) u) (hf4 : v.2.2.1 < 1024) (hl : L.length ≤ 4000) : PureS 72 [.agg [.isl (L.map vwC)], .int .i64 (v.1 : Nat), .int .i64 (at_ : Nat), .bool true] (.tup [.int .i64 0, .int .i64 220]) := by
 have hq := q64 (t := at_) (by omega)
 have hr := m64 (t := at_)
 have hf := q_find v.1 (at_ / 64) hL hA ⟨rfl, hk⟩ hl
 have hle : A.length < L.length := by rw [hL]; simp
 have hx : nth dV L A.length = v := by rw [hL, nth_mid]
 obtain ⟨va, vk, vf, vw⟩ := v
 dsimp only at *
 subst hw
 all_goals refine PureS.mk (pure_x hmix b72 plainG ⟨plain_vsA, plain_int, plain_int, plain_bool, trivial⟩ plain_t2 rfl ?_)
 all_goals unfold c72
 all_goals (refine wx_Bw ?_; repeat' (first | with_reducible refine And.intro ?_ ?_ | intro hsp))
 all_goals first | exact end_plain rfl plain_t2 | (exfalso; omega)
end
end Go.Proofs.YtccbhbdbmmkcdaaGreat.Sh
