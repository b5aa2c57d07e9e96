/-
  refused of both systems.
-/
import Derived.Test.YtjlbfijjfjogiaaSb
set_option linter.unusedSimpArgs false
set_option linter.unusedVariables false
namespace Go.Pol
open Go.Am
/-- The numbers of calls and of hits behind a call, and whether it is refused. -/
def C1 (C : Nat → Int) (k : Nat) : Nat → Int := if C k < 1000000 then updI C k (C k + 1) else C
def H1 (l : List Rl) (C H : Nat → Int) (k : Nat) : Nat → Int := if C k < 1000000 then (if refL l (k : Nat) (C k + 1) then updI H k (H k + 1) else H) else H
def isR (l : List Rl) (C : Nat → Int) (k : Nat) : Bool := if C k < 1000000 then refL l (k : Nat) (C k + 1) else false
section
variable {K : Nat → Int} {M G : Nat → Bool} {B : Nat → Nat → Int} {P P' : List AV} {o : Nat}
theorem sys_planO (h : o = 67585) (hP : P.length = 15) : ((sysB K M B P).drop o).take 15 = P := by rw [h]; exact sys_plan hP
theorem rfk_planO (h : o = 66624) (hP : P.length = 15) : ((refK K G B P).drop o).take 15 = P := by rw [h]; exact rfk_plan hP
theorem sys_setPlanO (h : o = 67585) (hP : P'.length = 15) : over (sysB K M B P) o P' = sysB K M B P' := by rw [h]; exact sys_setPlan hP
theorem rfk_setPlanO (h : o = 66624) (hP : P'.length = 15) : over (refK K G B P) o P' = refK K G B P' := by rw [h]; exact rfk_setPlan hP
end
theorem overK_cons {k : List AV → Prop} {v : AV} {vs cs ds : List AV} {o : Nat} (h : o + (v :: vs).length ≤ cs.length) (e : over cs o (v :: vs) = ds) (hk : k ds) : set1K cs o v fun cs' => overK cs' (o + 1) vs k := overK_of (vs := v :: vs) h e hk
end Go.Pol
namespace Go.Proofs.Ytjlbfijjfjogiaa
open Go Go.Am Go.Pol
theorem ws {p q : Prop} (hq : q) (h : HidP q → p := by (intro hQz; ((repeat' ((try (conv => whnf)); first | (with_reducible first | refine run_cons ?_ | refine runq_cons ?_ | refine code_seq ?_ | refine code_reg ?_ | refine code_cond ?_ | refine run_nil ?_ | refine runq_nil ?_ | refine rund_op rfl ?_ | refine rund_nil ?_ | refine code_block ?_ | refine code_skip ?_ | refine code_exit ?_ | refine code_ret ?_ | refine code_range ?_ | refine rund_fast (by decide +kernel) ?_ | refine rund_slow (by decide +kernel) ?_ | refine br_tt ?_ | refine br_ff ?_ | refine br_n ?_ | refine br_and ?_ | refine br_or ?_ | refine br_t (by assumption) ?_ | refine br_f (by assumption) ?_ | refine eq_i64 (by omega) ?_ | refine el_tn ?_) | ((with_reducible refine br_dt ?_ ?_); focus omega) | ((with_reducible refine br_df ?_ ?_); focus omega) | ((with_reducible apply br_dq hQz) <;> (try intro hsp hQz)) | ((with_reducible refine ck_x ?_ ?_); focus (first | omega | rfl | assumption | decide | (simp only [List.length_map, List.length_cons, List.length_nil]; omega))) | (with_reducible first | refine eq_tn ?_ | refine eq_tn1 ?_ | refine eq_tn2 ?_ | refine eq_m1 ?_ | refine eq_m2 ?_ | refine eq_zm ?_ | refine eq_z ?_ | refine len_map ?_ | refine len_sl ?_ | refine len_nils ?_ | refine len_own' ?_ | refine len_isl ?_ | refine eq_u8 (by omega) ?_ | refine eq_u16 (by omega) ?_) | refine nthK_of (by with_reducible assumption) ?_ | refine eq_of (by with_reducible assumption) ?_ | refine dropK_of (by rw [sys_len]; omega) rfl ?_ | refine dropK_of (by rw [ref_len]; omega) rfl ?_ | refine takeK_of (by rw [List.length_drop, sys_len]; omega) (sys_planO (by omega) rfl) ?_ | refine takeK_of (by rw [List.length_drop, ref_len]; omega) (rfk_planO (by omega) rfl) ?_ | refine overK_cons (by first | (rw [sys_len]; simp; omega) | fail) (sys_setPlanO (by omega) rfl) ?_ | refine overK_cons (by first | (rw [ref_len]; simp; omega) | fail) (rfk_setPlanO (by omega) rfl) ?_ | (with_reducible first | refine eq_rfl ?_ | refine ChkX.mk (by kernel_rfl) ?_ | refine code_q rfl ?_ | refine code_d (by decide +kernel) ?_ | refine end_go rfl ?_) | refine cx_locS (by assumption) rfl (by omega) ?_ | refine dcx_locS (by assumption) rfl rfl ?_ | refine cx_pureS (by assumption) ?_ | refine dcx_pureS (by assumption) ?_ | refine qcx_pureS (by assumption) ?_ | refine len_map ?_ | refine len_isl ?_ | refine el_of rfl rfl ?_ | refine del_own ?_ | refine del_own' rfl ?_ | refine as_go rfl ?_ | refine rd_go rfl ?_ | refine rg_end rfl ?_ | refine flat_ownX ?_ | refine EqLX.mk ?_ | ((with_reducible apply br_bq hQz) <;> (try intro hsp hQz)) | exact hQz.out)) <;> (try (conv => whnf))))) : p := h ⟨hq⟩
section
variable {K : Nat → Int} {M G : Nat → Bool} {B : Nat → Nat → Int} {l : List Rl} {C H : Nat → Int}
theorem plain_1 {x : AV} (h : Plain x) : ∀ y ∈ [x], Plain y := fun y hy => by obtain rfl := List.mem_singleton.1 hy; exact h
theorem plain_2 {x z : AV} (h : Plain x) (h' : Plain z) : ∀ y ∈ [x, z], Plain y := fun y hy => by
  rcases List.mem_cons.1 hy with rfl | hy
  · exact h
  · obtain rfl := List.mem_singleton.1 hy; exact h'
set_option maxHeartbeats 1600000 in
theorem k_ref (hv : chkS l C H = 0) {k : Nat} (hk : k < 7) : LocS 84 [.int .i64 (k : Nat)] (sysB K M B (stA l C H)) (.bool (isR l C k)) (sysB K M B (stA l (C1 C k) (H1 l C H k))) := by
  refine LocS.mk (loc_x hmix b84 rfl ?_) (sys_plain stA_plain) (sys_plain stA_plain) (plain_1 plain_int) plain_bool
  have hst := (chkS_ok hv).2.2 k hk
  unfold c84
  obtain ⟨o, ho⟩ : ∃ o, o = 67585 := ⟨_, rfl⟩
  rw [← ho]
  by_cases hC : C k < 1000000
  · have z := k_nextS hv hk hC
    unfold C1 H1 isR
    simp only [if_pos hC]
    generalize refL l (k : Nat) (C k + 1) = b at *
    generalize (if b = true then updI H k (H k + 1) else H) = H' at *
    generalize updI C k (C k + 1) = C' at *
    (refine ws ?_; repeat' (first | with_reducible refine And.intro ?_ ?_ | intro hsp))
    all_goals exact end_s (by first | rfl | (simp; done) | (congr 1; simp; assumption) | simp [*]) plain_bool rfl (sys_plain stA_plain)
  · have z := k_nextF hv hk (show C k = 1000000 from Int.le_antisymm hst.2.1 (by omega))
    unfold C1 H1 isR
    simp only [if_neg hC]
    (refine ws ?_; repeat' (first | with_reducible refine And.intro ?_ ?_ | intro hsp))
    all_goals exact end_s (by first | rfl | (simp; done) | (congr 1; simp; assumption) | simp [*]) plain_bool rfl (sys_plain stA_plain)
set_option maxHeartbeats 1600000 in
theorem r_ref (hv : chkS l C H = 0) {k : Nat} (hk : k < 7) : LocS 82 [.int .i64 (k : Nat)] (refK K G B (stA l C H)) (.bool (isR l C k)) (refK K G B (stA l (C1 C k) (H1 l C H k))) := by
  refine LocS.mk (loc_x hmix b82 rfl ?_) (rfk_plain stA_plain) (rfk_plain stA_plain) (plain_1 plain_int) plain_bool
  have hst := (chkS_ok hv).2.2 k hk
  unfold c82
  obtain ⟨o, ho⟩ : ∃ o, o = 66624 := ⟨_, rfl⟩
  rw [← ho]
  by_cases hC : C k < 1000000
  · have z := r_nextS hv hk hC
    unfold C1 H1 isR
    simp only [if_pos hC]
    generalize refL l (k : Nat) (C k + 1) = b at *
    generalize (if b = true then updI H k (H k + 1) else H) = H' at *
    generalize updI C k (C k + 1) = C' at *
    (refine ws ?_; repeat' (first | with_reducible refine And.intro ?_ ?_ | intro hsp))
    all_goals exact end_s (by first | rfl | (simp; done) | (congr 1; simp; assumption) | simp [*]) plain_bool rfl (rfk_plain stA_plain)
  · have z := r_nextF hv hk (show C k = 1000000 from Int.le_antisymm hst.2.1 (by omega))
    unfold C1 H1 isR
    simp only [if_neg hC]
    (refine ws ?_; repeat' (first | with_reducible refine And.intro ?_ ?_ | intro hsp))
    all_goals exact end_s (by first | rfl | (simp; done) | (congr 1; simp; assumption) | simp [*]) plain_bool rfl (rfk_plain stA_plain)
end
end Go.Proofs.Ytjlbfijjfjogiaa
