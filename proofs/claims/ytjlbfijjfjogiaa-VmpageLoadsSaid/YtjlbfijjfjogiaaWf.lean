/-
  Load of the document.
-/
import Derived.Test.YtjlbfijjfjogiaaVmJ
import Derived.Test.YtjlbfijjfjogiaaTky
set_option linter.unusedSimpArgs false
set_option linter.unusedVariables false
namespace Go.Pol
open Go.Am
section
variable {K : Nat → Int} {G : Nat → Bool} {B : Nat → Nat → Int} {P : List AV} {p : Nat} {b : Nat → Int}
theorem rfk_setBytes (hp : p < 1024) : over (refK K G B P) (1088 + p * 64) (byA b) = refK K G (updP B p b) P := by
  rw [refK, memA_over]
  simp only [by_len]
  refine ref_ext (fun q hq => by rw [if_neg (by omega), refF_kind hq]) (fun g hg => by rw [if_neg (by omega), refF_huge hg]) (fun q hq k hk => ?_) fun i hi => by rw [if_neg (by omega), refF_plan]
  rw [refF_byte hq hk]; unfold updP
  by_cases h2 : q = p
  · subst h2
    rw [if_pos (by omega), if_pos rfl, show 1088 + q * 64 + k - (1088 + q * 64) = k by omega, byA_get hk]; rfl
  · rw [if_neg (by omega), if_neg h2]
end
theorem map_injL {α β : Type} {f : α → β} : ∀ {l m : List α}, (∀ a, a ∈ l → ∀ b, b ∈ m → f a = f b → a = b) → l.map f = m.map f → l = m
  | [], [], _, _ => rfl
  | [], _ :: _, _, h => by cases h
  | _ :: _, [], _, h => by cases h
  | a :: l, b :: m, hf, h => by
    rw [List.map_cons, List.map_cons, List.cons.injEq] at h
    rw [hf a (List.mem_cons_self ..) b (List.mem_cons_self ..) h.1, map_injL (fun x hx y hy => hf x (List.mem_cons_of_mem _ hx) y (List.mem_cons_of_mem _ hy)) h.2]
theorem rnA_inj {a b : Rn} (h : rnA a = rnA b) : a = b := by
  unfold rnA at h
  simp only [List.cons.injEq, AV.int.injEq, true_and, and_true] at h
  obtain ⟨h1, h2, h3⟩ := h
  cases a; cases b; simp only at h1 h2 h3; rw [h1, h2, h3]
theorem inA_inj {a b : Int} (h : inA a = inA b) : a = b := by
  unfold inA at h
  simp only [List.cons.injEq, AV.int.injEq, true_and, and_true] at h
  exact h
theorem dtA_inj {a b : Dt} (ha : ∀ j, 64 ≤ j → a.b j = 0) (hb : ∀ j, 64 ≤ j → b.b j = 0) (h : dtA a = dtA b) : a = b := by
  unfold dtA at h
  rw [List.cons.injEq, AV.int.injEq] at h
  have hby : a.b = b.b := by
    funext j
    by_cases hj : j < 64
    · have := congrArg (fun y : List AV => y[j]?) h.2
      simp only [byA_get hj, Option.some.injEq, AV.int.injEq, true_and] at this
      exact this
    · rw [ha j (by omega), hb j (by omega)]
  cases a; cases b; simp only at h hby; rw [h.1.2, hby]
theorem data_cn {B : Nat → Nat → Int} (hB : ∀ p j, 64 ≤ j → B p j = 0) : ∀ {n : Nat} {d : Dt}, d ∈ dataTo B n → ∀ j, 64 ≤ j → d.b j = 0
  | 0, _, h => by cases h
  | n + 1, d, h => by
    have e : dataTo B (n + 1) = if zeroB (B n) then dataTo B n else dataTo B n ++ [⟨(n : Nat), B n⟩] := rfl
    rw [e] at h
    split at h
    · exact data_cn hB h
    · rcases List.mem_append.1 h with h | h
      · exact data_cn hB h
      · obtain rfl := List.mem_singleton.1 h; exact hB n
/-- What is laid out, saved, is compared with what was said. -/
theorem sameV_L {x : Vs} {s : Sy} (hc : x.cn) (h : ldL x = some s) (hs : sameV s.saveR x) : s.saveR = x := by
  obtain ⟨K, G, B, h1, h2, h3, rfl⟩ := ldL_of.1 h
  have hB : ∀ p j, 64 ≤ j → B p j = 0 := by
    have key : ∀ (D : List Dt) (B0 B1 : Nat → Nat → Int), (∀ d, d ∈ D → ∀ j, 64 ≤ j → d.b j = 0) → (∀ p j, 64 ≤ j → B0 p j = 0) → fo lyD D B0 = some B1 → ∀ p j, 64 ≤ j → B1 p j = 0 := by
      intro D
      induction D with
      | nil => intro B0 B1 _ h0 e; rw [← Option.some.inj e]; exact h0
      | cons d D ih =>
        intro B0 B1 hd h0 e
        cases e1 : lyD B0 d with
        | none => rw [fo_no e1] at e; cases e
        | some t =>
          rw [fo_cons e1] at e
          refine ih t B1 (fun d' hd' => hd d' (List.mem_cons_of_mem _ hd')) ?_ e
          unfold lyD at e1
          split at e1
          · cases e1
          rw [← Option.some.inj e1]
          intro p j hj
          unfold updP
          split
          · exact hd d (List.mem_cons_self ..) j hj
          · exact h0 p j hj
    exact key x.D _ B hc (fun _ _ _ => rfl) h3
  have hB2 : ∀ p j, 64 ≤ j → (fun p => if K p = 2 then B p else fun _ => 0) p j = 0 := fun p j hj => by
    dsimp only
    split
    · exact hB p j hj
    · rfl
  obtain ⟨⟨e1, e2, e3⟩, -⟩ := hs
  have r1 := map_injL (fun a _ b _ => rnA_inj) e1
  have r2 := map_injL (fun a _ b _ => inA_inj) e2
  have r3 := map_injL (fun a ha b hb => dtA_inj (data_cn hB2 ha) (hc b hb)) e3
  cases x
  simp only [Sy.saveR, Sy.save] at r1 r2 r3 ⊢
  rw [r1, r2, r3]
theorem ldP_noL {x : Vs} (hc : x.cn) (h : ldL x = none) : ldP x = none := by
  cases e : ldP x with
  | none => rfl
  | some s => have := ((ldL_same hc).1 e).1; rw [h] at this; cases this
theorem ldP_noS {x : Vs} {s : Sy} (hc : x.cn) (h : ldL x = some s) (hs : ¬ s.saveR = x) : ldP x = none := by
  cases e : ldP x with
  | none => rfl
  | some t =>
    have := (ldL_same hc).1 e
    rw [h] at this
    obtain rfl := Option.some.inj this.1
    exact absurd this.2 hs
section
variable {R : List Rn} {U : List Int} {D : List Dt} {l : List Rl} {C H : Nat → Int}
theorem lyR_none (h : fo lyR R (fun _ => 0) = none) : ldL ⟨R, U, D, l, C, H⟩ = none := by unfold ldL; dsimp only; rw [h]
theorem lyU_none {K : Nat → Int} (hr : fo lyR R (fun _ => 0) = some K) (h : fo (lyU K) U (fun _ => false) = none) : ldL ⟨R, U, D, l, C, H⟩ = none := by unfold ldL; dsimp only; rw [hr]; dsimp only; rw [h]
theorem lyD_none {K : Nat → Int} {G : Nat → Bool} (hr : fo lyR R (fun _ => 0) = some K) (hu : fo (lyU K) U (fun _ => false) = some G) (h : fo lyD D (fun _ _ => 0) = none) : ldL ⟨R, U, D, l, C, H⟩ = none := by unfold ldL; dsimp only; rw [hr]; dsimp only; rw [hu]; dsimp only; rw [h]
end
def dRn0 : Rn := ⟨0, 0, 0⟩
/-- What comes out of the document's loading. -/
def ldPostB (o : Option Sy) : AV → Hp → Prop := match o with
  | none => fun v h => v = .tup [.nilp, .int .i64 6] ∧ h = ⟨[], 0⟩
  | some s => fun v h => v = .tup [.ptr 0 0, .int .i64 0] ∧ h = ⟨[(0, .cells s.b)], 1⟩
end Go.Pol
namespace Go.Proofs.Ytjlbfijjfjogiaa
open Go Go.Am Go.Pol
theorem end_lbN {top : Bool} {h : Hp} {x : AV} {o : Option Sy} (ho : o = none) (hx : x = .tup [.nilp, .int .i64 6]) : EndX top Try.prog 0 h x (ldPostB o) := by
  subst ho; subst hx
  exact end_loc [] rfl (Nat.zero_le _) (oneOf_of rfl) (wk_plain (fun i o hi => by cases hi) (plain_tup (plain_2 plain_nilp plain_int))) wko_nil ⟨rfl, rfl⟩
theorem end_lbS {top : Bool} {h : Hp} {x : AV} {o : Option Sy} {i : Nat} {cs : List AV} {s : Sy} (ho : o = some s) (hx : x = .tup [.ptr i 0, .int .i64 0]) (hc : cs = s.b) (h0 : lk h.l i = some (.cells cs)) : EndX top Try.prog 0 h x (ldPostB o) := by
  subst ho
  exact end_new hx hc h0 b_plain
theorem wkx_Wf {p : Prop} (h : p := by (refine weak_s (by exact oneOf_of rfl) (by exact subH_of rfl) (by intro hs; (repeat' ((try (conv => whnf)); first | with_reducible exact True.intro | with_reducible refine And.intro ?_ ?_ | (with_reducible refine WkX.mk ?_; first | exact wk_undef | exact wk_int (by first | rfl | omega | (dsimp only; omega)) | exact wk_bool rfl | exact wk_ptr rfl (by first | decide | simp | omega) | exact wk_sl rfl (by first | decide | simp | omega) (by first | rfl | omega | simp) (by first | omega | simp) (by first | omega | simp) | exact wk_own rfl (by first | decide | simp | omega) | exact wk_nil0 (by first | rfl | simp) | exact wk_slown rfl (by first | decide | omega | (simp; done)) (by first | omega | (simp; done)) (by first | rfl | omega | (simp; done) | (simp; omega)) | exact wk_plain hs (by (first | assumption | exact plain_int | exact plain_bool | exact plain_undef | exact plain_nils | exact plain_nilp | exact plain_nilf | exact plain_str | with_reducible apply plain_rl | with_reducible apply plain_rls | with_reducible apply plain_pl | with_reducible apply plain_ii | with_reducible apply plain_st | with_reducible apply plain_stE | with_reducible apply plain_zst | with_reducible apply plain_zstE | with_reducible apply plain_irl | with_reducible apply plain_mk | with_reducible apply plain_stB | with_reducible apply plain_zstB | with_reducible apply plain_isls rnA_plain | with_reducible apply plain_isls inA_plain | with_reducible apply plain_isls dtA_plain | with_reducible apply plain_vs)) | (with_reducible refine wk_fn ?_ ?_ <;> repeat' (first | with_reducible exact wkl_nil | with_reducible refine wkl_cons ?_ ?_ | exact wk_ptr rfl (by first | decide | simp | omega))) | (with_reducible refine wk_agg ?_; repeat' (first | with_reducible exact wkl_nil | with_reducible refine wkl_cons ?_ ?_ | exact wk_int (by first | rfl | omega | (dsimp only; omega)) | exact wk_bool rfl)) | exact wk_yld rfl (by first | decide | simp | omega))))) (by intro hs; (try dsimp only); (repeat' (first | with_reducible exact wko_nil | refine wko_plain hs (by first | decide | omega | simp) rfl (by first | rfl) (by (first | with_reducible assumption | with_reducible apply rlA_plain _ | with_reducible apply plain_flat rlA_plain | with_reducible apply plain_flat rnA_plain | with_reducible apply rnA_plain | with_reducible apply stA_plain | with_reducible apply memT_plain | with_reducible apply sys_plain stA_plain | with_reducible apply rfk_plain stA_plain | with_reducible apply b_plain | with_reducible apply a_plain | with_reducible apply rfk_plain hPp | with_reducible apply plain_map (fun _ => plain_int) | with_reducible apply plain_map (fun _ => plain_bool) | ((repeat' (first | exact plain_all0 | refine plain_all2 ?_ ?_ | exact plain_int | first | assumption | exact plain_int | exact plain_bool | exact plain_undef | exact plain_nils | exact plain_nilp | exact plain_nilf | exact plain_str | with_reducible apply plain_rl | with_reducible apply plain_rls | with_reducible apply plain_pl | with_reducible apply plain_ii | with_reducible apply plain_st | with_reducible apply plain_stE | with_reducible apply plain_zst | with_reducible apply plain_zstE | with_reducible apply plain_irl | with_reducible apply plain_mk | with_reducible apply plain_stB | with_reducible apply plain_zstB | with_reducible apply plain_isls rnA_plain | with_reducible apply plain_isls inA_plain | with_reducible apply plain_isls dtA_plain | with_reducible apply plain_vs)); done) | ((refine plain_app ?_ ?_) <;> (first | with_reducible assumption | with_reducible apply rlA_plain _ | with_reducible apply plain_flat rlA_plain | with_reducible apply plain_flat rnA_plain | with_reducible apply rnA_plain | with_reducible apply stA_plain | with_reducible apply memT_plain | with_reducible apply sys_plain stA_plain | with_reducible apply rfk_plain stA_plain | with_reducible apply b_plain | with_reducible apply a_plain | with_reducible apply rfk_plain hPp | with_reducible apply plain_map (fun _ => plain_int) | with_reducible apply plain_map (fun _ => plain_bool) | ((repeat' (first | exact plain_all0 | refine plain_all2 ?_ ?_ | exact plain_int | first | assumption | exact plain_int | exact plain_bool | exact plain_undef | exact plain_nils | exact plain_nilp | exact plain_nilf | exact plain_str | with_reducible apply plain_rl | with_reducible apply plain_rls | with_reducible apply plain_pl | with_reducible apply plain_ii | with_reducible apply plain_st | with_reducible apply plain_stE | with_reducible apply plain_zst | with_reducible apply plain_zstE | with_reducible apply plain_irl | with_reducible apply plain_mk | with_reducible apply plain_stB | with_reducible apply plain_zstB | with_reducible apply plain_isls rnA_plain | with_reducible apply plain_isls inA_plain | with_reducible apply plain_isls dtA_plain | with_reducible apply plain_vs)); done))))) ?_ | refine wko_cells (by first | decide | omega | simp) rfl (by repeat' (first | with_reducible exact wkl_nil | with_reducible refine wkl_cons ?_ ?_ | (first | exact wk_undef | exact wk_int (by first | rfl | omega | (dsimp only; omega)) | exact wk_bool rfl | exact wk_ptr rfl (by first | decide | simp | omega) | exact wk_sl rfl (by first | decide | simp | omega) (by first | rfl | omega | simp) (by first | omega | simp) (by first | omega | simp) | exact wk_own rfl (by first | decide | simp | omega) | exact wk_nil0 (by first | rfl | simp) | exact wk_slown rfl (by first | decide | omega | (simp; done)) (by first | omega | (simp; done)) (by first | rfl | omega | (simp; done) | (simp; omega)) | exact wk_plain hs (by (first | assumption | exact plain_int | exact plain_bool | exact plain_undef | exact plain_nils | exact plain_nilp | exact plain_nilf | exact plain_str | with_reducible apply plain_rl | with_reducible apply plain_rls | with_reducible apply plain_pl | with_reducible apply plain_ii | with_reducible apply plain_st | with_reducible apply plain_stE | with_reducible apply plain_zst | with_reducible apply plain_zstE | with_reducible apply plain_irl | with_reducible apply plain_mk | with_reducible apply plain_stB | with_reducible apply plain_zstB | with_reducible apply plain_isls rnA_plain | with_reducible apply plain_isls inA_plain | with_reducible apply plain_isls dtA_plain | with_reducible apply plain_vs)) | (with_reducible refine wk_fn ?_ ?_ <;> repeat' (first | with_reducible exact wkl_nil | with_reducible refine wkl_cons ?_ ?_ | exact wk_ptr rfl (by first | decide | simp | omega))) | (with_reducible refine wk_agg ?_; repeat' (first | with_reducible exact wkl_nil | with_reducible refine wkl_cons ?_ ?_ | exact wk_int (by first | rfl | omega | (dsimp only; omega)) | exact wk_bool rfl)) | exact wk_yld rfl (by first | decide | simp | omega)))) ?_ | refine wko_loop (by first | decide | omega | simp) rfl (by ((try subst hF); (try subst hF2); exact wkl_sd (wkf_sget (by (repeat' ((try (conv => whnf)); first | with_reducible exact True.intro | with_reducible refine And.intro ?_ ?_ | (with_reducible refine WkX.mk ?_; first | exact wk_undef | exact wk_int (by first | rfl | omega | (dsimp only; omega)) | exact wk_bool rfl | exact wk_ptr rfl (by first | decide | simp | omega) | exact wk_sl rfl (by first | decide | simp | omega) (by first | rfl | omega | simp) (by first | omega | simp) (by first | omega | simp) | exact wk_own rfl (by first | decide | simp | omega) | exact wk_nil0 (by first | rfl | simp) | exact wk_slown rfl (by first | decide | omega | (simp; done)) (by first | omega | (simp; done)) (by first | rfl | omega | (simp; done) | (simp; omega)) | exact wk_plain hs (by (first | assumption | exact plain_int | exact plain_bool | exact plain_undef | exact plain_nils | exact plain_nilp | exact plain_nilf | exact plain_str | with_reducible apply plain_rl | with_reducible apply plain_rls | with_reducible apply plain_pl | with_reducible apply plain_ii | with_reducible apply plain_st | with_reducible apply plain_stE | with_reducible apply plain_zst | with_reducible apply plain_zstE | with_reducible apply plain_irl | with_reducible apply plain_mk | with_reducible apply plain_stB | with_reducible apply plain_zstB | with_reducible apply plain_isls rnA_plain | with_reducible apply plain_isls inA_plain | with_reducible apply plain_isls dtA_plain | with_reducible apply plain_vs)) | (with_reducible refine wk_fn ?_ ?_ <;> repeat' (first | with_reducible exact wkl_nil | with_reducible refine wkl_cons ?_ ?_ | exact wk_ptr rfl (by first | decide | simp | omega))) | (with_reducible refine wk_agg ?_; repeat' (first | with_reducible exact wkl_nil | with_reducible refine wkl_cons ?_ ?_ | exact wk_int (by first | rfl | omega | (dsimp only; omega)) | exact wk_bool rfl)) | exact wk_yld rfl (by first | decide | simp | omega)))))))) ?_ | exact wko_nil))))) : p := h
theorem wwf {p q : Prop} (hq : q) (h : HidP q → p := by (intro hQz; ((repeat' ((try (conv => whnf)); first | (with_reducible first | refine run_cons ?_ | refine runq_cons ?_ | refine code_seq ?_ | refine code_reg ?_ | refine code_cond ?_ | refine run_nil ?_ | refine runq_nil ?_ | refine rund_op rfl ?_ | refine rund_nil ?_ | refine code_block ?_ | refine code_skip ?_ | refine code_exit ?_ | refine code_ret ?_ | refine code_range ?_ | refine rund_fast (by decide +kernel) ?_ | refine rund_slow (by decide +kernel) ?_ | refine br_tt ?_ | refine br_ff ?_ | refine br_n ?_ | refine br_and ?_ | refine br_or ?_ | refine br_t (by assumption) ?_ | refine br_f (by assumption) ?_ | refine eq_i64 (by omega) ?_ | refine el_tn ?_) | ((with_reducible refine br_dt ?_ ?_); focus omega) | ((with_reducible refine br_df ?_ ?_); focus omega) | ((with_reducible apply br_dq hQz) <;> (try intro hsp hQz)) | ((with_reducible refine ck_x ?_ ?_); focus (first | omega | rfl | assumption | decide | (simp only [List.length_map, List.length_cons, List.length_nil]; omega))) | (with_reducible first | refine eq_tn ?_ | refine eq_tn1 ?_ | refine eq_tn2 ?_ | refine eq_m1 ?_ | refine eq_m2 ?_ | refine eq_zm ?_ | refine eq_z ?_ | refine len_map ?_ | refine len_sl ?_ | refine len_nils ?_ | refine len_own' ?_ | refine len_isl ?_ | refine eq_u8 (by omega) ?_ | refine eq_u16 (by omega) ?_) | refine nthK_of (by with_reducible assumption) ?_ | refine eq_of (by with_reducible assumption) ?_ | refine overK_cons (by first | (simp only [List.length_cons, List.length_nil, List.length_set]; omega) | fail) (by with_reducible assumption) ?_ | refine set1K_of (by rw [ref_len]; omega) (by with_reducible assumption) ?_ | refine el_row rn_len (by first | assumption | omega) (by with_reducible assumption) ?_ | refine el_row dt_len (by first | assumption | omega) (by with_reducible assumption) ?_ | refine el_row in_len (by first | assumption | omega) (by with_reducible assumption) ?_ | refine overK_of (by first | (rw [ref_len]; omega) | fail) (by with_reducible assumption) ?_ | refine takeK_of (by omega) (y_take (by with_reducible assumption)) ?_ | refine dropK_of (Nat.zero_le _) y_drop ?_ | refine dropK_of (by first | (simp only [List.length_cons]; omega) | fail) rfl ?_ | refine takeK_of (by first | (simp only [List.length_cons]; omega) | fail) (y_take (by with_reducible assumption)) ?_ | refine takeK_of (by omega) (by with_reducible assumption) ?_ | refine takeK_of (by first | (simp only [List.length_drop, List.length_cons]; omega) | fail) (by with_reducible assumption) ?_ | (with_reducible first | refine eq_rfl ?_ | refine ChkX.mk (by kernel_rfl) ?_ | refine code_d (by decide +kernel) ?_ | refine end_go rfl ?_) | refine cx_locS (by assumption) rfl (by omega) ?_ | refine dcx_locS (by assumption) rfl rfl ?_ | refine cx_pureS (by assumption) ?_ | refine dcx_pureS (by assumption) ?_ | refine len_map ?_ | refine len_isl ?_ | refine el_of rfl rfl ?_ | refine del_own ?_ | refine del_own' rfl ?_ | refine as_go rfl ?_ | refine rd_go rfl ?_ | refine rg_end rfl ?_ | refine flat_ownX ?_ | refine EqLX.mk ?_ | ((with_reducible apply br_bq hQz) <;> (try intro hsp hQz)) | exact hQz.out)) <;> (try (conv => whnf))))) : p := h ⟨hq⟩
section
variable {R : List Rn} {U : List Int} {D : List Dt} {l : List Rl} {C H : Nat → Int}
theorem q_load_no (he : chkS l C H ≠ 0) : PureS 13 [.agg (vsA ⟨R, U, D, l, C, H⟩)] (.tup [.nilp, .int .i64 (chkS l C H)]) := by
  have z := r_chkS l C H
  refine PureS.mk (pure_x hmix b13 plainG ⟨plain_vs, trivial⟩ (plain_tup (plain_2 plain_nilp plain_int)) rfl ?_)
  unfold c13
  simp only [vsA, stA] at z ⊢
  (refine wwf ?_; repeat' (first | with_reducible refine And.intro ?_ ?_ | intro hsp))
  all_goals first | exact end_plain rfl (plain_tup (plain_2 plain_nilp plain_int)) | (exfalso; omega)
set_option maxHeartbeats 3200000 in
set_option maxRecDepth 20000 in
theorem q_loadC (hc : chkS l C H = 0) (hcn : (⟨R, U, D, l, C, H⟩ : Vs).cn) (hR : R.length ≤ 100000) (hU : U.length ≤ 100000) (hD : D.length ≤ 100000) : LocC Try.prog G0 13 [.agg (vsA ⟨R, U, D, l, C, H⟩)] [] 0 (ldPostB (ldP ⟨R, U, D, l, C, H⟩)) := by
  have z := r_chkS l C H
  rw [hc] at z
  have hll := (chkS_ok hc).2.1
  refine loc_x hmix b13 rfl ?_
  unfold c13
  obtain ⟨o, ho⟩ : ∃ o, o = 66624 := ⟨_, rfl⟩
  obtain ⟨y, hy⟩ : ∃ y, y = refZ := ⟨_, rfl⟩
  rw [← ho, ← hy]
  have hl := refZ_lenE hy
  have hov := new_bS (l := l) (C := C) (H := H) hy ho
  unfold stA at hov
  simp only [vsA, stA] at z ⊢
  (refine wwf ?_; repeat' (first | with_reducible refine And.intro ?_ ?_ | intro hsp))
  all_goals first | (exfalso; omega) | skip
  rw [show Nat.ble (o + 15) y.length = true from Nat.ble_eq_true_of_le (by omega)]
  (refine wwf ?_; repeat' (first | with_reducible refine And.intro ?_ ?_ | intro hsp))
  clear hov z hl hy y
  generalize hP : ([.isl (l.map rlA), .int .i64 (C 0), .int .i64 (C 1), .int .i64 (C 2), .int .i64 (C 3), .int .i64 (C 4), .int .i64 (C 5), .int .i64 (C 6), .int .i64 (H 0), .int .i64 (H 1), .int .i64 (H 2), .int .i64 (H 3), .int .i64 (H 4), .int .i64 (H 5), .int .i64 (H 6)] : List AV) = P at *
  have hPp : ∀ x ∈ P, Plain x := by rw [← hP]; exact stA_plain
  have hPl : P.length = 15 := by rw [← hP]; rfl
  (refine loop_x [1, 5] (fun (q : Nat × (Nat → Int)) => [(6, .int .i64 (q.1 : Nat))]) (fun (q : Nat × (Nat → Int)) => ⟨[(0, .cells (.isl (R.map rnA) :: .isl (U.map inA) :: .isl (D.map dtA) :: P)), (1, .cells (refK q.2 (fun _ => false) (fun _ _ => 0) P))], 2⟩) (fun (q : Nat × (Nat → Int)) => q.1 ≤ R.length ∧ foI lyR R (fun _ => 0) q.1 ∧ q.2 = foA lyR R (fun _ => 0) q.1) (fun (q : Nat × (Nat → Int)) => R.length - q.1) ((0, (fun _ => 0 : Nat → Int))) [] rfl (fun _ => by first | exact Nat.zero_le _ | (dsimp only; omega)) ?_ (by ((try (conv => whnf)); exact wkx_Wf)) ?_)
  · exact ⟨Nat.zero_le _, foI_0, foA_0.symm⟩
  rintro ⟨i, K⟩ ⟨hi, hfo, hs⟩
  dsimp only at hi hfo hs ⊢
  by_cases hil : i < R.length
  · obtain ⟨p, n, k, he⟩ : ∃ p n k, nth dRn R i = ⟨p, n, k⟩ := ⟨_, _, _, rfl⟩
    have hx : rnA (nth dRn R i) = [.int .i64 p, .int .i64 n, .int .i64 k] := by rw [he]; rfl
    have z1 := r_page p
    by_cases hb : badL ⟨p, n, k⟩
    · have hN := ldP_noL hcn (lyR_none (U := U) (D := D) (l := l) (C := C) (H := H) (foI_none (d := dRn) hfo hil (by rw [← hs, he]; exact if_pos hb)))
      unfold badL at hb
      dsimp only at hb
      by_cases hpg : 0 ≤ p ∧ p < 1024
      · rw [decide_eq_true hpg] at z1
        (refine wwf ?_; repeat' (first | with_reducible refine And.intro ?_ ?_ | intro hsp))
        all_goals first | exact end_lbN hN rfl | (exfalso; omega)
      · rw [decide_eq_false hpg] at z1
        (refine wwf ?_; repeat' (first | with_reducible refine And.intro ?_ ?_ | intro hsp))
        all_goals first | exact end_lbN hN rfl | (exfalso; omega)
    · have hst := foI_s (d := dRn) hfo hil (by rw [← hs, he]; exact if_neg hb)
      unfold badL at hb
      dsimp only at hb hst
      obtain ⟨a, rfl⟩ : ∃ a : Nat, p = (a : Nat) := ⟨p.toNat, by omega⟩
      obtain ⟨m, rfl⟩ : ∃ m : Nat, n = (m : Nat) := ⟨n.toNat, by omega⟩
      rw [Int.toNat_natCast, Int.toNat_natCast] at hst
      have ham : a + m ≤ 1024 := by omega
      rw [decide_eq_true (show (0 : Int) ≤ ((a : Nat) : Int) ∧ ((a : Nat) : Int) < 1024 by omega)] at z1
      have e0 : refK K (fun _ => false) (fun _ _ => 0) P = refK (setR K a (a - a) k) (fun _ => false) (fun _ _ => 0) P := by rw [Nat.sub_self, setR_0]
      rw [e0]
      (refine wwf ?_; repeat' (first | with_reducible refine And.intro ?_ ?_ | intro hsp))
      all_goals first | (exfalso; omega) | skip
      (refine loop_x [1, 5, 6, 7] (fun (q : Nat) => [(8, .int .i64 (q : Nat))]) (fun (q : Nat) => ⟨[(0, .cells (.isl (R.map rnA) :: .isl (U.map inA) :: .isl (D.map dtA) :: P)), (1, .cells (refK (setR K a (q - a) k) (fun _ => false) (fun _ _ => 0) P)), (2, .cells [.int .i64 (a : Nat), .int .i64 (m : Nat), .int .i64 k])], 3⟩) (fun (q : Nat) => a ≤ q ∧ q ≤ a + m) (fun (q : Nat) => a + m - q) (a) [] rfl (fun _ => by first | exact Nat.zero_le _ | (dsimp only; omega)) ?_ (by ((try (conv => whnf)); exact wkx_Wf)) ?_)
      · exact ⟨Nat.le_refl _, by omega⟩
      rintro q ⟨hq1, hq2⟩
      by_cases hqm : q < a + m
      · have hset : (refK (setR K a (q - a) k) (fun _ => false) (fun _ _ => 0) P).set q (.int .i64 k) = refK (setR K a (q + 1 - a) k) (fun _ => false) (fun _ _ => 0) P := by
          rw [rfk_setKind (by omega)]
          have := setR_s (K := K) (a := a) (i := q - a) (v := k)
          rw [show a + (q - a) = q by omega] at this
          rw [this, show q - a + 1 = q + 1 - a by omega]
        (refine wwf ?_; repeat' (first | with_reducible refine And.intro ?_ ?_ | intro hsp))
        all_goals first | (exfalso; omega) | skip
        all_goals exact next_x (q + 1) [] ⟨by omega, by omega⟩ (by first | omega | (dsimp only; omega)) rfl (by exact wkx_Wf)
      · obtain rfl : q = a + m := by omega
        rw [show a + m - a = m by omega]
        (refine wwf ?_; repeat' (first | with_reducible refine And.intro ?_ ?_ | intro hsp))
        all_goals first | (exfalso; omega) | skip
        all_goals exact next_x (i + 1, setR K a m k) [] ⟨by dsimp only; omega, hst.1, hst.2.symm⟩ (by first | omega | (dsimp only; omega)) rfl (by exact wkx_Wf)
  have hr := foI_all hfo (by omega)
  rw [← hs] at hr
  clear hs hfo hi
  (refine wwf ?_; repeat' (first | with_reducible refine And.intro ?_ ?_ | intro hsp))
  all_goals first | (exfalso; omega) | skip
  (refine loop_x [1, 5] (fun (q : Nat × (Nat → Bool)) => [(9, .int .i64 (q.1 : Nat))]) (fun (q : Nat × (Nat → Bool)) => ⟨[(0, .cells (.isl (R.map rnA) :: .isl (U.map inA) :: .isl (D.map dtA) :: P)), (1, .cells (refK K q.2 (fun _ _ => 0) P))], 2⟩) (fun (q : Nat × (Nat → Bool)) => q.1 ≤ U.length ∧ foI (lyU K) U (fun _ => false) q.1 ∧ q.2 = foA (lyU K) U (fun _ => false) q.1) (fun (q : Nat × (Nat → Bool)) => U.length - q.1) ((0, (fun _ => false : Nat → Bool))) [] rfl (fun _ => by first | exact Nat.zero_le _ | (dsimp only; omega)) ?_ (by ((try (conv => whnf)); exact wkx_Wf)) ?_)
  · exact ⟨Nat.zero_le _, foI_0, foA_0.symm⟩
  rintro ⟨i, G⟩ ⟨hi, hfo, hs⟩
  dsimp only at hi hfo hs ⊢
  by_cases hil : i < U.length
  · obtain ⟨u, he⟩ : ∃ u, nth 0 U i = u := ⟨_, rfl⟩
    have hx : inA (nth 0 U i) = [.int .i64 u] := by rw [he]; rfl
    have z1 := r_page u
    have hN := fun h => ldP_noL hcn (lyU_none (D := D) (l := l) (C := C) (H := H) hr (foI_none (d := (0 : Int)) hfo hil (by rw [← hs, he]; exact if_pos h)))
    by_cases hf : fst u
    · obtain ⟨g, rfl, hg⟩ := fst_nat hf
      rw [decide_eq_true (show (0 : Int) ≤ ((g * 16 : Nat) : Int) ∧ ((g * 16 : Nat) : Int) < 1024 by omega)] at z1
      have ht : ((g * 16 : Nat) : Int).tmod 16 = 0 := hf.2.2
      have za : LocS 46 [.int .i64 (g * 16 : Nat), .int .i64 16, .int .i64 2] (refK K G (fun _ _ => 0) P) (.bool (decide (okV K (g * 16) 16 2))) (refK K G (fun _ _ => 0) P) := r_kinds hPp (g * 16) 16 2 (by omega)
      have hw : IntKind.i64.wrap (((g * 16 : Nat) : Int).tdiv 16) = ((g : Nat) : Int) := by rw [quo16 (by omega)]; omega
      have hset : (refK K G (fun _ _ => 0) P).set (1024 + g) (.bool true) = refK K (updB G g true) (fun _ _ => 0) P := rfk_setHuge hg
      by_cases hk : okC K (g * 16) 16
      · rw [decide_eq_true (okCV.1 hk)] at za
        have hst := foI_s (d := (0 : Int)) (s' := updB G g true) hfo hil (by
          rw [← hs, he]
          unfold lyU
          rw [if_neg, Int.toNat_natCast, show g * 16 / 16 = g by omega]
          rw [Int.toNat_natCast]
          rintro (h | h)
          · exact h hf
          · exact h hk)
        (refine wwf ?_; repeat' (first | with_reducible refine And.intro ?_ ?_ | intro hsp))
        all_goals first | (exfalso; omega) | skip
        all_goals exact next_x (i + 1, updB G g true) [] ⟨by dsimp only; omega, hst.1, hst.2.symm⟩ (by first | omega | (dsimp only; omega)) rfl (by exact wkx_Wf)
      · rw [decide_eq_false fun h => hk (okCV.2 h)] at za
        have hN := hN (.inr (by rw [Int.toNat_natCast]; exact hk))
        (refine wwf ?_; repeat' (first | with_reducible refine And.intro ?_ ?_ | intro hsp))
        all_goals first | exact end_lbN hN rfl | (exfalso; omega)
    · have hN := hN (.inl hf)
      by_cases hpg : 0 ≤ u ∧ u < 1024
      · rw [decide_eq_true hpg] at z1
        have ht : ¬ u.tmod 16 = 0 := fun h => hf ⟨hpg.1, hpg.2, h⟩
        (refine wwf ?_; repeat' (first | with_reducible refine And.intro ?_ ?_ | intro hsp))
        all_goals first | exact end_lbN hN rfl | (exfalso; omega) | (exfalso; exact ht (by first | assumption | omega))
      · rw [decide_eq_false hpg] at z1
        (refine wwf ?_; repeat' (first | with_reducible refine And.intro ?_ ?_ | intro hsp))
        all_goals first | exact end_lbN hN rfl | (exfalso; omega)
  have hu := foI_all hfo (by omega)
  rw [← hs] at hu
  clear hs hfo hi
  (refine wwf ?_; repeat' (first | with_reducible refine And.intro ?_ ?_ | intro hsp))
  all_goals first | (exfalso; omega) | skip
  (refine loop_x [1, 5] (fun (q : Nat × (Nat → Nat → Int)) => [(10, .int .i64 (q.1 : Nat))]) (fun (q : Nat × (Nat → Nat → Int)) => ⟨[(0, .cells (.isl (R.map rnA) :: .isl (U.map inA) :: .isl (D.map dtA) :: P)), (1, .cells (refK K G q.2 P))], 2⟩) (fun (q : Nat × (Nat → Nat → Int)) => q.1 ≤ D.length ∧ foI lyD D (fun _ _ => 0) q.1 ∧ q.2 = foA lyD D (fun _ _ => 0) q.1) (fun (q : Nat × (Nat → Nat → Int)) => D.length - q.1) ((0, (fun _ _ => 0 : Nat → Nat → Int))) [] rfl (fun _ => by first | exact Nat.zero_le _ | (dsimp only; omega)) ?_ (by ((try (conv => whnf)); exact wkx_Wf)) ?_)
  · exact ⟨Nat.zero_le _, foI_0, foA_0.symm⟩
  rintro ⟨i, B⟩ ⟨hi, hfo, hs⟩
  dsimp only at hi hfo hs ⊢
  by_cases hil : i < D.length
  · obtain ⟨p, b, he⟩ : ∃ p b, nth dDt D i = ⟨p, b⟩ := ⟨_, _, rfl⟩
    have hx : dtA (nth dDt D i) = .int .i64 p :: byA b := by rw [he]; rfl
    have z1 := r_page p
    have hyl := by_len b
    have hset := fun (a : Nat) (ha : a < 1024) => rfk_setBytes (K := K) (G := G) (B := B) (P := P) (b := b) ha
    generalize byA b = y at *
    by_cases hp : p < 0 ∨ 1024 ≤ p
    · have hN := ldP_noL hcn (lyD_none (l := l) (C := C) (H := H) hr hu (foI_none (d := dDt) hfo hil (by rw [← hs, he]; exact if_pos hp)))
      rw [decide_eq_false (show ¬ (0 ≤ p ∧ p < 1024) by omega)] at z1
      (refine wwf ?_; repeat' (first | with_reducible refine And.intro ?_ ?_ | intro hsp))
      all_goals first | exact end_lbN hN rfl | (exfalso; omega)
    · obtain ⟨a, rfl⟩ : ∃ a : Nat, p = (a : Nat) := ⟨p.toNat, by omega⟩
      rw [decide_eq_true (show (0 : Int) ≤ ((a : Nat) : Int) ∧ ((a : Nat) : Int) < 1024 by omega)] at z1
      have ha : a < 1024 := by omega
      have hset := hset a ha
      have htk : List.take 64 (List.drop 1 (AV.int .i64 ((a : Nat) : Int) :: y)) = y := y_take hyl
      have hst := foI_s (d := dDt) (s' := updP B a b) hfo hil (by
        rw [← hs, he]
        unfold lyD
        dsimp only
        rw [if_neg hp, Int.toNat_natCast])
      (refine wwf ?_; repeat' (first | with_reducible refine And.intro ?_ ?_ | intro hsp))
      all_goals first | (exfalso; omega) | skip
      all_goals exact next_x (i + 1, updP B a b) [] ⟨by dsimp only; omega, hst.1, hst.2.symm⟩ (by first | omega | (dsimp only; omega)) rfl (by exact wkx_Wf)
  have hd := foI_all hfo (by omega)
  rw [← hs] at hd
  have hL : ldL ⟨R, U, D, l, C, H⟩ = some ⟨K, G, B, l, C, H⟩ := ldL_of.2 ⟨K, G, B, hr, hu, hd, rfl⟩
  obtain ⟨s, hsd⟩ : ∃ s, s = (⟨K, G, B, l, C, H⟩ : Sy) := ⟨_, rfl⟩
  rw [← hsd] at hL
  have hbl : refK K G B P = s.b := by rw [hsd]; unfold Sy.b; rw [← hP]; rfl
  have zs := q_saveR (s := s) (by rw [hsd]; dsimp only; omega)
  have hxe : (.isl (R.map rnA) :: .isl (U.map inA) :: .isl (D.map dtA) :: P) = vsA ⟨R, U, D, l, C, H⟩ := by rw [← hP]; rfl
  have ht15 : P.take 15 = P := List.take_of_length_le (by omega)
  (refine wwf ?_; repeat' (first | with_reducible refine And.intro ?_ ?_ | intro hsp))
  all_goals first | (exfalso; omega) | skip
  rw [hbl]
  by_cases hsv : s.saveR = ⟨R, U, D, l, C, H⟩
  · have hS : ldP ⟨R, U, D, l, C, H⟩ = some s := (ldL_same hcn).2 ⟨hL, hsv⟩
    have zq := r_same (x := s.saveR) (y := ⟨R, U, D, l, C, H⟩) (by rw [hsv]; exact hR) (by rw [hsv]; exact hU) (by rw [hsv]; exact hD) (by rw [hsv]; dsimp only; omega) (b := true) ⟨fun _ => hsv ▸ sameV_rfl, fun _ => rfl⟩
    rw [← hxe] at zq
    (refine wwf ?_; repeat' (first | with_reducible refine And.intro ?_ ?_ | intro hsp))
    all_goals first | exact end_lbS hS rfl rfl rfl | (exfalso; omega) | trace_state
  · have hN := ldP_noS hcn hL hsv
    have zq := r_same (x := s.saveR) (y := ⟨R, U, D, l, C, H⟩) (Nat.le_trans runs_len (by decide)) (Nat.le_trans huge_len (by decide)) (Nat.le_trans data_len (by decide)) (by show s.l.length ≤ _; rw [hsd]; dsimp only; omega) (b := false) ⟨fun h => (by cases h), fun h => absurd (sameV_L hcn hL h) hsv⟩
    rw [← hxe] at zq
    (refine wwf ?_; repeat' (first | with_reducible refine And.intro ?_ ?_ | intro hsp))
    all_goals first | exact end_lbN hN rfl | (exfalso; omega) | trace_state
end
end Go.Proofs.Ytjlbfijjfjogiaa
