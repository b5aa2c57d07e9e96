/-
  Load of the program: its closures, and what it lays out.
  Load of the program.
-/
import Derived.Test.YtjlbfijjfjogiaaVmF
import Derived.Test.YtjlbfijjfjogiaaTl
set_option linter.unusedSimpArgs false
set_option linter.unusedVariables false
namespace Go.Pol
open Go.Am
theorem set_same {xs : List AV} {i : Nat} {v : AV} (h : xs[i]? = some v) : xs.set i v = xs := by
  refine List.ext_getElem? fun j => ?_
  by_cases e : i = j
  · subst e; rw [List.getElem?_set_self (List.getElem?_eq_some_iff.1 h).1, h]
  · rw [List.getElem?_set_ne e]
theorem new_aS {l : List Rl} {C H : Nat → Int} {o : Nat} {z : List AV} (hz : z = sysZ) (h : o = 67585) : over (z.set 0 (.bool true)) o (stA l C H) = sysB (fun _ => 0) (fun _ => false) (fun _ _ => 0) (stA l C H) := by
  rw [hz, sysZ_0, sys_setPlanO h rfl]
theorem new_bS {l : List Rl} {C H : Nat → Int} {o : Nat} {z : List AV} (hz : z = refZ) (h : o = 66624) : over z o (stA l C H) = refK (fun _ => 0) (fun _ => false) (fun _ _ => 0) (stA l C H) := by
  rw [hz, refZ_eq, rfk_setPlanO h rfl]
section
variable {K : Nat → Int} {M G : Nat → Bool} {B : Nat → Nat → Int} {P : List AV} {p : Nat} {b : Nat → Int}
theorem byA_get {t : Nat} (h : t < 64) : (byA b)[t]? = some (.int .u8 (b t)) := by unfold byA; simp [h]
theorem sys_setBytes (hp : p < 1024) : over (sysB K M B P) (1 + p * 66 + 2) (byA b) = sysB K M (updP B p b) P := by
  rw [sysB, memA_over]
  simp only [by_len]
  refine sys_ext (by rw [if_neg (by omega)]; rfl) (fun q hq j hj => ?_) fun i hi => by rw [if_neg (by omega), sysF_plan]
  unfold pageF updP
  by_cases h2 : q = p
  · subst h2
    rw [if_pos rfl]
    by_cases h0 : j = 0
    · subst h0; rw [if_neg (by omega), if_pos rfl, sysF_page hq hj]; rfl
    · by_cases h1 : j = 1
      · subst h1; rw [if_neg (by omega), if_neg h0, if_pos rfl, sysF_page hq hj]; rfl
      · rw [if_pos (by omega), if_neg h0, if_neg h1, show 1 + q * 66 + j - (1 + q * 66 + 2) = j - 2 by omega, byA_get (by omega)]; rfl
  · rw [if_neg (by omega), sysF_page hq hj, if_neg h2]; rfl
theorem setM_g {g : Nat} : setM (fun p => G (p / 16)) (g * 16) 16 true = fun p => updB G g true (p / 16) := by
  funext p
  unfold setM updB
  by_cases h : p / 16 = g
  · rw [if_pos (by omega), if_pos h]
  · rw [if_neg (by omega), if_neg h]
end
/-- What comes out of loading. -/
def ldPost (o : Option Sy) : AV → Hp → Prop := match o with
  | none => fun v h => v = .tup [.nilp, .int .i64 6] ∧ h = ⟨[], 0⟩
  | some s => fun v h => v = .tup [.ptr 0 0, .int .i64 0] ∧ h = ⟨[(0, .cells s.a)], 1⟩
/-- All numbers of a state are numbers of 64 bits. -/
def W64 (n : Int) : Prop := -9223372036854775808 ≤ n ∧ n ≤ 9223372036854775807
def Vs.wf (x : Vs) : Prop := (∀ r, r ∈ x.R → W64 r.p ∧ W64 r.n ∧ W64 r.k)
end Go.Pol
namespace Go.Proofs.Ytjlbfijjfjogiaa
open Go Go.Am Go.Pol
theorem end_ldN {top : Bool} {h : Hp} {x : AV} {o : Option Sy} (ho : o = none) (hx : x = .tup [.nilp, .int .i64 6]) : EndX top Try.prog 0 h x (ldPost o) := by
  subst ho; subst hx
  exact end_loc [] rfl (Nat.zero_le _) (oneOf_of rfl) (wk_plain (fun i o hi => by cases hi) (plain_tup (plain_2 plain_nilp plain_int))) wko_nil ⟨rfl, rfl⟩
theorem end_ldS {top : Bool} {h : Hp} {x : AV} {o : Option Sy} {i : Nat} {cs : List AV} {s : Sy} (ho : o = some s) (hx : x = .tup [.ptr i 0, .int .i64 0]) (hc : cs = s.a) (h0 : lk h.l i = some (.cells cs)) : EndX top Try.prog 0 h x (ldPost o) := by
  subst ho
  exact end_new hx hc h0 a_plain
theorem wkx_Wa {p : Prop} (h : p := by (refine weak_s (by exact oneOf_of rfl) (by exact subH_of rfl) (by intro hs; (repeat' ((try (conv => whnf)); first | with_reducible exact True.intro | with_reducible refine And.intro ?_ ?_ | (with_reducible refine WkX.mk ?_; first | exact wk_undef | exact wk_int (by first | rfl | omega | (dsimp only; omega)) | exact wk_bool rfl | exact wk_ptr rfl (by first | decide | simp | omega) | exact wk_sl rfl (by first | decide | simp | omega) (by first | rfl | omega | simp) (by first | omega | simp) (by first | omega | simp) | exact wk_own rfl (by first | decide | simp | omega) | exact wk_nil0 (by first | rfl | simp) | exact wk_slown rfl (by first | decide | omega | (simp; done)) (by first | omega | (simp; done)) (by first | rfl | omega | (simp; done) | (simp; omega)) | exact wk_plain hs (by (first | assumption | exact plain_int | exact plain_bool | exact plain_undef | exact plain_nils | exact plain_nilp | exact plain_nilf | exact plain_str | with_reducible apply plain_rl | with_reducible apply plain_rls | with_reducible apply plain_pl | with_reducible apply plain_ii | with_reducible apply plain_st | with_reducible apply plain_stE | with_reducible apply plain_zst | with_reducible apply plain_zstE | with_reducible apply plain_irl | with_reducible apply plain_mk | with_reducible apply plain_stB | with_reducible apply plain_zstB)) | (with_reducible refine wk_fn ?_ ?_ <;> repeat' (first | with_reducible exact wkl_nil | with_reducible refine wkl_cons ?_ ?_ | exact wk_ptr rfl (by first | decide | simp | omega))) | (with_reducible refine wk_agg ?_; repeat' (first | with_reducible exact wkl_nil | with_reducible refine wkl_cons ?_ ?_ | exact wk_int (by first | rfl | omega | (dsimp only; omega)) | exact wk_bool rfl)) | exact wk_yld rfl (by first | decide | simp | omega))))) (by intro hs; (try dsimp only); (repeat' (first | with_reducible exact wko_nil | refine wko_plain hs (by first | decide | omega | simp) rfl (by first | rfl) (by (first | with_reducible assumption | with_reducible apply rlA_plain _ | with_reducible apply plain_flat rlA_plain | with_reducible apply stA_plain | with_reducible apply memT_plain | with_reducible apply sys_plain stA_plain | with_reducible apply rfk_plain stA_plain | with_reducible apply sys_plain hP | with_reducible apply rfk_plain hP | with_reducible apply plain_map (fun _ => plain_int) | with_reducible apply plain_map (fun _ => plain_bool) | ((repeat' (first | exact plain_all0 | refine plain_all2 ?_ ?_ | exact plain_int | first | assumption | exact plain_int | exact plain_bool | exact plain_undef | exact plain_nils | exact plain_nilp | exact plain_nilf | exact plain_str | with_reducible apply plain_rl | with_reducible apply plain_rls | with_reducible apply plain_pl | with_reducible apply plain_ii | with_reducible apply plain_st | with_reducible apply plain_stE | with_reducible apply plain_zst | with_reducible apply plain_zstE | with_reducible apply plain_irl | with_reducible apply plain_mk | with_reducible apply plain_stB | with_reducible apply plain_zstB)); done) | ((refine plain_app ?_ ?_) <;> (first | with_reducible assumption | with_reducible apply rlA_plain _ | with_reducible apply plain_flat rlA_plain | with_reducible apply stA_plain | with_reducible apply memT_plain | with_reducible apply sys_plain stA_plain | with_reducible apply rfk_plain stA_plain | with_reducible apply sys_plain hP | with_reducible apply rfk_plain hP | with_reducible apply plain_map (fun _ => plain_int) | with_reducible apply plain_map (fun _ => plain_bool) | ((repeat' (first | exact plain_all0 | refine plain_all2 ?_ ?_ | exact plain_int | first | assumption | exact plain_int | exact plain_bool | exact plain_undef | exact plain_nils | exact plain_nilp | exact plain_nilf | exact plain_str | with_reducible apply plain_rl | with_reducible apply plain_rls | with_reducible apply plain_pl | with_reducible apply plain_ii | with_reducible apply plain_st | with_reducible apply plain_stE | with_reducible apply plain_zst | with_reducible apply plain_zstE | with_reducible apply plain_irl | with_reducible apply plain_mk | with_reducible apply plain_stB | with_reducible apply plain_zstB)); done))))) ?_ | refine wko_cells (by first | decide | omega | simp) rfl (by repeat' (first | with_reducible exact wkl_nil | with_reducible refine wkl_cons ?_ ?_ | (first | exact wk_undef | exact wk_int (by first | rfl | omega | (dsimp only; omega)) | exact wk_bool rfl | exact wk_ptr rfl (by first | decide | simp | omega) | exact wk_sl rfl (by first | decide | simp | omega) (by first | rfl | omega | simp) (by first | omega | simp) (by first | omega | simp) | exact wk_own rfl (by first | decide | simp | omega) | exact wk_nil0 (by first | rfl | simp) | exact wk_slown rfl (by first | decide | omega | (simp; done)) (by first | omega | (simp; done)) (by first | rfl | omega | (simp; done) | (simp; omega)) | exact wk_plain hs (by (first | assumption | exact plain_int | exact plain_bool | exact plain_undef | exact plain_nils | exact plain_nilp | exact plain_nilf | exact plain_str | with_reducible apply plain_rl | with_reducible apply plain_rls | with_reducible apply plain_pl | with_reducible apply plain_ii | with_reducible apply plain_st | with_reducible apply plain_stE | with_reducible apply plain_zst | with_reducible apply plain_zstE | with_reducible apply plain_irl | with_reducible apply plain_mk | with_reducible apply plain_stB | with_reducible apply plain_zstB)) | (with_reducible refine wk_fn ?_ ?_ <;> repeat' (first | with_reducible exact wkl_nil | with_reducible refine wkl_cons ?_ ?_ | exact wk_ptr rfl (by first | decide | simp | omega))) | (with_reducible refine wk_agg ?_; repeat' (first | with_reducible exact wkl_nil | with_reducible refine wkl_cons ?_ ?_ | exact wk_int (by first | rfl | omega | (dsimp only; omega)) | exact wk_bool rfl)) | exact wk_yld rfl (by first | decide | simp | omega)))) ?_ | refine wko_loop (by first | decide | omega | simp) rfl (by ((try subst hF); (try subst hF2); exact wkl_sd (wkf_sget (by (repeat' ((try (conv => whnf)); first | with_reducible exact True.intro | with_reducible refine And.intro ?_ ?_ | (with_reducible refine WkX.mk ?_; first | exact wk_undef | exact wk_int (by first | rfl | omega | (dsimp only; omega)) | exact wk_bool rfl | exact wk_ptr rfl (by first | decide | simp | omega) | exact wk_sl rfl (by first | decide | simp | omega) (by first | rfl | omega | simp) (by first | omega | simp) (by first | omega | simp) | exact wk_own rfl (by first | decide | simp | omega) | exact wk_nil0 (by first | rfl | simp) | exact wk_slown rfl (by first | decide | omega | (simp; done)) (by first | omega | (simp; done)) (by first | rfl | omega | (simp; done) | (simp; omega)) | exact wk_plain hs (by (first | assumption | exact plain_int | exact plain_bool | exact plain_undef | exact plain_nils | exact plain_nilp | exact plain_nilf | exact plain_str | with_reducible apply plain_rl | with_reducible apply plain_rls | with_reducible apply plain_pl | with_reducible apply plain_ii | with_reducible apply plain_st | with_reducible apply plain_stE | with_reducible apply plain_zst | with_reducible apply plain_zstE | with_reducible apply plain_irl | with_reducible apply plain_mk | with_reducible apply plain_stB | with_reducible apply plain_zstB)) | (with_reducible refine wk_fn ?_ ?_ <;> repeat' (first | with_reducible exact wkl_nil | with_reducible refine wkl_cons ?_ ?_ | exact wk_ptr rfl (by first | decide | simp | omega))) | (with_reducible refine wk_agg ?_; repeat' (first | with_reducible exact wkl_nil | with_reducible refine wkl_cons ?_ ?_ | exact wk_int (by first | rfl | omega | (dsimp only; omega)) | exact wk_bool rfl)) | exact wk_yld rfl (by first | decide | simp | omega)))))))) ?_ | exact wko_nil))))) : p := h
theorem wwa {p q : Prop} (hq : q) (h : HidP q → p := by (intro hQz; ((repeat' ((try (conv => whnf)); first | (with_reducible first | refine run_cons ?_ | refine runq_cons ?_ | refine code_seq ?_ | refine code_reg ?_ | refine code_cond ?_ | refine run_nil ?_ | refine runq_nil ?_ | refine rund_op rfl ?_ | refine rund_nil ?_ | refine code_block ?_ | refine code_skip ?_ | refine code_exit ?_ | refine code_ret ?_ | refine code_range ?_ | refine rund_fast (by decide +kernel) ?_ | refine rund_slow (by decide +kernel) ?_ | refine br_tt ?_ | refine br_ff ?_ | refine br_n ?_ | refine br_and ?_ | refine br_or ?_ | refine br_t (by assumption) ?_ | refine br_f (by assumption) ?_ | refine eq_i64 (by omega) ?_ | refine el_tn ?_) | ((with_reducible refine br_dt ?_ ?_); focus omega) | ((with_reducible refine br_df ?_ ?_); focus omega) | ((with_reducible apply br_dq hQz) <;> (try intro hsp hQz)) | ((with_reducible refine ck_x ?_ ?_); focus (first | omega | rfl | assumption | decide | (simp only [List.length_map, List.length_cons, List.length_nil]; omega))) | (with_reducible first | refine eq_tn ?_ | refine eq_tn1 ?_ | refine eq_tn2 ?_ | refine eq_m1 ?_ | refine eq_m2 ?_ | refine eq_zm ?_ | refine eq_z ?_ | refine len_map ?_ | refine len_sl ?_ | refine len_nils ?_ | refine len_own' ?_ | refine len_isl ?_ | refine eq_u8 (by omega) ?_ | refine eq_u16 (by omega) ?_) | refine nthK_of sys_made ?_ | refine nthK_of (by with_reducible assumption) ?_ | refine eq_of (by with_reducible assumption) ?_ | refine set1K_of (by rw [sys_len]; omega) (by with_reducible assumption) ?_ | (with_reducible first | refine eq_rfl ?_ | refine ChkX.mk (by kernel_rfl) ?_ | refine code_q rfl ?_ | refine code_d (by decide +kernel) ?_ | refine end_go rfl ?_) | refine cx_locS (by assumption) rfl (by omega) ?_ | (refine cx_in hmix b47 rfl ?_; unfold c47) | (refine cx_in hmix b39 rfl ?_; unfold c39) | (refine cx_in hmix b41 rfl ?_; unfold c41) | (refine cx_in hmix b43 rfl ?_; unfold c43) | refine len_map ?_ | refine len_isl ?_ | refine el_of rfl rfl ?_ | refine del_own ?_ | refine del_own' rfl ?_ | refine as_go rfl ?_ | refine rd_go rfl ?_ | refine rg_end rfl ?_ | refine flat_ownX ?_ | refine EqLX.mk ?_ | ((with_reducible apply br_bq hQz) <;> (try intro hsp hQz)) | exact hQz.out)) <;> (try (conv => whnf))))) : p := h ⟨hq⟩
section
variable {K : Nat → Int} {M G : Nat → Bool} {B : Nat → Nat → Int} {l : List Rl} {C H : Nat → Int}
set_option maxHeartbeats 1600000 in
theorem k_allL (P : List AV) (hP : ∀ x ∈ P, Plain x) (a n : Nat) (hn : a + n ≤ 1024) : LocS 40 [.int .i64 (a : Nat), .int .i64 (n : Nat), .fn 41 [] []] (sysB K M B P) (.bool (decide (okC K a n))) (sysB K M B P) := by
  refine LocS.mk (loc_x hmix b40 rfl ?_) (sys_plain hP) (sys_plain hP) plain_3f plain_bool
  unfold c40
  (refine wwa ?_; repeat' (first | with_reducible refine And.intro ?_ ?_ | intro hsp))
  (refine loop_x [0, 1, 2, 3, 10] (fun (i : Nat) => [(11, .int .i64 (i : Nat))]) (fun (i : Nat) => ⟨[(0, .cells (sysB K M B P))], 1⟩) (fun (i : Nat) => i ≤ n ∧ ∀ j, j < i → K (a + j) = 2) (fun (i : Nat) => n - i) (0) [] rfl (fun _ => by first | exact Nat.zero_le _ | (dsimp only; omega)) ?_ (by ((try (conv => whnf)); exact wkx_Wa)) ?_)
  · exact ⟨Nat.zero_le _, fun j hj => by omega⟩
  rintro i ⟨hi, h0⟩
  by_cases hin : i < n
  · have ht : ((a : Int) + (i : Int)).toNat = a + i := by omega
    have hk : (sysB K M B P)[1 + ((a : Int) + (i : Int)).toNat * 66 + 0]? = some (.int .i64 (K (a + i))) := by rw [ht]; exact sys_kind (by omega)
    by_cases h1 : K (a + i) = 2
    · (refine wwa ?_; repeat' (first | with_reducible refine And.intro ?_ ?_ | intro hsp))
      all_goals first | (exfalso; exact absurd h1 (by assumption)) | skip
      all_goals exact next_x (i + 1) [] ⟨by omega, fun j hj => if e : j = i then by rw [e]; exact h1 else h0 j (by omega)⟩ (by first | omega | (dsimp only; omega)) rfl (by exact wkx_Wa)
    · rw [decide_eq_false fun h => h1 (h i hin)]
      (refine wwa ?_; repeat' (first | with_reducible refine And.intro ?_ ?_ | intro hsp))
      all_goals exact end_s rfl plain_bool rfl (sys_plain hP)
  · have hok : okC K a n := fun j hj => h0 j (by omega)
    rw [decide_eq_true hok]
    (refine wwa ?_; repeat' (first | with_reducible refine And.intro ?_ ?_ | intro hsp))
    all_goals exact end_s rfl plain_bool rfl (sys_plain hP)
set_option maxHeartbeats 1600000 in
theorem k_eachL (P : List AV) (hP : ∀ x ∈ P, Plain x) (a n : Nat) (hn : a + n ≤ 1024) : LocS 42 [.int .i64 (a : Nat), .int .i64 (n : Nat), .fn 43 [] []] (sysB K M B P) (.tup []) (sysB K (setM M a n true) B P) := by
  refine LocS.mk (loc_x hmix b42 rfl ?_) (sys_plain hP) (sys_plain hP) plain_3f (plain_tup fun x hx => by cases hx)
  unfold c42
  have e0 : sysB K M B P = sysB K (setM M a 0 true) B P := by rw [setM_0]
  rw [e0]
  (refine wwa ?_; repeat' (first | with_reducible refine And.intro ?_ ?_ | intro hsp))
  (refine loop_x [0, 1, 2, 3, 9] (fun (i : Nat) => [(10, .int .i64 (i : Nat))]) (fun (i : Nat) => ⟨[(0, .cells (sysB K (setM M a i true) B P))], 1⟩) (fun (i : Nat) => i ≤ n) (fun (i : Nat) => n - i) (0) [] rfl (fun _ => by first | exact Nat.zero_le _ | (dsimp only; omega)) ?_ (by ((try (conv => whnf)); exact wkx_Wa)) ?_)
  · exact Nat.zero_le _
  rintro i hi
  by_cases hin : i < n
  · have ht : ((a : Int) + (i : Int)).toNat = a + i := by omega
    have hl : 1 + ((a : Int) + (i : Int)).toNat * 66 + 66 ≤ 67600 := by omega
    have hs : (sysB K (setM M a i true) B P).set (1 + ((a : Int) + (i : Int)).toNat * 66 + 1) (.bool true) = sysB K (setM M a (i + 1) true) B P := by rw [ht, sys_setHuge (by omega), setM_s]
    (refine wwa ?_; repeat' (first | with_reducible refine And.intro ?_ ?_ | intro hsp))
    all_goals exact next_x (i + 1) [] (by (try dsimp only); omega) (by first | omega | (dsimp only; omega)) rfl (by exact wkx_Wa)
  · obtain rfl : i = n := by omega
    (refine wwa ?_; repeat' (first | with_reducible refine And.intro ?_ ?_ | intro hsp))
    all_goals exact end_s rfl (plain_tup fun x hx => by cases hx) rfl (sys_plain hP)
end
end Go.Proofs.Ytjlbfijjfjogiaa
namespace Go.Pol
open Go.Am
theorem stR_none {R : List Rn} {U : List Int} {D : List Dt} {l : List Rl} {C H : Nat → Int} (h : fo stR R r0 = none) : ldP ⟨R, U, D, l, C, H⟩ = none := by unfold ldP; dsimp only; rw [h]
theorem stU_none {R : List Rn} {U : List Int} {D : List Dt} {l : List Rl} {C H : Nat → Int} {r : Sr} (hr : fo stR R r0 = some r) (h : fo (stU r.K) U u0 = none) : ldP ⟨R, U, D, l, C, H⟩ = none := by unfold ldP; dsimp only; rw [hr]; dsimp only; rw [h]
theorem stD_none {R : List Rn} {U : List Int} {D : List Dt} {l : List Rl} {C H : Nat → Int} {r : Sr} {u : Su} (hr : fo stR R r0 = some r) (hu : fo (stU r.K) U u0 = some u) (h : fo (stD r.K) D d0 = none) : ldP ⟨R, U, D, l, C, H⟩ = none := by unfold ldP; dsimp only; rw [hr]; dsimp only; rw [hu]; dsimp only; rw [h]
theorem y_take1 {y : List AV} {x : AV} (h : y.length = 64) : (x :: y).take 65 = x :: y := List.take_of_length_le (by rw [List.length_cons, h]; exact Nat.le_refl _)
end Go.Pol
namespace Go.Proofs.Ytjlbfijjfjogiaa
open Go Go.Am Go.Pol
theorem wkx_Wb {p : Prop} (h : p := by (refine weak_s (by exact oneOf_of rfl) (by exact subH_of rfl) (by intro hs; (repeat' ((try (conv => whnf)); first | with_reducible exact True.intro | with_reducible refine And.intro ?_ ?_ | (with_reducible refine WkX.mk ?_; first | exact wk_undef | exact wk_int (by first | rfl | omega | (dsimp only; omega)) | exact wk_bool rfl | exact wk_ptr rfl (by first | decide | simp | omega) | exact wk_sl rfl (by first | decide | simp | omega) (by first | rfl | omega | simp) (by first | omega | simp) (by first | omega | simp) | exact wk_own rfl (by first | decide | simp | omega) | exact wk_nil0 (by first | rfl | simp) | exact wk_slown rfl (by first | decide | omega | (simp; done)) (by first | omega | (simp; done)) (by first | rfl | omega | (simp; done) | (simp; omega)) | exact wk_plain hs (by (first | assumption | exact plain_int | exact plain_bool | exact plain_undef | exact plain_nils | exact plain_nilp | exact plain_nilf | exact plain_str | with_reducible apply plain_rl | with_reducible apply plain_rls | with_reducible apply plain_pl | with_reducible apply plain_ii | with_reducible apply plain_st | with_reducible apply plain_stE | with_reducible apply plain_zst | with_reducible apply plain_zstE | with_reducible apply plain_irl | with_reducible apply plain_mk | with_reducible apply plain_stB | with_reducible apply plain_zstB | with_reducible apply plain_isls rnA_plain | with_reducible apply plain_isls inA_plain | with_reducible apply plain_isls dtA_plain | with_reducible apply plain_vs)) | (with_reducible refine wk_fn ?_ ?_ <;> repeat' (first | with_reducible exact wkl_nil | with_reducible refine wkl_cons ?_ ?_ | exact wk_ptr rfl (by first | decide | simp | omega))) | (with_reducible refine wk_agg ?_; repeat' (first | with_reducible exact wkl_nil | with_reducible refine wkl_cons ?_ ?_ | exact wk_int (by first | rfl | omega | (dsimp only; omega)) | exact wk_bool rfl)) | exact wk_yld rfl (by first | decide | simp | omega))))) (by intro hs; (try dsimp only); (repeat' (first | with_reducible exact wko_nil | refine wko_plain hs (by first | decide | omega | simp) rfl (by first | rfl) (by (first | with_reducible assumption | with_reducible apply rlA_plain _ | with_reducible apply plain_flat rlA_plain | with_reducible apply plain_flat rnA_plain | with_reducible apply rnA_plain | with_reducible apply stA_plain | with_reducible apply memT_plain | with_reducible apply sys_plain stA_plain | with_reducible apply rfk_plain stA_plain | with_reducible apply b_plain | with_reducible apply a_plain | with_reducible apply sys_plain hPp | with_reducible apply plain_map (fun _ => plain_int) | with_reducible apply plain_map (fun _ => plain_bool) | ((repeat' (first | exact plain_all0 | refine plain_all2 ?_ ?_ | exact plain_int | first | assumption | exact plain_int | exact plain_bool | exact plain_undef | exact plain_nils | exact plain_nilp | exact plain_nilf | exact plain_str | with_reducible apply plain_rl | with_reducible apply plain_rls | with_reducible apply plain_pl | with_reducible apply plain_ii | with_reducible apply plain_st | with_reducible apply plain_stE | with_reducible apply plain_zst | with_reducible apply plain_zstE | with_reducible apply plain_irl | with_reducible apply plain_mk | with_reducible apply plain_stB | with_reducible apply plain_zstB | with_reducible apply plain_isls rnA_plain | with_reducible apply plain_isls inA_plain | with_reducible apply plain_isls dtA_plain | with_reducible apply plain_vs)); done) | ((refine plain_app ?_ ?_) <;> (first | with_reducible assumption | with_reducible apply rlA_plain _ | with_reducible apply plain_flat rlA_plain | with_reducible apply plain_flat rnA_plain | with_reducible apply rnA_plain | with_reducible apply stA_plain | with_reducible apply memT_plain | with_reducible apply sys_plain stA_plain | with_reducible apply rfk_plain stA_plain | with_reducible apply b_plain | with_reducible apply a_plain | with_reducible apply sys_plain hPp | with_reducible apply plain_map (fun _ => plain_int) | with_reducible apply plain_map (fun _ => plain_bool) | ((repeat' (first | exact plain_all0 | refine plain_all2 ?_ ?_ | exact plain_int | first | assumption | exact plain_int | exact plain_bool | exact plain_undef | exact plain_nils | exact plain_nilp | exact plain_nilf | exact plain_str | with_reducible apply plain_rl | with_reducible apply plain_rls | with_reducible apply plain_pl | with_reducible apply plain_ii | with_reducible apply plain_st | with_reducible apply plain_stE | with_reducible apply plain_zst | with_reducible apply plain_zstE | with_reducible apply plain_irl | with_reducible apply plain_mk | with_reducible apply plain_stB | with_reducible apply plain_zstB | with_reducible apply plain_isls rnA_plain | with_reducible apply plain_isls inA_plain | with_reducible apply plain_isls dtA_plain | with_reducible apply plain_vs)); done))))) ?_ | refine wko_cells (by first | decide | omega | simp) rfl (by repeat' (first | with_reducible exact wkl_nil | with_reducible refine wkl_cons ?_ ?_ | (first | exact wk_undef | exact wk_int (by first | rfl | omega | (dsimp only; omega)) | exact wk_bool rfl | exact wk_ptr rfl (by first | decide | simp | omega) | exact wk_sl rfl (by first | decide | simp | omega) (by first | rfl | omega | simp) (by first | omega | simp) (by first | omega | simp) | exact wk_own rfl (by first | decide | simp | omega) | exact wk_nil0 (by first | rfl | simp) | exact wk_slown rfl (by first | decide | omega | (simp; done)) (by first | omega | (simp; done)) (by first | rfl | omega | (simp; done) | (simp; omega)) | exact wk_plain hs (by (first | assumption | exact plain_int | exact plain_bool | exact plain_undef | exact plain_nils | exact plain_nilp | exact plain_nilf | exact plain_str | with_reducible apply plain_rl | with_reducible apply plain_rls | with_reducible apply plain_pl | with_reducible apply plain_ii | with_reducible apply plain_st | with_reducible apply plain_stE | with_reducible apply plain_zst | with_reducible apply plain_zstE | with_reducible apply plain_irl | with_reducible apply plain_mk | with_reducible apply plain_stB | with_reducible apply plain_zstB | with_reducible apply plain_isls rnA_plain | with_reducible apply plain_isls inA_plain | with_reducible apply plain_isls dtA_plain | with_reducible apply plain_vs)) | (with_reducible refine wk_fn ?_ ?_ <;> repeat' (first | with_reducible exact wkl_nil | with_reducible refine wkl_cons ?_ ?_ | exact wk_ptr rfl (by first | decide | simp | omega))) | (with_reducible refine wk_agg ?_; repeat' (first | with_reducible exact wkl_nil | with_reducible refine wkl_cons ?_ ?_ | exact wk_int (by first | rfl | omega | (dsimp only; omega)) | exact wk_bool rfl)) | exact wk_yld rfl (by first | decide | simp | omega)))) ?_ | refine wko_loop (by first | decide | omega | simp) rfl (by ((try subst hF); (try subst hF2); exact wkl_sd (wkf_sget (by (repeat' ((try (conv => whnf)); first | with_reducible exact True.intro | with_reducible refine And.intro ?_ ?_ | (with_reducible refine WkX.mk ?_; first | exact wk_undef | exact wk_int (by first | rfl | omega | (dsimp only; omega)) | exact wk_bool rfl | exact wk_ptr rfl (by first | decide | simp | omega) | exact wk_sl rfl (by first | decide | simp | omega) (by first | rfl | omega | simp) (by first | omega | simp) (by first | omega | simp) | exact wk_own rfl (by first | decide | simp | omega) | exact wk_nil0 (by first | rfl | simp) | exact wk_slown rfl (by first | decide | omega | (simp; done)) (by first | omega | (simp; done)) (by first | rfl | omega | (simp; done) | (simp; omega)) | exact wk_plain hs (by (first | assumption | exact plain_int | exact plain_bool | exact plain_undef | exact plain_nils | exact plain_nilp | exact plain_nilf | exact plain_str | with_reducible apply plain_rl | with_reducible apply plain_rls | with_reducible apply plain_pl | with_reducible apply plain_ii | with_reducible apply plain_st | with_reducible apply plain_stE | with_reducible apply plain_zst | with_reducible apply plain_zstE | with_reducible apply plain_irl | with_reducible apply plain_mk | with_reducible apply plain_stB | with_reducible apply plain_zstB | with_reducible apply plain_isls rnA_plain | with_reducible apply plain_isls inA_plain | with_reducible apply plain_isls dtA_plain | with_reducible apply plain_vs)) | (with_reducible refine wk_fn ?_ ?_ <;> repeat' (first | with_reducible exact wkl_nil | with_reducible refine wkl_cons ?_ ?_ | exact wk_ptr rfl (by first | decide | simp | omega))) | (with_reducible refine wk_agg ?_; repeat' (first | with_reducible exact wkl_nil | with_reducible refine wkl_cons ?_ ?_ | exact wk_int (by first | rfl | omega | (dsimp only; omega)) | exact wk_bool rfl)) | exact wk_yld rfl (by first | decide | simp | omega)))))))) ?_ | exact wko_nil))))) : p := h
theorem wwb {p q : Prop} (hq : q) (h : HidP q → p := by (intro hQz; ((repeat' ((try (conv => whnf)); first | (with_reducible first | refine run_cons ?_ | refine runq_cons ?_ | refine code_seq ?_ | refine code_reg ?_ | refine code_cond ?_ | refine run_nil ?_ | refine runq_nil ?_ | refine rund_op rfl ?_ | refine rund_nil ?_ | refine code_block ?_ | refine code_skip ?_ | refine code_exit ?_ | refine code_ret ?_ | refine code_range ?_ | refine rund_fast (by decide +kernel) ?_ | refine rund_slow (by decide +kernel) ?_ | refine br_tt ?_ | refine br_ff ?_ | refine br_n ?_ | refine br_and ?_ | refine br_or ?_ | refine br_t (by assumption) ?_ | refine br_f (by assumption) ?_ | refine eq_i64 (by omega) ?_ | refine el_tn ?_) | ((with_reducible refine br_dt ?_ ?_); focus omega) | ((with_reducible refine br_df ?_ ?_); focus omega) | ((with_reducible apply br_dq hQz) <;> (try intro hsp hQz)) | ((with_reducible refine ck_x ?_ ?_); focus (first | omega | rfl | assumption | decide | (simp only [List.length_map, List.length_cons, List.length_nil]; omega))) | (with_reducible first | refine eq_tn ?_ | refine eq_tn1 ?_ | refine eq_tn2 ?_ | refine eq_m1 ?_ | refine eq_m2 ?_ | refine eq_zm ?_ | refine eq_z ?_ | refine len_map ?_ | refine len_sl ?_ | refine len_nils ?_ | refine len_own' ?_ | refine len_isl ?_ | refine eq_u8 (by omega) ?_ | refine eq_u16 (by omega) ?_) | refine nthK_of (by with_reducible assumption) ?_ | refine eq_of (by with_reducible assumption) ?_ | refine overK_cons (by first | (simp only [List.length_cons, List.length_nil, List.length_set]; omega) | fail) (by with_reducible assumption) ?_ | refine set1K_of (by rw [sys_len]; omega) (by with_reducible assumption) ?_ | refine el_row rn_len (by first | assumption | omega) (by with_reducible assumption) ?_ | refine el_row dt_len (by first | assumption | omega) (by with_reducible assumption) ?_ | refine el_row in_len (by first | assumption | omega) (by with_reducible assumption) ?_ | refine overK_of (by first | (simp only [List.length_cons, List.length_nil]; omega) | fail) (over_y1 (by with_reducible assumption)) ?_ | refine overK_of (by first | (rw [sys_len]; omega) | fail) (by with_reducible assumption) ?_ | refine takeK_of (by first | (simp only [List.length_cons]; omega) | fail) (y_take1 (by with_reducible assumption)) ?_ | refine takeK_of (by omega) (y_take (by with_reducible assumption)) ?_ | refine dropK_of (Nat.zero_le _) y_drop ?_ | refine dropK_of (by first | (simp only [List.length_cons]; omega) | fail) rfl ?_ | refine takeK_of (by first | (simp only [List.length_cons]; omega) | fail) (y_take (by with_reducible assumption)) ?_ | refine eqlx_of (by with_reducible assumption) ?_ | (with_reducible first | refine eq_rfl ?_ | refine ChkX.mk (by kernel_rfl) ?_ | refine code_q rfl ?_ | refine code_d (by decide +kernel) ?_ | refine end_go rfl ?_) | refine cx_locS (by assumption) rfl (by omega) ?_ | refine cx_pureS (by assumption) ?_ | refine dcx_pureS (by assumption) ?_ | refine len_map ?_ | refine len_isl ?_ | refine el_of rfl rfl ?_ | refine del_own ?_ | refine del_own' rfl ?_ | refine as_go rfl ?_ | refine rd_go rfl ?_ | refine rg_end rfl ?_ | refine flat_ownX ?_ | refine EqLX.mk ?_ | ((with_reducible apply br_bq hQz) <;> (try intro hsp hQz)) | exact hQz.out)) <;> (try (conv => whnf))))) : p := h ⟨hq⟩
section
variable {R : List Rn} {U : List Int} {D : List Dt} {l : List Rl} {C H : Nat → Int}
theorem p_load_no (he : chkS l C H ≠ 0) : PureS 12 [.agg (vsA ⟨R, U, D, l, C, H⟩)] (.tup [.nilp, .int .i64 (chkS l C H)]) := by
  have z := k_chkS l C H
  refine PureS.mk (pure_x hmix b12 plainG ⟨plain_vs, trivial⟩ (plain_tup (plain_2 plain_nilp plain_int)) rfl ?_)
  unfold c12
  simp only [vsA, stA] at z ⊢
  (refine wwb ?_; repeat' (first | with_reducible refine And.intro ?_ ?_ | intro hsp))
  all_goals first | exact end_plain rfl (plain_tup (plain_2 plain_nilp plain_int)) | (exfalso; omega)
set_option maxHeartbeats 3200000 in
set_option maxRecDepth 20000 in
theorem p_loadC (hc : chkS l C H = 0) (hwf : ∀ r, r ∈ R → W64 r.p ∧ W64 r.n ∧ W64 r.k) (hR : R.length ≤ 100000) (hU : U.length ≤ 100000) (hD : D.length ≤ 100000) : LocC Try.prog G0 12 [.agg (vsA ⟨R, U, D, l, C, H⟩)] [] 0 (ldPost (ldP ⟨R, U, D, l, C, H⟩)) := by
  have z := k_chkS l C H
  rw [hc] at z
  have zc := k_clone (l := l) (by have := (chkS_ok hc).2.1; omega)
  refine loc_x hmix b12 rfl ?_
  unfold c12
  obtain ⟨o, ho⟩ : ∃ o, o = 67585 := ⟨_, rfl⟩
  obtain ⟨y, hy⟩ : ∃ y, y = sysZ := ⟨_, rfl⟩
  rw [← ho, ← hy]
  have hl := sysZ_lenE hy
  have hov := new_aS (l := l) (C := C) (H := H) hy ho
  have hst : (sysB (fun _ => 0) (fun _ => false) (fun _ _ => 0) (stA l C H)).set (o + 0 + 0) (.isl (l.map rlA)) = sysB (fun _ => 0) (fun _ => false) (fun _ _ => 0) (stA l C H) := set_same (sys_rules ho)
  have hsl : o + 0 + 0 < 67600 := by omega
  unfold stA at hov hst
  simp only [vsA, stA] at z ⊢
  (refine wwb ?_; repeat' (first | with_reducible refine And.intro ?_ ?_ | intro hsp))
  all_goals first | (exfalso; omega) | skip
  rw [show Nat.ble (0 + 1) y.length = true from Nat.ble_eq_true_of_le (by omega)]
  (refine wwb ?_; repeat' (first | with_reducible refine And.intro ?_ ?_ | intro hsp))
  refine set1K_of (by omega) rfl ?_
  (refine wwb ?_; repeat' (first | with_reducible refine And.intro ?_ ?_ | intro hsp))
  rw [show Nat.ble (o + 15) (y.set 0 (.bool true)).length = true from Nat.ble_eq_true_of_le (by rw [List.length_set]; omega)]
  (refine wwb ?_; repeat' (first | with_reducible refine And.intro ?_ ?_ | intro hsp))
  have hPl : ([.isl (l.map rlA), .int .i64 (C 0), .int .i64 (C 1), .int .i64 (C 2), .int .i64 (C 3), .int .i64 (C 4), .int .i64 (C 5), .int .i64 (C 6), .int .i64 (H 0), .int .i64 (H 1), .int .i64 (H 2), .int .i64 (H 3), .int .i64 (H 4), .int .i64 (H 5), .int .i64 (H 6)] : List AV).length = 15 := rfl
  have hyp : ∀ x ∈ sysB (fun _ => 0) (fun _ => false) (fun _ _ => 0) ([.isl (l.map rlA), .int .i64 (C 0), .int .i64 (C 1), .int .i64 (C 2), .int .i64 (C 3), .int .i64 (C 4), .int .i64 (C 5), .int .i64 (C 6), .int .i64 (H 0), .int .i64 (H 1), .int .i64 (H 2), .int .i64 (H 3), .int .i64 (H 4), .int .i64 (H 5), .int .i64 (H 6)] : List AV), Plain x := sys_plain stA_plain
  clear hov hst zc z hl hy y
  generalize hP : ([.isl (l.map rlA), .int .i64 (C 0), .int .i64 (C 1), .int .i64 (C 2), .int .i64 (C 3), .int .i64 (C 4), .int .i64 (C 5), .int .i64 (C 6), .int .i64 (H 0), .int .i64 (H 1), .int .i64 (H 2), .int .i64 (H 3), .int .i64 (H 4), .int .i64 (H 5), .int .i64 (H 6)] : List AV) = P at *
  have hPp : ∀ x ∈ P, Plain x := by rw [← hP]; exact stA_plain
  (refine loop_x [1, 5, 36, 37] (fun (q : Nat × Sr) => [(6, .int .i64 q.2.nx), (7, .int .i64 q.2.la), (38, .int .i64 (q.1 : Nat))]) (fun (q : Nat × Sr) => ⟨[(0, .cells (.isl (R.map rnA) :: .isl (U.map inA) :: .isl (D.map dtA) :: P)), (1, .cells (sysB q.2.K (fun _ => false) (fun _ _ => 0) P))], 2⟩) (fun (q : Nat × Sr) => q.1 ≤ R.length ∧ foI stR R r0 q.1 ∧ q.2 = foA stR R r0 q.1 ∧ 0 ≤ q.2.nx ∧ q.2.nx ≤ 1024) (fun (q : Nat × Sr) => R.length - q.1) ((0, (⟨0, 0, fun _ => 0⟩ : Sr))) [] rfl (fun _ => by first | exact Nat.zero_le _ | (dsimp only; omega)) ?_ (by ((try (conv => whnf)); exact wkx_Wb)) ?_)
  · exact ⟨Nat.zero_le _, foI_0, foA_0.symm, Int.le_refl _, by show (0 : Int) ≤ 1024; decide⟩
  rintro ⟨i, s⟩ ⟨hi, hfo, hs, hn0, hn1⟩
  dsimp only at hi hfo hs hn0 hn1 ⊢
  by_cases hil : i < R.length
  · obtain ⟨p, n, k, he⟩ : ∃ p n k, nth dRn R i = ⟨p, n, k⟩ := ⟨_, _, _, rfl⟩
    have hx : rnA (nth dRn R i) = [.int .i64 p, .int .i64 n, .int .i64 k] := by rw [he]; rfl
    have hw := hwf _ (nth_mem (d := dRn) hil)
    rw [he] at hw
    unfold W64 at hw
    dsimp only at hw
    by_cases hb : badRn s ⟨p, n, k⟩
    · have hN := stR_none (U := U) (D := D) (l := l) (C := C) (H := H) (foI_none (d := dRn) hfo hil (by rw [← hs, he]; exact if_pos hb))
      unfold badRn at hb
      dsimp only at hb
      (refine wwb ?_; repeat' (first | with_reducible refine And.intro ?_ ?_ | intro hsp))
      all_goals first | exact end_ldN hN rfl | (exfalso; omega)
    · have hst := foI_s (d := dRn) hfo hil (by rw [← hs, he]; exact if_neg hb)
      unfold badRn at hb
      dsimp only at hb hst
      obtain ⟨a, rfl⟩ : ∃ a : Nat, p = (a : Nat) := ⟨p.toNat, by omega⟩
      obtain ⟨m, rfl⟩ : ∃ m : Nat, n = (m : Nat) := ⟨n.toNat, by omega⟩
      rw [Int.toNat_natCast, Int.toNat_natCast] at hst
      have ham : a + m ≤ 1024 := by omega
      by_cases hnx : ((a : Nat) : Int) = s.nx
      · (refine wwb ?_; repeat' (first | with_reducible refine And.intro ?_ ?_ | intro hsp))
        all_goals first | (exfalso; omega) | skip
        (refine loop_x [1, 5, 6, 7, 9, 36, 37, 38, 82] (fun (j : Nat) => [(83, .int .i64 (j : Nat))]) (fun (j : Nat) => ⟨[(0, .cells (.isl (R.map rnA) :: .isl (U.map inA) :: .isl (D.map dtA) :: P)), (1, .cells (sysB (setR s.K a j k) (fun _ => false) (fun _ _ => 0) P)), (2, .cells [.int .i64 (a : Nat), .int .i64 (m : Nat), .int .i64 k])], 3⟩) (fun (j : Nat) => j ≤ m) (fun (j : Nat) => m - j) (0) [] rfl (fun _ => by first | exact Nat.zero_le _ | (dsimp only; omega)) ?_ (by ((try (conv => whnf)); (rw [setR_0]); exact wkx_Wb)) ?_)
        · exact Nat.zero_le _
        rintro j hj
        by_cases hjm : j < m
        · have ht : ((a : Int) + (j : Int)).toNat = a + j := by omega
          have hset : (sysB (setR s.K a j k) (fun _ => false) (fun _ _ => 0) P).set (1 + ((a : Int) + (j : Int)).toNat * 66 + 0) (.int .i64 k) = sysB (setR s.K a (j + 1) k) (fun _ => false) (fun _ _ => 0) P := by rw [ht, Nat.add_zero, sys_setKind (by omega), setR_s]
          (refine wwb ?_; repeat' (first | with_reducible refine And.intro ?_ ?_ | intro hsp))
          all_goals exact next_x (j + 1) [] (by (try dsimp only); omega) (by first | omega | (dsimp only; omega)) rfl (by exact wkx_Wb)
        · obtain rfl : j = m := by omega
          (refine wwb ?_; repeat' (first | with_reducible refine And.intro ?_ ?_ | intro hsp))
          all_goals exact next_x (i + 1, (⟨((a : Nat) : Int) + ((j : Nat) : Int), k, setR s.K a j k⟩ : Sr)) [] ⟨by dsimp only; omega, hst.1, hst.2.symm, by dsimp only; omega, by dsimp only; omega⟩ (by first | omega | (dsimp only; omega)) rfl (by exact wkx_Wb)
      · (refine wwb ?_; repeat' (first | with_reducible refine And.intro ?_ ?_ | intro hsp))
        all_goals first | (exfalso; omega) | skip
        (refine loop_x [1, 5, 6, 7, 9, 36, 37, 38, 82] (fun (j : Nat) => [(83, .int .i64 (j : Nat))]) (fun (j : Nat) => ⟨[(0, .cells (.isl (R.map rnA) :: .isl (U.map inA) :: .isl (D.map dtA) :: P)), (1, .cells (sysB (setR s.K a j k) (fun _ => false) (fun _ _ => 0) P)), (2, .cells [.int .i64 (a : Nat), .int .i64 (m : Nat), .int .i64 k])], 3⟩) (fun (j : Nat) => j ≤ m) (fun (j : Nat) => m - j) (0) [] rfl (fun _ => by first | exact Nat.zero_le _ | (dsimp only; omega)) ?_ (by ((try (conv => whnf)); (rw [setR_0]); exact wkx_Wb)) ?_)
        · exact Nat.zero_le _
        rintro j hj
        by_cases hjm : j < m
        · have ht : ((a : Int) + (j : Int)).toNat = a + j := by omega
          have hset : (sysB (setR s.K a j k) (fun _ => false) (fun _ _ => 0) P).set (1 + ((a : Int) + (j : Int)).toNat * 66 + 0) (.int .i64 k) = sysB (setR s.K a (j + 1) k) (fun _ => false) (fun _ _ => 0) P := by rw [ht, Nat.add_zero, sys_setKind (by omega), setR_s]
          (refine wwb ?_; repeat' (first | with_reducible refine And.intro ?_ ?_ | intro hsp))
          all_goals exact next_x (j + 1) [] (by (try dsimp only); omega) (by first | omega | (dsimp only; omega)) rfl (by exact wkx_Wb)
        · obtain rfl : j = m := by omega
          (refine wwb ?_; repeat' (first | with_reducible refine And.intro ?_ ?_ | intro hsp))
          all_goals exact next_x (i + 1, (⟨((a : Nat) : Int) + ((j : Nat) : Int), k, setR s.K a j k⟩ : Sr)) [] ⟨by dsimp only; omega, hst.1, hst.2.symm, by dsimp only; omega, by dsimp only; omega⟩ (by first | omega | (dsimp only; omega)) rfl (by exact wkx_Wb)
  have hr := foI_all hfo (by omega)
  rw [← hs] at hr
  obtain ⟨nx, la, K⟩ := s
  dsimp only at hr hn0 hn1 ⊢
  clear hs hfo hn0 hn1 hi
  (refine wwb ?_; repeat' (first | with_reducible refine And.intro ?_ ?_ | intro hsp))
  all_goals first | (exfalso; omega) | skip
  (refine loop_x [1, 5, 107, 108] (fun (q : Nat × Su) => [(109, .int .i64 (q.1 : Nat))]) (fun (q : Nat × Su) => ⟨[(0, .cells (.isl (R.map rnA) :: .isl (U.map inA) :: .isl (D.map dtA) :: P)), (1, .cells (sysB K (fun p => q.2.G (p / 16)) (fun _ _ => 0) P))], 2⟩) (fun (q : Nat × Su) => q.1 ≤ U.length ∧ foI (stU K) U u0 q.1 ∧ q.2 = foA (stU K) U u0 q.1 ∧ (q.1 = 0 → q.2.lo = -1) ∧ (q.1 ≠ 0 → q.2.lo = nth 0 U (q.1 - 1))) (fun (q : Nat × Su) => U.length - q.1) ((0, (⟨-1, fun _ => false⟩ : Su))) [] rfl (fun _ => by first | exact Nat.zero_le _ | (dsimp only; omega)) ?_ (by ((try (conv => whnf)); exact wkx_Wb)) ?_)
  · exact ⟨Nat.zero_le _, foI_0, foA_0.symm, fun _ => rfl, fun h => absurd rfl h⟩
  rintro ⟨i, s⟩ ⟨hi, hfo, hs, hlo0, hlo1⟩
  dsimp only at hi hfo hs hlo0 hlo1 ⊢
  by_cases hil : i < U.length
  · obtain ⟨u, he⟩ : ∃ u, nth 0 U i = u := ⟨_, rfl⟩
    have hx : inA (nth 0 U i) = [.int .i64 u] := by rw [he]; rfl
    obtain ⟨lo, hlo⟩ : ∃ lo, s.lo = lo := ⟨_, rfl⟩
    have z1 := k_first u
    have hN := fun h => stU_none (D := D) (l := l) (C := C) (H := H) hr (foI_none (d := (0 : Int)) hfo hil (by rw [← hs, he]; exact if_pos h))
    dsimp only at hN
    rw [hlo] at hN hlo0 hlo1
    by_cases i0 : i = 0
    · have hlo1 := hlo0 i0
      by_cases hf : fst u
      · obtain ⟨g, rfl, hg⟩ := fst_nat hf
        rw [decide_eq_true hf] at z1
        have za : LocS 40 [.int .i64 (g * 16 : Nat), .int .i64 16, .fn 41 [] []] (sysB K (fun p => s.G (p / 16)) (fun _ _ => 0) P) (.bool (decide (okC K (g * 16) 16))) (sysB K (fun p => s.G (p / 16)) (fun _ _ => 0) P) := k_allL P hPp (g * 16) 16 (by omega)
        have zb : LocS 42 [.int .i64 (g * 16 : Nat), .int .i64 16, .fn 43 [] []] (sysB K (fun p => s.G (p / 16)) (fun _ _ => 0) P) (.tup []) (sysB K (setM (fun p => s.G (p / 16)) (g * 16) 16 true) (fun _ _ => 0) P) := k_eachL P hPp (g * 16) 16 (by omega)
        rw [setM_g] at zb
        by_cases hk : okC K (g * 16) 16
        · rw [decide_eq_true hk] at za
          have hst := foI_s (d := (0 : Int)) (s' := ⟨((g * 16 : Nat) : Int), updB s.G g true⟩) hfo hil (by
            rw [← hs, he]
            unfold stU
            rw [if_neg, Int.toNat_natCast, show g * 16 / 16 = g by omega]
            rw [Int.toNat_natCast, hlo]
            rintro (h | h | h)
            · omega
            · exact h hf
            · exact h hk)
          (refine wwb ?_; repeat' (first | with_reducible refine And.intro ?_ ?_ | intro hsp))
          all_goals first | (exfalso; omega) | skip
          all_goals exact next_x (i + 1, (⟨((g * 16 : Nat) : Int), updB s.G g true⟩ : Su)) [] ⟨by dsimp only; omega, hst.1, hst.2.symm, fun h => (by dsimp only at h; omega), fun _ => by dsimp only; rw [Nat.add_sub_cancel, he]⟩ (by first | omega | (dsimp only; omega)) rfl (by exact wkx_Wb)
        · rw [decide_eq_false hk] at za
          have hN := hN (.inr (.inr (by rw [Int.toNat_natCast]; exact hk)))
          (refine wwb ?_; repeat' (first | with_reducible refine And.intro ?_ ?_ | intro hsp))
          all_goals first | exact end_ldN hN rfl | (exfalso; omega)
      · rw [decide_eq_false hf] at z1
        have hN := hN (.inr (.inl hf))
        (refine wwb ?_; repeat' (first | with_reducible refine And.intro ?_ ?_ | intro hsp))
        all_goals first | exact end_ldN hN rfl | (exfalso; omega)
    · have hx1 : inA (nth 0 U (((i : Nat) : Int) - 1).toNat) = [.int .i64 lo] := by rw [show (((i : Nat) : Int) - 1).toNat = i - 1 by omega, ← hlo1 i0]; rfl
      have hil1 : (((i : Nat) : Int) - 1).toNat < U.length := by omega
      by_cases hle : u ≤ lo
      · have hN := hN (.inl hle)
        (refine wwb ?_; repeat' (first | with_reducible refine And.intro ?_ ?_ | intro hsp))
        all_goals first | exact end_ldN hN rfl | (exfalso; omega)
      by_cases hf : fst u
      · obtain ⟨g, rfl, hg⟩ := fst_nat hf
        rw [decide_eq_true hf] at z1
        have za : LocS 40 [.int .i64 (g * 16 : Nat), .int .i64 16, .fn 41 [] []] (sysB K (fun p => s.G (p / 16)) (fun _ _ => 0) P) (.bool (decide (okC K (g * 16) 16))) (sysB K (fun p => s.G (p / 16)) (fun _ _ => 0) P) := k_allL P hPp (g * 16) 16 (by omega)
        have zb : LocS 42 [.int .i64 (g * 16 : Nat), .int .i64 16, .fn 43 [] []] (sysB K (fun p => s.G (p / 16)) (fun _ _ => 0) P) (.tup []) (sysB K (setM (fun p => s.G (p / 16)) (g * 16) 16 true) (fun _ _ => 0) P) := k_eachL P hPp (g * 16) 16 (by omega)
        rw [setM_g] at zb
        by_cases hk : okC K (g * 16) 16
        · rw [decide_eq_true hk] at za
          have hst := foI_s (d := (0 : Int)) (s' := ⟨((g * 16 : Nat) : Int), updB s.G g true⟩) hfo hil (by
            rw [← hs, he]
            unfold stU
            rw [if_neg, Int.toNat_natCast, show g * 16 / 16 = g by omega]
            rw [Int.toNat_natCast, hlo]
            rintro (h | h | h)
            · omega
            · exact h hf
            · exact h hk)
          (refine wwb ?_; repeat' (first | with_reducible refine And.intro ?_ ?_ | intro hsp))
          all_goals first | (exfalso; omega) | skip
          all_goals exact next_x (i + 1, (⟨((g * 16 : Nat) : Int), updB s.G g true⟩ : Su)) [] ⟨by dsimp only; omega, hst.1, hst.2.symm, fun h => (by dsimp only at h; omega), fun _ => by dsimp only; rw [Nat.add_sub_cancel, he]⟩ (by first | omega | (dsimp only; omega)) rfl (by exact wkx_Wb)
        · rw [decide_eq_false hk] at za
          have hN := hN (.inr (.inr (by rw [Int.toNat_natCast]; exact hk)))
          (refine wwb ?_; repeat' (first | with_reducible refine And.intro ?_ ?_ | intro hsp))
          all_goals first | exact end_ldN hN rfl | (exfalso; omega)
      · rw [decide_eq_false hf] at z1
        have hN := hN (.inr (.inl hf))
        (refine wwb ?_; repeat' (first | with_reducible refine And.intro ?_ ?_ | intro hsp))
        all_goals first | exact end_ldN hN rfl | (exfalso; omega)
  have hu := foI_all hfo (by omega)
  rw [← hs] at hu
  obtain ⟨lo, G⟩ := s
  dsimp only at hu ⊢
  clear hs hfo hlo0 hlo1 hi
  (refine wwb ?_; repeat' (first | with_reducible refine And.intro ?_ ?_ | intro hsp))
  all_goals first | (exfalso; omega) | skip
  (refine loop_x [1, 5, 142, 143] (fun (q : Nat × Sd) => [(144, .int .i64 (q.1 : Nat))]) (fun (q : Nat × Sd) => ⟨[(0, .cells (.isl (R.map rnA) :: .isl (U.map inA) :: .isl (D.map dtA) :: P)), (1, .cells (sysB K (fun p => G (p / 16)) q.2.B P))], 2⟩) (fun (q : Nat × Sd) => q.1 ≤ D.length ∧ foI (stD K) D d0 q.1 ∧ q.2 = foA (stD K) D d0 q.1 ∧ (q.1 = 0 → q.2.lo = -1) ∧ (q.1 ≠ 0 → q.2.lo = (nth dDt D (q.1 - 1)).p)) (fun (q : Nat × Sd) => D.length - q.1) ((0, (⟨-1, fun _ _ => 0⟩ : Sd))) [] rfl (fun _ => by first | exact Nat.zero_le _ | (dsimp only; omega)) ?_ (by ((try (conv => whnf)); exact wkx_Wb)) ?_)
  · exact ⟨Nat.zero_le _, foI_0, foA_0.symm, fun _ => rfl, fun h => absurd rfl h⟩
  rintro ⟨i, s⟩ ⟨hi, hfo, hs, hlo0, hlo1⟩
  dsimp only at hi hfo hs hlo0 hlo1 ⊢
  by_cases hil : i < D.length
  · obtain ⟨p, b, he⟩ : ∃ p b, nth dDt D i = ⟨p, b⟩ := ⟨_, _, rfl⟩
    have hx : dtA (nth dDt D i) = .int .i64 p :: byA b := by rw [he]; rfl
    obtain ⟨lo, hlo⟩ : ∃ lo, s.lo = lo := ⟨_, rfl⟩
    have hN := fun h => stD_none (l := l) (C := C) (H := H) hr hu (foI_none (d := dDt) hfo hil (by rw [← hs, he]; exact if_pos h))
    dsimp only at hN
    rw [hlo] at hN hlo0 hlo1
    have hyl := by_len b
    have hyz := eqL_by b
    have hset := fun (a : Nat) (ha : a < 1024) => sys_setBytes (K := K) (M := fun p => G (p / 16)) (B := s.B) (P := P) (b := b) ha
    generalize byA b = y at *
    by_cases i0 : i = 0
    · have hlo1 := hlo0 i0
      by_cases hp : p < 0 ∨ 1024 ≤ p
      · have hN := hN (.inr (by omega))
        (refine wwb ?_; repeat' (first | with_reducible refine And.intro ?_ ?_ | intro hsp))
        all_goals first | exact end_ldN hN rfl | (exfalso; omega)
      · obtain ⟨a, rfl⟩ : ∃ a : Nat, p = (a : Nat) := ⟨p.toNat, by omega⟩
        rw [Int.toNat_natCast] at hN
        have ha : a < 1024 := by omega
        have hset := hset a ha
        have hkk : (sysB K (fun p => G (p / 16)) s.B P)[1 + a * 66 + 0]? = some (.int .i64 (K a)) := sys_kind ha
        by_cases hK : K a = 2
        · rw [hK] at hkk
          by_cases hz : zeroB b
          · rw [decide_eq_true hz] at hyz
            have hN := hN (.inr (.inr (.inr (.inr hz))))
            (refine wwb ?_; repeat' (first | with_reducible refine And.intro ?_ ?_ | intro hsp))
            all_goals first | exact end_ldN hN rfl | (exfalso; omega)
          · rw [decide_eq_false hz] at hyz
            have hst := foI_s (d := dDt) (s' := ⟨((a : Nat) : Int), updP s.B a b⟩) hfo hil (by
              rw [← hs, he]
              unfold stD
              dsimp only
              rw [if_neg, Int.toNat_natCast]
              rw [Int.toNat_natCast, hlo]
              rintro (h | h | h | h | h)
              · omega
              · omega
              · omega
              · exact h hK
              · exact hz h)
            (refine wwb ?_; repeat' (first | with_reducible refine And.intro ?_ ?_ | intro hsp))
            all_goals first | (exfalso; omega) | skip
            all_goals exact next_x (i + 1, (⟨((a : Nat) : Int), updP s.B a b⟩ : Sd)) [] ⟨by dsimp only; omega, hst.1, hst.2.symm, fun h => (by dsimp only at h; omega), fun _ => by dsimp only; rw [Nat.add_sub_cancel, he]⟩ (by first | omega | (dsimp only; omega)) rfl (by exact wkx_Wb)
        · have hN := hN (.inr (.inr (.inr (.inl hK))))
          (refine wwb ?_; repeat' (first | with_reducible refine And.intro ?_ ?_ | intro hsp))
          all_goals first | exact end_ldN hN rfl | (exfalso; omega)
    · have hx1 : ∃ y1 : List AV, dtA (nth dDt D (((i : Nat) : Int) - 1).toNat) = .int .i64 lo :: y1 := ⟨_, by rw [show (((i : Nat) : Int) - 1).toNat = i - 1 by omega, hlo1 i0]; rfl⟩
      obtain ⟨y1, hx1⟩ := hx1
      have hil1 : (((i : Nat) : Int) - 1).toNat < D.length := by omega
      by_cases hle : p ≤ lo
      · have hN := hN (.inl hle)
        (refine wwb ?_; repeat' (first | with_reducible refine And.intro ?_ ?_ | intro hsp))
        all_goals first | exact end_ldN hN rfl | (exfalso; omega)
      by_cases hp : p < 0 ∨ 1024 ≤ p
      · have hN := hN (.inr (by omega))
        (refine wwb ?_; repeat' (first | with_reducible refine And.intro ?_ ?_ | intro hsp))
        all_goals first | exact end_ldN hN rfl | (exfalso; omega)
      · obtain ⟨a, rfl⟩ : ∃ a : Nat, p = (a : Nat) := ⟨p.toNat, by omega⟩
        rw [Int.toNat_natCast] at hN
        have ha : a < 1024 := by omega
        have hset := hset a ha
        have hkk : (sysB K (fun p => G (p / 16)) s.B P)[1 + a * 66 + 0]? = some (.int .i64 (K a)) := sys_kind ha
        by_cases hK : K a = 2
        · rw [hK] at hkk
          by_cases hz : zeroB b
          · rw [decide_eq_true hz] at hyz
            have hN := hN (.inr (.inr (.inr (.inr hz))))
            (refine wwb ?_; repeat' (first | with_reducible refine And.intro ?_ ?_ | intro hsp))
            all_goals first | exact end_ldN hN rfl | (exfalso; omega)
          · rw [decide_eq_false hz] at hyz
            have hst := foI_s (d := dDt) (s' := ⟨((a : Nat) : Int), updP s.B a b⟩) hfo hil (by
              rw [← hs, he]
              unfold stD
              dsimp only
              rw [if_neg, Int.toNat_natCast]
              rw [Int.toNat_natCast, hlo]
              rintro (h | h | h | h | h)
              · omega
              · omega
              · omega
              · exact h hK
              · exact hz h)
            (refine wwb ?_; repeat' (first | with_reducible refine And.intro ?_ ?_ | intro hsp))
            all_goals first | (exfalso; omega) | skip
            all_goals exact next_x (i + 1, (⟨((a : Nat) : Int), updP s.B a b⟩ : Sd)) [] ⟨by dsimp only; omega, hst.1, hst.2.symm, fun h => (by dsimp only at h; omega), fun _ => by dsimp only; rw [Nat.add_sub_cancel, he]⟩ (by first | omega | (dsimp only; omega)) rfl (by exact wkx_Wb)
        · have hN := hN (.inr (.inr (.inr (.inl hK))))
          (refine wwb ?_; repeat' (first | with_reducible refine And.intro ?_ ?_ | intro hsp))
          all_goals first | exact end_ldN hN rfl | (exfalso; omega)
  have hd := foI_all hfo (by omega)
  rw [← hs] at hd
  obtain ⟨lo, B⟩ := s
  dsimp only at hd ⊢
  have hS : ldP ⟨R, U, D, l, C, H⟩ = some ⟨K, G, B, l, C, H⟩ := ldP_of.2 ⟨_, _, _, hr, hu, hd, rfl⟩
  (refine wwb ?_; repeat' (first | with_reducible refine And.intro ?_ ?_ | intro hsp))
  all_goals first | (exfalso; omega) | skip
  all_goals exact end_ldS hS rfl (by unfold Sy.a; rw [← hP]; rfl) rfl
end
end Go.Proofs.Ytjlbfijjfjogiaa
