/-
  Refusal plans: plain; Check and Start, of the program and of the document.
-/
import Derived.Test.YtjlbfijjfjogiaaAmZ
import Derived.Test.YtjlbfijjfjogiaaAmWt
import Derived.Test.YtjlbfijjfjogiaaZz
import Derived.Test.YtjlbfijjfjogiaaCode
set_option linter.unusedSimpArgs false
set_option linter.unusedVariables false
namespace Go.Pol
open Go.Am
structure Rl where
  k : Int
  f : Int
  e : Int
  t : Int
def rlA (r : Rl) : List AV := [.int .i64 r.k, .int .i64 r.f, .int .i64 r.e, .int .i64 r.t]
theorem rl_len (r : Rl) : (rlA r).length = 4 := rfl
theorem rlA_plain (r : Rl) : ∀ x ∈ rlA r, Plain x := fun x hx => by
  simp only [rlA, List.mem_cons, List.not_mem_nil, or_false] at hx
  rcases hx with rfl | rfl | rfl | rfl <;> exact plain_int
theorem plain_rl {a b c d : Int} : Plain (.agg [.int .i64 a, .int .i64 b, .int .i64 c, .int .i64 d]) := plain_agg fun x hx => by
  simp only [List.mem_cons, List.not_mem_nil, or_false] at hx
  rcases hx with rfl | rfl | rfl | rfl <;> exact plain_int
theorem plain_rls {l : List Rl} : Plain (.isl (l.map rlA)) := plain_isl fun e he => by
  obtain ⟨b, _, rfl⟩ := List.mem_map.1 he
  exact rlA_plain b
theorem plain_pl {l : List Rl} : Plain (.agg [.isl (l.map rlA)]) := plain_agg fun x hx => by
  obtain rfl := List.mem_singleton.1 hx
  exact plain_rls
theorem plain_ii {a b : Int} : Plain (.tup [.int .i64 a, .int .i64 b]) := plain_tup fun x hx => by
  simp only [List.mem_cons, List.not_mem_nil, or_false] at hx
  rcases hx with rfl | rfl <;> exact plain_int
def badK (r : Rl) : Prop := r.k < 0 ∨ 7 ≤ r.k
def badR (r : Rl) : Prop := r.f < 1 ∨ 10000 < r.f ∨ r.e < 0 ∨ 12 < r.e ∨ r.t < 0 ∨ 1000 < r.t
def badF (r : Rl) : Prop := r.e = 0 ∧ r.t ≠ 1
instance (r : Rl) : Decidable (badK r) := by unfold badK; infer_instance
instance (r : Rl) : Decidable (badR r) := by unfold badR; infer_instance
instance (r : Rl) : Decidable (badF r) := by unfold badF; infer_instance
def rlErr (r : Rl) : Int := if badK r then 2 else if badR r then 7 else if badF r then 6 else 0
def dR : Rl := ⟨0, 0, 0, 0⟩
/-- The first rule that is wrong, and its error. -/
def firstB : List Rl → Nat → Int × Int
  | [], _ => (0, 0)
  | r :: l, i => if rlErr r = 0 then firstB l (i + 1) else ((i : Nat), rlErr r)
def chkP (l : List Rl) : Int × Int := if 50 < l.length then (0, 3) else firstB l 0
theorem firstB_at : ∀ {l : List Rl} {i j : Nat}, j < l.length → (∀ k, k < j → rlErr (nth dR l k) = 0) → rlErr (nth dR l j) ≠ 0 → firstB l i = (((i + j : Nat) : Int), rlErr (nth dR l j))
  | r :: l, i, 0, _, _, h => by
    exact (if_neg (show ¬ rlErr r = 0 from h)).trans rfl
  | r :: l, i, j + 1, hj, h0, h => by
    have e := firstB_at (l := l) (i := i + 1) (j := j) (by simpa using hj) (fun k hk => h0 (k + 1) (by omega)) h
    rw [show i + 1 + j = i + (j + 1) by omega] at e
    exact (if_pos (show rlErr r = 0 from h0 0 (by omega))).trans e
theorem firstB_all : ∀ {l : List Rl} {i : Nat}, (∀ k, k < l.length → rlErr (nth dR l k) = 0) → firstB l i = (0, 0)
  | [], _, _ => rfl
  | r :: l, i, h => by
    exact (if_pos (show rlErr r = 0 from h 0 (by simp))).trans (firstB_all (l := l) fun k hk => h (k + 1) (by simpa using hk))
end Go.Pol
namespace Go.Proofs.Ytjlbfijjfjogiaa
open Go Go.Am Go.Pol
theorem hmix : Try.prog.follows .mixedOrders = true := by kernel_rfl
def G0 : Gl := fun _ => none
theorem plainG : PlainG G0 := fun n cs h => by cases h
structure PureS (f : Nat) (avs : List AV) (r : AV) : Prop where
  out : PureC Try.prog G0 f avs r
theorem cx_pureS {g : Nat} {avs : List AV} {r : AV} {h : Hp} {K : AV → Hp → Prop} (hp : PureS g avs r) (hk : K r h) : CallX Try.prog G0 (.fn g [] []) avs h K := cx_pure (by simpa using hp.out) hk
theorem dcx_pureS {g : Nat} {avs : List AV} {r : AV} {h : Hp} {K : AV → Up → List Nat → Prop} (hp : PureS g avs r) (hk : K r [] []) : DCallX Try.prog G0 g avs h K := dcx_pure hp.out hk
theorem qcx_pureS {g : Nat} {avs : List AV} {r : AV} {K : AV → Prop} (hp : PureS g avs r) (hk : K r) : QCallX Try.prog G0 g avs K := ⟨r, hp.out, hk⟩
theorem wkx_Ra {p : Prop} (h : p := by (refine weak_s (by exact oneOf_of rfl) (by exact subH_of rfl) (by intro hs; (repeat' ((try (conv => whnf)); first | with_reducible exact True.intro | with_reducible refine And.intro ?_ ?_ | (with_reducible refine WkX.mk ?_; first | exact wk_undef | exact wk_int (by first | rfl | omega | (dsimp only; omega)) | exact wk_bool rfl | exact wk_ptr rfl (by first | decide | simp | omega) | exact wk_sl rfl (by first | decide | simp | omega) (by first | rfl | omega | simp) (by first | omega | simp) (by first | omega | simp) | exact wk_own rfl (by first | decide | simp | omega) | exact wk_nil0 (by first | rfl | simp) | exact wk_slown rfl (by first | decide | omega | (simp; done)) (by first | omega | (simp; done)) (by first | rfl | omega | (simp; done) | (simp; omega)) | exact wk_plain hs (by (first | assumption | exact plain_int | exact plain_bool | exact plain_undef | exact plain_nils | exact plain_nilp | exact plain_nilf | exact plain_str | with_reducible apply plain_rl | with_reducible apply plain_rls | with_reducible apply plain_pl | with_reducible apply plain_ii)) | (with_reducible refine wk_fn ?_ ?_ <;> repeat' (first | with_reducible exact wkl_nil | with_reducible refine wkl_cons ?_ ?_ | exact wk_ptr rfl (by first | decide | simp | omega))) | (with_reducible refine wk_agg ?_; repeat' (first | with_reducible exact wkl_nil | with_reducible refine wkl_cons ?_ ?_ | exact wk_int (by first | rfl | omega | (dsimp only; omega)) | exact wk_bool rfl)) | exact wk_yld rfl (by first | decide | simp | omega))))) (by intro hs; (try dsimp only); (repeat' (first | with_reducible exact wko_nil | refine wko_plain hs (by first | decide | omega | simp) rfl (by first | rfl) (by (first | with_reducible assumption | with_reducible apply rlA_plain _ | with_reducible apply plain_flat rlA_plain | with_reducible apply plain_map (fun _ => plain_int) | with_reducible apply plain_map (fun _ => plain_bool) | ((repeat' (first | exact plain_all0 | refine plain_all2 ?_ ?_ | exact plain_int | first | assumption | exact plain_int | exact plain_bool | exact plain_undef | exact plain_nils | exact plain_nilp | exact plain_nilf | exact plain_str | with_reducible apply plain_rl | with_reducible apply plain_rls | with_reducible apply plain_pl | with_reducible apply plain_ii)); done) | ((refine plain_app ?_ ?_) <;> (first | with_reducible assumption | with_reducible apply rlA_plain _ | with_reducible apply plain_flat rlA_plain | with_reducible apply plain_map (fun _ => plain_int) | with_reducible apply plain_map (fun _ => plain_bool) | ((repeat' (first | exact plain_all0 | refine plain_all2 ?_ ?_ | exact plain_int | first | assumption | exact plain_int | exact plain_bool | exact plain_undef | exact plain_nils | exact plain_nilp | exact plain_nilf | exact plain_str | with_reducible apply plain_rl | with_reducible apply plain_rls | with_reducible apply plain_pl | with_reducible apply plain_ii)); done))))) ?_ | refine wko_cells (by first | decide | omega | simp) rfl (by repeat' (first | with_reducible exact wkl_nil | with_reducible refine wkl_cons ?_ ?_ | (first | exact wk_undef | exact wk_int (by first | rfl | omega | (dsimp only; omega)) | exact wk_bool rfl | exact wk_ptr rfl (by first | decide | simp | omega) | exact wk_sl rfl (by first | decide | simp | omega) (by first | rfl | omega | simp) (by first | omega | simp) (by first | omega | simp) | exact wk_own rfl (by first | decide | simp | omega) | exact wk_nil0 (by first | rfl | simp) | exact wk_slown rfl (by first | decide | omega | (simp; done)) (by first | omega | (simp; done)) (by first | rfl | omega | (simp; done) | (simp; omega)) | exact wk_plain hs (by (first | assumption | exact plain_int | exact plain_bool | exact plain_undef | exact plain_nils | exact plain_nilp | exact plain_nilf | exact plain_str | with_reducible apply plain_rl | with_reducible apply plain_rls | with_reducible apply plain_pl | with_reducible apply plain_ii)) | (with_reducible refine wk_fn ?_ ?_ <;> repeat' (first | with_reducible exact wkl_nil | with_reducible refine wkl_cons ?_ ?_ | exact wk_ptr rfl (by first | decide | simp | omega))) | (with_reducible refine wk_agg ?_; repeat' (first | with_reducible exact wkl_nil | with_reducible refine wkl_cons ?_ ?_ | exact wk_int (by first | rfl | omega | (dsimp only; omega)) | exact wk_bool rfl)) | exact wk_yld rfl (by first | decide | simp | omega)))) ?_ | refine wko_loop (by first | decide | omega | simp) rfl (by ((try subst hF); (try subst hF2); exact wkl_sd (wkf_sget (by (repeat' ((try (conv => whnf)); first | with_reducible exact True.intro | with_reducible refine And.intro ?_ ?_ | (with_reducible refine WkX.mk ?_; first | exact wk_undef | exact wk_int (by first | rfl | omega | (dsimp only; omega)) | exact wk_bool rfl | exact wk_ptr rfl (by first | decide | simp | omega) | exact wk_sl rfl (by first | decide | simp | omega) (by first | rfl | omega | simp) (by first | omega | simp) (by first | omega | simp) | exact wk_own rfl (by first | decide | simp | omega) | exact wk_nil0 (by first | rfl | simp) | exact wk_slown rfl (by first | decide | omega | (simp; done)) (by first | omega | (simp; done)) (by first | rfl | omega | (simp; done) | (simp; omega)) | exact wk_plain hs (by (first | assumption | exact plain_int | exact plain_bool | exact plain_undef | exact plain_nils | exact plain_nilp | exact plain_nilf | exact plain_str | with_reducible apply plain_rl | with_reducible apply plain_rls | with_reducible apply plain_pl | with_reducible apply plain_ii)) | (with_reducible refine wk_fn ?_ ?_ <;> repeat' (first | with_reducible exact wkl_nil | with_reducible refine wkl_cons ?_ ?_ | exact wk_ptr rfl (by first | decide | simp | omega))) | (with_reducible refine wk_agg ?_; repeat' (first | with_reducible exact wkl_nil | with_reducible refine wkl_cons ?_ ?_ | exact wk_int (by first | rfl | omega | (dsimp only; omega)) | exact wk_bool rfl)) | exact wk_yld rfl (by first | decide | simp | omega)))))))) ?_ | exact wko_nil))))) : p := h
theorem wx {p q : Prop} (hq : q) (h : HidP q → p := by (intro hQz; ((repeat' ((try (conv => whnf)); first | (with_reducible first | refine run_cons ?_ | refine runq_cons ?_ | refine code_seq ?_ | refine code_reg ?_ | refine code_cond ?_ | refine run_nil ?_ | refine runq_nil ?_ | refine rund_op rfl ?_ | refine rund_nil ?_ | refine code_block ?_ | refine code_skip ?_ | refine code_exit ?_ | refine code_ret ?_ | refine code_range ?_ | refine rund_fast (by decide +kernel) ?_ | refine rund_slow (by decide +kernel) ?_ | refine br_tt ?_ | refine br_ff ?_ | refine br_n ?_ | refine br_and ?_ | refine br_or ?_ | refine br_t (by assumption) ?_ | refine br_f (by assumption) ?_ | refine eq_i64 (by omega) ?_ | refine el_tn ?_) | ((with_reducible refine br_dt ?_ ?_); focus omega) | ((with_reducible refine br_df ?_ ?_); focus omega) | ((with_reducible apply br_dq hQz) <;> (try intro hsp hQz)) | ((with_reducible refine ck_x ?_ ?_); focus (first | omega | rfl | assumption | decide | (simp only [List.length_map, List.length_cons, List.length_nil]; omega))) | (with_reducible first | refine eq_tn ?_ | refine eq_tn1 ?_ | refine eq_tn2 ?_ | refine eq_m1 ?_ | refine eq_m2 ?_ | refine eq_zm ?_ | refine eq_z ?_ | refine len_map ?_ | refine len_sl ?_ | refine len_nils ?_ | refine len_own' ?_ | refine len_isl ?_ | refine eq_u8 (by omega) ?_ | refine eq_u16 (by omega) ?_) | refine el_mapE rl_len (by first | assumption | omega) (by with_reducible assumption) ?_ | refine nthK_of (by with_reducible assumption) ?_ | refine eq_of (by with_reducible assumption) ?_ | refine eqn_mapc ?_ | refine eqn_cons ?_ | refine eqn_sl ?_ | ((with_reducible apply eqn_q hQz) <;> (try intro hQz)) | ((with_reducible apply eqn_n hQz) <;> (try intro hQz)) | (with_reducible first | refine eq_rfl ?_ | refine ChkX.mk (by kernel_rfl) ?_ | refine code_q rfl ?_ | refine code_d (by decide +kernel) ?_ | refine end_go rfl ?_) | refine cx_pureS (by assumption) ?_ | refine dcx_pureS (by assumption) ?_ | refine qcx_pureS (by assumption) ?_ | refine len_map ?_ | refine len_isl ?_ | refine el_of rfl rfl ?_ | refine del_own ?_ | refine del_own' rfl ?_ | refine as_go rfl ?_ | refine rd_go rfl ?_ | refine rg_end rfl ?_ | refine flat_ownX ?_ | refine EqLX.mk ?_ | ((with_reducible apply br_bq hQz) <;> (try intro hsp hQz)) | exact hQz.out)) <;> (try (conv => whnf))))) : p := h ⟨hq⟩
section
variable {l : List Rl}
theorem k_rule (r : Rl) : PureS 88 [.agg [.int .i64 r.k, .int .i64 r.f, .int .i64 r.e, .int .i64 r.t]] (.int .i64 (rlErr r)) := by
  refine PureS.mk (pure_x hmix b88 plainG ⟨plain_rl, trivial⟩ plain_int rfl ?_)
  unfold c88
  have h : rlErr r = if badK r then 2 else if badR r then 7 else if badF r then 6 else 0 := rfl
  unfold badK badR badF at h
  (refine wx ?_; repeat' (first | with_reducible refine And.intro ?_ ?_ | intro hsp))
  all_goals exact end_plain (congrArg (AV.int .i64) (by rw [h]; (repeat' split) <;> first | rfl | omega)) plain_int
theorem k_in (n a b : Int) : PureS 69 [.int .i64 n, .int .i64 a, .int .i64 b] (.bool (decide (a ≤ n ∧ n ≤ b))) := by
  refine PureS.mk (pure_x hmix b69 plainG ⟨plain_int, plain_int, plain_int, trivial⟩ plain_bool rfl ?_)
  unfold c69
  (refine wx ?_; repeat' (first | with_reducible refine And.intro ?_ ?_ | intro hsp))
  all_goals exact end_plain (congrArg AV.bool (by apply Bool.eq_iff_iff.2; constructor <;> intro hh <;> simp at hh ⊢ <;> omega)) plain_bool
theorem wr {p q : Prop} (hq : q) (h : HidP q → p := by (intro hQz; ((repeat' ((try (conv => whnf)); first | (with_reducible first | refine run_cons ?_ | refine runq_cons ?_ | refine code_seq ?_ | refine code_reg ?_ | refine code_cond ?_ | refine run_nil ?_ | refine runq_nil ?_ | refine rund_op rfl ?_ | refine rund_nil ?_ | refine code_block ?_ | refine code_skip ?_ | refine code_exit ?_ | refine code_ret ?_ | refine code_range ?_ | refine rund_fast (by decide +kernel) ?_ | refine rund_slow (by decide +kernel) ?_ | refine br_tt ?_ | refine br_ff ?_ | refine br_n ?_ | refine br_and ?_ | refine br_or ?_ | refine br_t (by assumption) ?_ | refine br_f (by assumption) ?_ | refine eq_i64 (by omega) ?_ | refine el_tn ?_) | ((with_reducible refine br_dt ?_ ?_); focus omega) | ((with_reducible refine br_df ?_ ?_); focus omega) | ((with_reducible apply br_dq hQz) <;> (try intro hsp hQz)) | ((with_reducible refine ck_x ?_ ?_); focus (first | omega | rfl | assumption | decide | (simp only [List.length_map, List.length_cons, List.length_nil]; omega))) | (with_reducible first | refine eq_tn ?_ | refine eq_tn1 ?_ | refine eq_tn2 ?_ | refine eq_m1 ?_ | refine eq_m2 ?_ | refine eq_zm ?_ | refine eq_z ?_ | refine len_map ?_ | refine len_sl ?_ | refine len_nils ?_ | refine len_own' ?_ | refine len_isl ?_ | refine eq_u8 (by omega) ?_ | refine eq_u16 (by omega) ?_) | refine el_mapE rl_len (by first | assumption | omega) (by with_reducible assumption) ?_ | refine nthK_of (by with_reducible assumption) ?_ | refine eq_of (by with_reducible assumption) ?_ | refine eqn_mapc ?_ | refine eqn_cons ?_ | refine eqn_sl ?_ | ((with_reducible apply eqn_q hQz) <;> (try intro hQz)) | ((with_reducible apply eqn_n hQz) <;> (try intro hQz)) | (with_reducible first | refine eq_rfl ?_ | refine ChkX.mk (by kernel_rfl) ?_ | refine code_q rfl ?_ | refine code_d (by decide +kernel) ?_ | refine end_go rfl ?_) | refine cx_pureS (by assumption) ?_ | refine dcx_pureS (by assumption) ?_ | refine qcx_pureS (by assumption) ?_ | refine cx_pureS (k_in _ _ _) ?_ | refine qcx_pureS (k_in _ _ _) ?_ | refine dcx_pureS (k_in _ _ _) ?_ | refine len_map ?_ | refine len_isl ?_ | refine el_of rfl rfl ?_ | refine del_own ?_ | refine del_own' rfl ?_ | refine as_go rfl ?_ | refine rd_go rfl ?_ | refine rg_end rfl ?_ | refine flat_ownX ?_ | refine EqLX.mk ?_ | ((with_reducible apply br_bq hQz) <;> (try intro hsp hQz)) | exact hQz.out)) <;> (try (conv => whnf))))) : p := h ⟨hq⟩
theorem r_rule (r : Rl) : PureS 90 [.agg [.int .i64 r.k, .int .i64 r.f, .int .i64 r.e, .int .i64 r.t]] (.int .i64 (rlErr r)) := by
  refine PureS.mk (pure_x hmix b90 plainG ⟨plain_rl, trivial⟩ plain_int rfl ?_)
  unfold c90
  have h : rlErr r = if badK r then 2 else if badR r then 7 else if badF r then 6 else 0 := rfl
  unfold badK badR badF at h
  (refine wr ?_; repeat' (first | with_reducible refine And.intro ?_ ?_ | intro hsp))
  all_goals exact end_plain (congrArg (AV.int .i64) (by rw [h]; (repeat' split) <;> first | rfl | omega)) plain_int
theorem k_chk (l : List Rl) : PureS 73 [.agg [.isl (l.map rlA)]] (.tup [.int .i64 (chkP l).1, .int .i64 (chkP l).2]) := by
  refine PureS.mk (pure_x hmix b73 plainG ⟨plain_pl, trivial⟩ plain_ii rfl ?_)
  unfold c73
  by_cases hl : 50 < l.length
  · have h : chkP l = (0, 3) := if_pos hl
    rw [h]
    (refine wx ?_; repeat' (first | with_reducible refine And.intro ?_ ?_ | intro hsp))
    exact end_plain rfl plain_ii
  have h : chkP l = firstB l 0 := if_neg hl
  rw [h]
  (refine wx ?_; repeat' (first | with_reducible refine And.intro ?_ ?_ | intro hsp))
  (refine loop_x [12, 13] (fun (i : Nat) => [(14, .int .i64 (i : Nat))]) (fun (i : Nat) => ⟨[], 0⟩) (fun (i : Nat) => i ≤ l.length ∧ ∀ k, k < i → rlErr (nth dR l k) = 0) (fun (i : Nat) => l.length - i) (0) [] rfl (fun _ => by first | exact Nat.zero_le _ | (dsimp only; omega)) ?_ (by ((try (conv => whnf)); exact wkx_Ra)) ?_)
  · exact ⟨Nat.zero_le _, fun k hk => by omega⟩
  rintro i ⟨hi, h0⟩
  by_cases hil : i < l.length
  · obtain ⟨r, he⟩ : ∃ r, nth dR l i = r := ⟨_, rfl⟩
    have z := k_rule r
    by_cases h1 : rlErr r = 0
    · rw [h1] at z
      (refine wx ?_; repeat' (first | with_reducible refine And.intro ?_ ?_ | intro hsp))
      all_goals exact next_x (i + 1) [] ⟨by omega, fun k hk => if e : k = i then by rw [e, he]; exact h1 else h0 k (by omega)⟩ (by first | omega | (dsimp only; omega)) rfl (by exact wkx_Ra)
    · have h2 := firstB_at (i := 0) hil h0 (by rw [he]; exact h1)
      rw [h2, he]
      (refine wx ?_; repeat' (first | with_reducible refine And.intro ?_ ?_ | intro hsp))
      all_goals exact end_plain (by rw [Nat.zero_add]) plain_ii
  · have h2 := firstB_all (i := 0) (l := l) fun k hk => h0 k (by omega)
    rw [h2]
    (refine wx ?_; repeat' (first | with_reducible refine And.intro ?_ ?_ | intro hsp))
    all_goals exact end_plain rfl plain_ii
theorem r_chk (l : List Rl) : PureS 75 [.agg [.isl (l.map rlA)]] (.tup [.int .i64 (chkP l).1, .int .i64 (chkP l).2]) := by
  refine PureS.mk (pure_x hmix b75 plainG ⟨plain_pl, trivial⟩ plain_ii rfl ?_)
  unfold c75
  by_cases hl : 50 < l.length
  · have h : chkP l = (0, 3) := if_pos hl
    rw [h]
    (refine wx ?_; repeat' (first | with_reducible refine And.intro ?_ ?_ | intro hsp))
    exact end_plain rfl plain_ii
  have h : chkP l = firstB l 0 := if_neg hl
  rw [h]
  (refine wx ?_; repeat' (first | with_reducible refine And.intro ?_ ?_ | intro hsp))
  (refine loop_x [1] (fun (i : Nat) => [(4, .int .i64 (i : Nat))]) (fun (i : Nat) => ⟨[(0, .cells [.isl (l.map rlA)])], 1⟩) (fun (i : Nat) => i ≤ l.length ∧ ∀ k, k < i → rlErr (nth dR l k) = 0) (fun (i : Nat) => l.length - i) (0) [] rfl (fun _ => by first | exact Nat.zero_le _ | (dsimp only; omega)) ?_ (by ((try (conv => whnf)); exact wkx_Ra)) ?_)
  · exact ⟨Nat.zero_le _, fun k hk => by omega⟩
  rintro i ⟨hi, h0⟩
  by_cases hil : i < l.length
  · obtain ⟨r, he⟩ : ∃ r, nth dR l i = r := ⟨_, rfl⟩
    have z := r_rule r
    by_cases h1 : rlErr r = 0
    · rw [h1] at z
      (refine wx ?_; repeat' (first | with_reducible refine And.intro ?_ ?_ | intro hsp))
      all_goals exact next_x (i + 1) [] ⟨by omega, fun k hk => if e : k = i then by rw [e, he]; exact h1 else h0 k (by omega)⟩ (by first | omega | (dsimp only; omega)) rfl (by exact wkx_Ra)
    · have h2 := firstB_at (i := 0) hil h0 (by rw [he]; exact h1)
      rw [h2, he]
      (refine wx ?_; repeat' (first | with_reducible refine And.intro ?_ ?_ | intro hsp))
      all_goals exact end_plain (by rw [Nat.zero_add]) plain_ii
  · have h2 := firstB_all (i := 0) (l := l) fun k hk => h0 k (by omega)
    rw [h2]
    (refine wx ?_; repeat' (first | with_reducible refine And.intro ?_ ?_ | intro hsp))
    all_goals exact end_plain rfl plain_ii
end
end Go.Proofs.Ytjlbfijjfjogiaa
