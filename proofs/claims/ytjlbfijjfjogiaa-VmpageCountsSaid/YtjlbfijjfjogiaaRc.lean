/-
  Refusals: which calls a plan refuses, and how many; of both.
-/
import Derived.Test.YtjlbfijjfjogiaaRb
set_option linter.unusedSimpArgs false
set_option linter.unusedVariables false
namespace Go.Pol
open Go.Am
section
variable {l : List Rl} {k n : Int}
def okL (l : List Rl) : Prop := ∀ j, j < l.length → rlErr (nth dR l j) = 0
theorem chk_ok {i : Int} (h : chkP l = (i, 0)) : okL l ∧ l.length ≤ 50 := by
  unfold chkP at h
  split at h
  · cases h
  · rename_i hl
    refine ⟨fun j hj => Classical.byContradiction fun hne => ?_, by omega⟩
    have key : ∀ (l : List Rl) (i : Nat) (j : Nat), j < l.length → rlErr (nth dR l j) ≠ 0 → (firstB l i).2 ≠ 0 := by
      intro l
      induction l with
      | nil => intro i j hj; cases hj
      | cons r l ih =>
        intro i j hj hne
        by_cases h0 : rlErr r = 0
        · show (if rlErr r = 0 then firstB l (i + 1) else _).2 ≠ 0
          rw [if_pos h0]
          cases j with
          | zero => exact absurd h0 hne
          | succ j => exact ih (i + 1) j (by simpa using hj) hne
        · show (if rlErr r = 0 then firstB l (i + 1) else _).2 ≠ 0
          rw [if_neg h0]; exact h0
    exact key l 0 j hj hne (by rw [h])
theorem any_at {i : Nat} (hi : i < l.length) (h : refB (nth dR l i) k n = true) : refL l k n = true := List.any_eq_true.2 ⟨_, nth_mem hi, h⟩
theorem any_no (h : ∀ j, j < l.length → refB (nth dR l j) k n = false) : refL l k n = false := by
  unfold refL
  rw [List.any_eq_false]
  intro r hr
  obtain ⟨j, hj, rfl⟩ := List.mem_iff_getElem.1 hr
  rw [← nth_get (d := dR) hj, h j hj]; simp
/-- How many of the first calls are refused. -/
def cnt (l : List Rl) (k : Int) : Nat → Nat
  | 0 => 0
  | m + 1 => cnt l k m + if refL l k ((m + 1 : Nat) : Int) then 1 else 0
theorem cnt_le : ∀ m, cnt l k m ≤ m
  | 0 => Nat.le_refl _
  | m + 1 => by
    have := cnt_le m
    show cnt l k m + _ ≤ m + 1
    split <;> omega
def nextR (r : Rl) (n : Int) : Int := if n < r.f then r.f else if r.e = 0 then 0 else if 0 < r.t ∧ r.t ≤ (n - r.f) / r.e + 1 then 0 else r.f + ((n - r.f) / r.e + 1) * r.e
theorem div_last {d e : Int} (hd : 1 ≤ d) (he : 1 ≤ e) : ((d - 1) / e + 1) * e = d ↔ d / e * e = d := by
  constructor
  · intro h
    rw [← h, Int.mul_ediv_cancel _ (by omega)]
  · intro h
    have h1 : d - 1 = (e - 1) + (d / e - 1) * e := by rw [Int.sub_mul, Int.one_mul, h]; omega
    rw [h1, Int.add_mul_ediv_right _ _ (by omega), Int.ediv_eq_zero_of_lt (by omega) (by omega), Int.zero_add, Int.sub_add_cancel]
    exact h
theorem div_last2 {d e : Int} (hd : 1 ≤ d) (he : 1 ≤ e) (h : d / e * e = d) : (d - 1) / e + 1 = d / e := by
  have h1 := (div_last hd he).2 h
  rw [← h] at h1
  rw [h] at h1
  have h2 : ((d - 1) / e + 1) * e = d / e * e := by rw [h1, h]
  exact Int.eq_of_mul_eq_mul_right (by omega) h2
theorem next_ref {r : Rl} (hf : 1 ≤ r.f) (he0 : 0 ≤ r.e) (ht0 : 0 ≤ r.t) (hn : 1 ≤ n) : (r.k = k ∧ nextR r (n - 1) = n) ↔ refB r k n = true := by
  unfold refB nextR
  rw [decide_eq_true_eq]
  by_cases h1 : n - 1 < r.f
  · rw [if_pos h1]
    constructor
    · rintro ⟨e1, e2⟩
      refine ⟨e1, by omega, ?_⟩
      by_cases he : r.e = 0
      · exact .inl ⟨he, e2.symm⟩
      · refine .inr ⟨he, ?_, ?_⟩
        · rw [show n - r.f = 0 by omega, Int.zero_ediv, Int.zero_mul]; omega
        · rw [show n - r.f = 0 by omega, Int.zero_ediv]; omega
    · rintro ⟨e1, e2, _⟩
      exact ⟨e1, by omega⟩
  · rw [if_neg h1]
    by_cases he : r.e = 0
    · rw [if_pos he]
      constructor
      · rintro ⟨_, e2⟩; omega
      · rintro ⟨_, e2, e3⟩; omega
    · rw [if_neg he]
      have hd := div_last (d := n - r.f) (e := r.e) (by omega) (by omega)
      have hd2 := div_last2 (d := n - r.f) (e := r.e) (by omega) (by omega)
      rw [show n - r.f - 1 = n - 1 - r.f by omega] at hd hd2
      constructor
      · rintro ⟨e1, e2⟩
        split at e2
        · omega
        · rename_i h3
          have h4 := hd.1 (by omega)
          have h5 := hd2 h4
          exact ⟨e1, by omega, .inr ⟨he, by omega, by omega⟩⟩
      · rintro ⟨e1, e2, e3⟩
        rcases e3 with e3 | ⟨_, e4, e5⟩
        · omega
        · have h4 : (n - r.f) / r.e * r.e = n - r.f := by omega
          have h5 := hd2 h4
          have h6 := hd.2 h4
          refine ⟨e1, ?_⟩
          rw [if_neg (by omega)]
          omega
end
end Go.Pol
namespace Go.Proofs.Ytjlbfijjfjogiaa
open Go Go.Am Go.Pol
theorem wkx_Rc {p : Prop} (h : p := by (refine weak_s (by exact oneOf_of rfl) (by exact subH_of rfl) (by intro hs; (repeat' ((try (conv => whnf)); first | with_reducible exact True.intro | with_reducible refine And.intro ?_ ?_ | (with_reducible refine WkX.mk ?_; first | exact wk_undef | exact wk_int (by first | rfl | omega | (dsimp only; omega)) | exact wk_bool rfl | exact wk_ptr rfl (by first | decide | simp | omega) | exact wk_sl rfl (by first | decide | simp | omega) (by first | rfl | omega | simp) (by first | omega | simp) (by first | omega | simp) | exact wk_own rfl (by first | decide | simp | omega) | exact wk_nil0 (by first | rfl | simp) | exact wk_slown rfl (by first | decide | omega | (simp; done)) (by first | omega | (simp; done)) (by first | rfl | omega | (simp; done) | (simp; omega)) | exact wk_plain hs (by (first | assumption | exact plain_int | exact plain_bool | exact plain_undef | exact plain_nils | exact plain_nilp | exact plain_nilf | exact plain_str | with_reducible apply plain_rl | with_reducible apply plain_rls | with_reducible apply plain_pl | with_reducible apply plain_ii | with_reducible apply plain_st | with_reducible apply plain_stE | with_reducible apply plain_zst | with_reducible apply plain_zstE)) | (with_reducible refine wk_fn ?_ ?_ <;> repeat' (first | with_reducible exact wkl_nil | with_reducible refine wkl_cons ?_ ?_ | exact wk_ptr rfl (by first | decide | simp | omega))) | (with_reducible refine wk_agg ?_; repeat' (first | with_reducible exact wkl_nil | with_reducible refine wkl_cons ?_ ?_ | exact wk_int (by first | rfl | omega | (dsimp only; omega)) | exact wk_bool rfl)) | exact wk_yld rfl (by first | decide | simp | omega))))) (by intro hs; (try dsimp only); (repeat' (first | with_reducible exact wko_nil | refine wko_plain hs (by first | decide | omega | simp) rfl (by first | rfl) (by (first | with_reducible assumption | with_reducible apply rlA_plain _ | with_reducible apply plain_flat rlA_plain | with_reducible apply stA_plain | with_reducible apply plain_map (fun _ => plain_int) | with_reducible apply plain_map (fun _ => plain_bool) | ((repeat' (first | exact plain_all0 | refine plain_all2 ?_ ?_ | exact plain_int | first | assumption | exact plain_int | exact plain_bool | exact plain_undef | exact plain_nils | exact plain_nilp | exact plain_nilf | exact plain_str | with_reducible apply plain_rl | with_reducible apply plain_rls | with_reducible apply plain_pl | with_reducible apply plain_ii | with_reducible apply plain_st | with_reducible apply plain_stE | with_reducible apply plain_zst | with_reducible apply plain_zstE)); done) | ((refine plain_app ?_ ?_) <;> (first | with_reducible assumption | with_reducible apply rlA_plain _ | with_reducible apply plain_flat rlA_plain | with_reducible apply stA_plain | with_reducible apply plain_map (fun _ => plain_int) | with_reducible apply plain_map (fun _ => plain_bool) | ((repeat' (first | exact plain_all0 | refine plain_all2 ?_ ?_ | exact plain_int | first | assumption | exact plain_int | exact plain_bool | exact plain_undef | exact plain_nils | exact plain_nilp | exact plain_nilf | exact plain_str | with_reducible apply plain_rl | with_reducible apply plain_rls | with_reducible apply plain_pl | with_reducible apply plain_ii | with_reducible apply plain_st | with_reducible apply plain_stE | with_reducible apply plain_zst | with_reducible apply plain_zstE)); done))))) ?_ | refine wko_cells (by first | decide | omega | simp) rfl (by repeat' (first | with_reducible exact wkl_nil | with_reducible refine wkl_cons ?_ ?_ | (first | exact wk_undef | exact wk_int (by first | rfl | omega | (dsimp only; omega)) | exact wk_bool rfl | exact wk_ptr rfl (by first | decide | simp | omega) | exact wk_sl rfl (by first | decide | simp | omega) (by first | rfl | omega | simp) (by first | omega | simp) (by first | omega | simp) | exact wk_own rfl (by first | decide | simp | omega) | exact wk_nil0 (by first | rfl | simp) | exact wk_slown rfl (by first | decide | omega | (simp; done)) (by first | omega | (simp; done)) (by first | rfl | omega | (simp; done) | (simp; omega)) | exact wk_plain hs (by (first | assumption | exact plain_int | exact plain_bool | exact plain_undef | exact plain_nils | exact plain_nilp | exact plain_nilf | exact plain_str | with_reducible apply plain_rl | with_reducible apply plain_rls | with_reducible apply plain_pl | with_reducible apply plain_ii | with_reducible apply plain_st | with_reducible apply plain_stE | with_reducible apply plain_zst | with_reducible apply plain_zstE)) | (with_reducible refine wk_fn ?_ ?_ <;> repeat' (first | with_reducible exact wkl_nil | with_reducible refine wkl_cons ?_ ?_ | exact wk_ptr rfl (by first | decide | simp | omega))) | (with_reducible refine wk_agg ?_; repeat' (first | with_reducible exact wkl_nil | with_reducible refine wkl_cons ?_ ?_ | exact wk_int (by first | rfl | omega | (dsimp only; omega)) | exact wk_bool rfl)) | exact wk_yld rfl (by first | decide | simp | omega)))) ?_ | refine wko_loop (by first | decide | omega | simp) rfl (by ((try subst hF); (try subst hF2); exact wkl_sd (wkf_sget (by (repeat' ((try (conv => whnf)); first | with_reducible exact True.intro | with_reducible refine And.intro ?_ ?_ | (with_reducible refine WkX.mk ?_; first | exact wk_undef | exact wk_int (by first | rfl | omega | (dsimp only; omega)) | exact wk_bool rfl | exact wk_ptr rfl (by first | decide | simp | omega) | exact wk_sl rfl (by first | decide | simp | omega) (by first | rfl | omega | simp) (by first | omega | simp) (by first | omega | simp) | exact wk_own rfl (by first | decide | simp | omega) | exact wk_nil0 (by first | rfl | simp) | exact wk_slown rfl (by first | decide | omega | (simp; done)) (by first | omega | (simp; done)) (by first | rfl | omega | (simp; done) | (simp; omega)) | exact wk_plain hs (by (first | assumption | exact plain_int | exact plain_bool | exact plain_undef | exact plain_nils | exact plain_nilp | exact plain_nilf | exact plain_str | with_reducible apply plain_rl | with_reducible apply plain_rls | with_reducible apply plain_pl | with_reducible apply plain_ii | with_reducible apply plain_st | with_reducible apply plain_stE | with_reducible apply plain_zst | with_reducible apply plain_zstE)) | (with_reducible refine wk_fn ?_ ?_ <;> repeat' (first | with_reducible exact wkl_nil | with_reducible refine wkl_cons ?_ ?_ | exact wk_ptr rfl (by first | decide | simp | omega))) | (with_reducible refine wk_agg ?_; repeat' (first | with_reducible exact wkl_nil | with_reducible refine wkl_cons ?_ ?_ | exact wk_int (by first | rfl | omega | (dsimp only; omega)) | exact wk_bool rfl)) | exact wk_yld rfl (by first | decide | simp | omega)))))))) ?_ | exact wko_nil))))) : p := h
section
variable {l : List Rl} {k n : Int}
theorem r_refused (hl : okL l) (hn : -1000000 ≤ n ∧ n ≤ 1000001) (hb : l.length ≤ 1000) : PureS 70 [.agg [.isl (l.map rlA)], .int .i64 k, .int .i64 n] (.bool (refL l k n)) := by
  refine PureS.mk (pure_x hmix b70 plainG ⟨plain_pl, plain_int, plain_int, trivial⟩ plain_bool rfl ?_)
  unfold c70
  (refine wx ?_; repeat' (first | with_reducible refine And.intro ?_ ?_ | intro hsp))
  (refine loop_x [1, 2, 3] (fun (i : Nat) => [(7, .int .i64 (i : Nat))]) (fun (i : Nat) => ⟨[(0, .cells [.isl (l.map rlA)])], 1⟩) (fun (i : Nat) => i ≤ l.length ∧ ∀ j, j < i → refB (nth dR l j) k n = false) (fun (i : Nat) => l.length - i) (0) [] rfl (fun _ => by first | exact Nat.zero_le _ | (dsimp only; omega)) ?_ (by ((try (conv => whnf)); exact wkx_Rc)) ?_)
  · exact ⟨Nat.zero_le _, fun j hj => by omega⟩
  rintro i ⟨hi, h0⟩
  by_cases hil : i < l.length
  · obtain ⟨r, he⟩ : ∃ r, nth dR l i = r := ⟨_, rfl⟩
    have z := r_refuses r k n (by rw [← he]; exact hl i hil) hn
    cases h1 : refB r k n with
    | false =>
      rw [h1] at z
      (refine wx ?_; repeat' (first | with_reducible refine And.intro ?_ ?_ | intro hsp))
      all_goals exact next_x (i + 1) [] ⟨by omega, fun j hj => if e : j = i then by rw [e, he]; exact h1 else h0 j (by omega)⟩ (by first | omega | (dsimp only; omega)) rfl (by exact wkx_Rc)
    | true =>
      rw [h1] at z
      rw [any_at hil (by rw [he]; exact h1)]
      (refine wx ?_; repeat' (first | with_reducible refine And.intro ?_ ?_ | intro hsp))
      all_goals exact end_bool rfl
  · rw [any_no fun j hj => h0 j (by omega)]
    (refine wx ?_; repeat' (first | with_reducible refine And.intro ?_ ?_ | intro hsp))
    all_goals exact end_bool rfl
theorem r_hits (hl : okL l) (m : Nat) (hm : m ≤ 1000000) (hb : l.length ≤ 1000) : PureS 76 [.agg [.isl (l.map rlA)], .int .i64 k, .int .i64 (m : Nat)] (.int .i64 (cnt l k m : Nat)) := by
  refine PureS.mk (pure_x hmix b76 plainG ⟨plain_pl, plain_int, plain_int, trivial⟩ plain_int rfl ?_)
  unfold c76
  (refine wx ?_; repeat' (first | with_reducible refine And.intro ?_ ?_ | intro hsp))
  (refine loop_x [1, 2, 3] (fun (i : Nat) => [(7, .int .i64 (cnt l k i : Nat)), (8, .int .i64 ((i : Nat) + 1 : Int))]) (fun (i : Nat) => ⟨[(0, .cells [.isl (l.map rlA)])], 1⟩) (fun (i : Nat) => i ≤ m) (fun (i : Nat) => m - i) (0) [] rfl (fun _ => by first | exact Nat.zero_le _ | (dsimp only; omega)) ?_ (by ((try (conv => whnf)); (rw [show cnt l k 0 = 0 from rfl]); exact wkx_Rc)) ?_)
  · exact Nat.zero_le _
  intro i hi
  have hc := cnt_le (l := l) (k := k) i
  by_cases hil : i < m
  · have z := r_refused (k := k) (n := ((i : Nat) + 1 : Int)) hl (by omega) hb
    cases h1 : refL l k ((i : Nat) + 1 : Int) with
    | false =>
      have hs : cnt l k (i + 1) = cnt l k i := by show cnt l k i + (if refL l k ((i : Nat) + 1 : Int) then 1 else 0) = _; rw [h1]; rfl
      rw [h1] at z
      (refine wx ?_; repeat' (first | with_reducible refine And.intro ?_ ?_ | intro hsp))
      all_goals exact next_x (i + 1) [] (by (try dsimp only); omega) (by first | omega | (dsimp only; omega)) rfl (by ((try dsimp only); rw [hs]); exact wkx_Rc)
    | true =>
      have hs : cnt l k (i + 1) = cnt l k i + 1 := by show cnt l k i + (if refL l k ((i : Nat) + 1 : Int) then 1 else 0) = _; rw [h1]; rfl
      rw [h1] at z
      (refine wx ?_; repeat' (first | with_reducible refine And.intro ?_ ?_ | intro hsp))
      all_goals exact next_x (i + 1) [] (by (try dsimp only); omega) (by first | omega | (dsimp only; omega)) rfl (by ((try dsimp only); rw [hs]); exact wkx_Rc)
  · have : i = m := by omega
    subst this
    (refine wx ?_; repeat' (first | with_reducible refine And.intro ?_ ?_ | intro hsp))
    all_goals exact end_int rfl
theorem k_next (r : Rl) (hr : rlErr r = 0) (hn : -1000000 ≤ n ∧ n ≤ 1000001) : PureS 98 [.agg [.int .i64 r.k, .int .i64 r.f, .int .i64 r.e, .int .i64 r.t], .int .i64 n] (.int .i64 (nextR r n)) := by
  obtain ⟨h1, h2, h3⟩ := rl_ok hr
  refine PureS.mk (pure_x hmix b98 plainG ⟨plain_rl, plain_int, trivial⟩ plain_int rfl ?_)
  unfold c98
  by_cases hc : n < r.f
  · have e : nextR r n = r.f := if_pos hc
    rw [e]
    (refine wx ?_; repeat' (first | with_reducible refine And.intro ?_ ?_ | intro hsp))
    all_goals exact end_int rfl
  · by_cases he : r.e = 0
    · have e : nextR r n = 0 := (if_neg hc).trans (if_pos he)
      rw [e]
      (refine wx ?_; repeat' (first | with_reducible refine And.intro ?_ ?_ | intro hsp))
      all_goals exact end_int rfl
    · have ht : Int.tdiv (n - r.f) r.e = (n - r.f) / r.e := Int.tdiv_eq_ediv_of_nonneg (by omega)
      have q0 : 0 ≤ (n - r.f) / r.e := Int.ediv_nonneg (by omega) (by omega)
      have q1 : (n - r.f) / r.e * r.e ≤ n - r.f := Int.ediv_mul_le _ he
      have q2 : (n - r.f) / r.e ≤ (n - r.f) / r.e * r.e := by
        have := Int.mul_le_mul_of_nonneg_left (show 1 ≤ r.e by omega) q0
        omega
      have e : nextR r n = if 0 < r.t ∧ r.t ≤ (n - r.f) / r.e + 1 then 0 else r.f + ((n - r.f) / r.e + 1) * r.e := (if_neg hc).trans (if_neg he)
      rw [e]
      generalize hq : (n - r.f) / r.e = q at *
      have hw : IntKind.i64.wrap ((n - r.f).tdiv r.e) = q := by rw [ht]; exact IntWalk.i64_in _ ⟨by omega, by omega⟩
      clear ht
      have q3 : (q + 1) * r.e = q * r.e + r.e := by rw [Int.add_mul, Int.one_mul]
      (refine wx ?_; repeat' (first | with_reducible refine And.intro ?_ ?_ | intro hsp))
      all_goals first | exact end_plain (congrArg (AV.int .i64) (if_pos (by omega)).symm) plain_int | exact end_plain (congrArg (AV.int .i64) (if_neg (by omega)).symm) plain_int
end
end Go.Proofs.Ytjlbfijjfjogiaa
