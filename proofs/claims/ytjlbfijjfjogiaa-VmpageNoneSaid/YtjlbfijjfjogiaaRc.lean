/-
  Refusals: which calls a plan refuses, and how many; of both.
-/
import Derived.Test.YtjlbfijjfjogiaaRb
set_option linter.unusedSimpArgs false
set_option linter.unusedVariables false
namespace Go.Pol
open Go.Am
section
variable {l : List Rl} {k n : Int}
def okL (l : List Rl) : Prop := ∀ j, j < l.length → rlErr (nth dR l j) = 0
theorem chk_ok {i : Int} (h : chkP l = (i, 0)) : okL l ∧ l.length ≤ 50 := by
  unfold chkP at h
  split at h
  · cases h
  · rename_i hl
    refine ⟨fun j hj => Classical.byContradiction fun hne => ?_, by omega⟩
    have key : ∀ (l : List Rl) (i : Nat) (j : Nat), j < l.length → rlErr (nth dR l j) ≠ 0 → (firstB l i).2 ≠ 0 := by
      intro l
      induction l with
      | nil => intro i j hj; cases hj
      | cons r l ih =>
        intro i j hj hne
        by_cases h0 : rlErr r = 0
        · show (if rlErr r = 0 then firstB l (i + 1) else _).2 ≠ 0
          rw [if_pos h0]
          cases j with
          | zero => exact absurd h0 hne
          | succ j => exact ih (i + 1) j (by simpa using hj) hne
        · show (if rlErr r = 0 then firstB l (i + 1) else _).2 ≠ 0
          rw [if_neg h0]; exact h0
    exact key l 0 j hj hne (by rw [h])
theorem any_at {i : Nat} (hi : i < l.length) (h : refB (nth dR l i) k n = true) : refL l k n = true := List.any_eq_true.2 ⟨_, nth_mem hi, h⟩
theorem any_no (h : ∀ j, j < l.length → refB (nth dR l j) k n = false) : refL l k n = false := by
  unfold refL
  rw [List.any_eq_false]
  intro r hr
  obtain ⟨j, hj, rfl⟩ := List.mem_iff_getElem.1 hr
  rw [← nth_get (d := dR) hj, h j hj]; simp
/-- How many of the first calls are refused. -/
def cnt (l : List Rl) (k : Int) : Nat → Nat
  | 0 => 0
  | m + 1 => cnt l k m + if refL l k ((m + 1 : Nat) : Int) then 1 else 0
theorem cnt_le : ∀ m, cnt l k m ≤ m
  | 0 => Nat.le_refl _
  | m + 1 => by
    have := cnt_le m
    show cnt l k m + _ ≤ m + 1
    split <;> omega
def nextR (r : Rl) (n : Int) : Int := if n < r.f then r.f else if r.e = 0 then 0 else if 0 < r.t ∧ r.t ≤ (n - r.f) / r.e + 1 then 0 else r.f + ((n - r.f) / r.e + 1) * r.e
theorem div_last {d e : Int} (hd : 1 ≤ d) (he : 1 ≤ e) : ((d - 1) / e + 1) * e = d ↔ d / e * e = d := by
  constructor
  · intro h
    rw [← h, Int.mul_ediv_cancel _ (by omega)]
  · intro h
    have h1 : d - 1 = (e - 1) + (d / e - 1) * e := by rw [Int.sub_mul, Int.one_mul, h]; omega
    rw [h1, Int.add_mul_ediv_right _ _ (by omega), Int.ediv_eq_zero_of_lt (by omega) (by omega), Int.zero_add, Int.sub_add_cancel]
    exact h
theorem div_last2 {d e : Int} (hd : 1 ≤ d) (he : 1 ≤ e) (h : d / e * e = d) : (d - 1) / e + 1 = d / e := by
  have h1 := (div_last hd he).2 h
  rw [← h] at h1
  rw [h] at h1
  have h2 : ((d - 1) / e + 1) * e = d / e * e := by rw [h1, h]
  exact Int.eq_of_mul_eq_mul_right (by omega) h2
theorem next_ref {r : Rl} (hf : 1 ≤ r.f) (he0 : 0 ≤ r.e) (ht0 : 0 ≤ r.t) (hn : 1 ≤ n) : (r.k = k ∧ nextR r (n - 1) = n) ↔ refB r k n = true := by
  unfold refB nextR
  rw [decide_eq_true_eq]
  by_cases h1 : n - 1 < r.f
  · rw [if_pos h1]
    constructor
    · rintro ⟨e1, e2⟩
      refine ⟨e1, by omega, ?_⟩
      by_cases he : r.e = 0
      · exact .inl ⟨he, e2.symm⟩
      · refine .inr ⟨he, ?_, ?_⟩
        · rw [show n - r.f = 0 by omega, Int.zero_ediv, Int.zero_mul]; omega
        · rw [show n - r.f = 0 by omega, Int.zero_ediv]; omega
    · rintro ⟨e1, e2, _⟩
      exact ⟨e1, by omega⟩
  · rw [if_neg h1]
    by_cases he : r.e = 0
    · rw [if_pos he]
      constructor
      · rintro ⟨_, e2⟩; omega
      · rintro ⟨_, e2, e3⟩; omega
    · rw [if_neg he]
      have hd := div_last (d := n - r.f) (e := r.e) (by omega) (by omega)
      have hd2 := div_last2 (d := n - r.f) (e := r.e) (by omega) (by omega)
      rw [show n - r.f - 1 = n - 1 - r.f by omega] at hd hd2
      constructor
      · rintro ⟨e1, e2⟩
        split at e2
        · omega
        · rename_i h3
          have h4 := hd.1 (by omega)
          have h5 := hd2 h4
          exact ⟨e1, by omega, .inr ⟨he, by omega, by omega⟩⟩
      · rintro ⟨e1, e2, e3⟩
        rcases e3 with e3 | ⟨_, e4, e5⟩
        · omega
        · have h4 : (n - r.f) / r.e * r.e = n - r.f := by omega
          have h5 := hd2 h4
          have h6 := hd.2 h4
          refine ⟨e1, ?_⟩
          rw [if_neg (by omega)]
          omega
end
end Go.Pol
namespace Go.Proofs.Ytjlbfijjfjogiaa
open Go Go.Am Go.Pol
section
variable {l : List Rl} {k n : Int}
theorem k_next (r : Rl) (hr : rlErr r = 0) (hn : -1000000 ≤ n ∧ n ≤ 1000001) : PureS 98 [.agg [.int .i64 r.k, .int .i64 r.f, .int .i64 r.e, .int .i64 r.t], .int .i64 n] (.int .i64 (nextR r n)) := by
  obtain ⟨h1, h2, h3⟩ := rl_ok hr
  refine PureS.mk (pure_x hmix b98 plainG ⟨plain_rl, plain_int, trivial⟩ plain_int rfl ?_)
  unfold c98
  by_cases hc : n < r.f
  · have e : nextR r n = r.f := if_pos hc
    rw [e]
    (refine wx ?_; repeat' (first | with_reducible refine And.intro ?_ ?_ | intro hsp))
    all_goals exact end_int rfl
  · by_cases he : r.e = 0
    · have e : nextR r n = 0 := (if_neg hc).trans (if_pos he)
      rw [e]
      (refine wx ?_; repeat' (first | with_reducible refine And.intro ?_ ?_ | intro hsp))
      all_goals exact end_int rfl
    · have ht : Int.tdiv (n - r.f) r.e = (n - r.f) / r.e := Int.tdiv_eq_ediv_of_nonneg (by omega)
      have q0 : 0 ≤ (n - r.f) / r.e := Int.ediv_nonneg (by omega) (by omega)
      have q1 : (n - r.f) / r.e * r.e ≤ n - r.f := Int.ediv_mul_le _ he
      have q2 : (n - r.f) / r.e ≤ (n - r.f) / r.e * r.e := by
        have := Int.mul_le_mul_of_nonneg_left (show 1 ≤ r.e by omega) q0
        omega
      have e : nextR r n = if 0 < r.t ∧ r.t ≤ (n - r.f) / r.e + 1 then 0 else r.f + ((n - r.f) / r.e + 1) * r.e := (if_neg hc).trans (if_neg he)
      rw [e]
      generalize hq : (n - r.f) / r.e = q at *
      have hw : IntKind.i64.wrap ((n - r.f).tdiv r.e) = q := by rw [ht]; exact IntWalk.i64_in _ ⟨by omega, by omega⟩
      clear ht
      have q3 : (q + 1) * r.e = q * r.e + r.e := by rw [Int.add_mul, Int.one_mul]
      (refine wx ?_; repeat' (first | with_reducible refine And.intro ?_ ?_ | intro hsp))
      all_goals first | exact end_plain (congrArg (AV.int .i64) (if_pos (by omega)).symm) plain_int | exact end_plain (congrArg (AV.int .i64) (if_neg (by omega)).symm) plain_int
end
end Go.Proofs.Ytjlbfijjfjogiaa
