/-
  ZeroingExact: the law's function returns true, at any page and list of cuts.
-/
import Derived.Test.YtjhmknnokloneaaDoorEb
set_option linter.unusedSimpArgs false
set_option linter.unusedVariables false
namespace Go.Pol
/-- One page has bytes. -/
def oneP (p m : Nat) : Nat → Nat := updM (fun _ => 0) p m
theorem u64_zero : U64 0 := by unfold U64; omega
theorem oneP_u64 {p m : Nat} (hm : U64 m) : ∀ k, U64 (oneP p m k) := updM_u64 (fun _ => u64_zero) hm _
theorem cuts_zero : (cutsM 0).length ≤ 4 := by decide +kernel
theorem oneP_open {p m : Nat} (hm : U64 m) (hp : p < 1024) (h4 : (cutsM m).length ≤ 4) : openM (stateM (oneP p m) 1024) = oneP p m := by
  refine open_state (oneP_u64 hm) (fun k => ?_) fun k hk => ?_
  · unfold oneP updM
    split
    · exact h4
    · exact cuts_zero
  · unfold oneP updM
    rw [if_neg (by omega)]
theorem oneP_turn {p m f B : Nat} (h1 : 1 ≤ B) (h2 : f + B ≤ 64) : turnM opOr (oneP p m) (p * 64 + f) B = oneP p (setR m f B) := by
  rw [turnM_step (by omega), show (p * 64 + f) / 64 = p by omega, show (p * 64 + f) % 64 = f by omega, show min B (64 - f) = B by omega, Nat.sub_self, turnM_zero]
  unfold oneP
  rw [updM_updM, updM_at]; rfl
theorem setR_u64 {m f B : Nat} (hm : U64 m) (h : f + B ≤ 64) : U64 (setR m f B) := U64.or hm (runM_u64 (by dsimp only; omega) (by dsimp only; omega) (by dsimp only; omega))
theorem and_all {x : Nat} (hx : U64 x) : x &&& runM (((0 : Nat) : Int), ((64 : Nat) : Int)) = x := ext64 (Nat.lt_of_le_of_lt Nat.and_le_left hx) hx fun b hb => by
  rw [Nat.testBit_and, runM_bit _ (by dsimp only; omega) (by dsimp only; omega), decide_eq_true (by dsimp only; omega), Bool.and_true]
theorem given_page {p m : Nat} (hm : U64 m) (hp : p < 1024) : givenP (openM (stateM (oneP p m) 1024)) (p * 64) 64 = (downM m).map fun c => ((p : Int) * 64 + c.1, c.2) := by
  have hM : openM (stateM (oneP p m) 1024) p = unionM (downM m) := by
    rw [stateM_stC (oneP_u64 hm), openM_stC, if_pos hp, show oneP p m p = m from updM_at _ _ _]
  rw [givenP_step (by omega), show min 64 (64 - p * 64 % 64) = 64 by omega, Nat.sub_self, givenP_zero, List.append_nil]
  unfold cutsAt
  rw [show p * 64 / 64 = p by omega, show p * 64 % 64 = 0 by omega, hM, and_all (sep_u64 (down_sep m)), cutsM_union (down_sep m)]
theorem sum_map {l : List Cut} {f : Cut → Int} : sumL (l.map fun c => (f c, c.2)) = sumL l := by
  unfold sumL; rw [List.map_map]; rfl
theorem sum_merge : ∀ (l : List Cut) (b : Nat), b + 1 < l.length → sumL ((widen l b).eraseIdx (b + 1)) = sumL l + gapL l b
  | [], _, h => by simp at h
  | [c], _, h => by simp at h
  | c :: d :: l, 0, _ => by
    show sumL ((c.1, d.1 + d.2 - c.1) :: l) = sumL (c :: d :: l) + (d.1 - c.1 - c.2)
    simp only [sumL, List.map_cons, List.sum_cons]; omega
  | c :: d :: l, b + 1, h => by
    have ih := sum_merge (d :: l) b (by simpa using h)
    show sumL (c :: (widen (d :: l) b).eraseIdx (b + 1)) = sumL (c :: d :: l) + gapL (d :: l) b
    simp only [sumL, List.map_cons, List.sum_cons] at ih ⊢; omega
theorem down_five {m : Nat} (h : (cutsM m).length = 5) : sumL (downM m) = sumL (cutsM m) + gapS (cutsM m) := by
  have hb := bestL_lt (cutsM m) ((cutsM m).length - 1) (by omega)
  have hl := merge1_length (l := cutsM m) (by omega)
  unfold downM
  rw [← mergeL_step (by omega), mergeL_four (by omega)]
  unfold merge1
  rw [sum_merge _ _ (by omega)]
  unfold gapS leastL
  rw [if_neg (by omega)]
theorem down_sum (m : Nat) : 0 ≤ sumL (downM m) ∧ sumL (downM m) ≤ 4096 := by
  have h := sum_bound (n := 64) (downM m) fun z hz => by have := (down_sep m).all z hz; omega
  have := down_four m
  omega
def markN (l : List Cut) : Nat := l.foldl (fun m c => setR m (fromN c) (bytesN c)) 0
theorem markN_snoc (l : List Cut) (c : Cut) : markN (l ++ [c]) = setR (markN l) (fromN c) (bytesN c) := by simp [markN]
theorem markN_u64 (l : List Cut) : ∀ i, i ≤ l.length → U64 (markN (l.take i))
  | 0, _ => u64_zero
  | i + 1, h => by
    rw [take_nth (d := (0, 0)) (by omega), markN_snoc]
    exact setR_u64 (markN_u64 l i (by omega)) (cut_eqs _).2.2.2.2.2.2
theorem markN_all (l : List Cut) (i : Nat) : U64 (markN (l.take i)) := by
  by_cases h : i ≤ l.length
  · exact markN_u64 l i h
  · rw [List.take_of_length_le (by omega)]
    have := markN_u64 l l.length (Nat.le_refl _)
    rwa [List.take_of_length_le (Nat.le_refl _)] at this
end Go.Pol
namespace Go.Proofs.YtjhmknnokloneaaDoor
open Go Go.Am Go.Pol
theorem k_exact (pg : Nat) (l : List Cut) (hpg : pg < 65536) :
    PureC Tryd.prog G0 4 [.int .u16 (pg : Nat), cutsA l] (.bool true) := by
  by_cases hl : 12 < l.length
  · exact exact_far pg l hl
  have hp : IntKind.i64.wrap ((pg : Int).tmod 1024) = ((pg % 1024 : Nat) : Int) := by
    rw [Int.tmod_eq_emod_of_nonneg (by omega), IntWalk.i64_in _ (by omega)]; omega
  have hp2 : pg % 1024 < 1024 := by omega
  generalize pg % 1024 = p at *
  have hstep : ∀ i, i < l.length → markN (l.take (i + 1)) = setR (markN (l.take i)) (fromN (nth (0, 0) l i)) (bytesN (nth (0, 0) l i)) := fun i hi => by rw [take_nth (d := (0, 0)) hi, markN_snoc]
  have hgood : ∀ i, checkM (stateM (oneP p (markN (l.take i))) 1024) = 0 := fun i => check_state (oneP_u64 (markN_all l i))
  have hlen : ∀ i, (stateM (oneP p (markN (l.take i))) 1024).length ≤ 1024 := fun i => stateM_length _ _
  have hc : ∀ i, ∀ q ∈ stateM (oneP p (markN (l.take i))) 1024, q.2.length ≤ 100 := fun i q hq => by have := can_four (stateM_can (oneP_u64 (markN_all l i))) q hq; omega
  refine exact_walk pg p l (fun i => markN (l.take i)) (fun i => stateM (oneP p (markN (l.take i))) 1024) (fun i => (cutsM (markN (l.take i))).length) (fun i => sumL (downM (markN (l.take i)))) (fun i => sumL (cutsM (markN (l.take i)))) (fun i => gapS (cutsM (markN (l.take i)))) hp hp2 (by omega) ?_ rfl cuts_zero hstep (fun i hi h4 => ?_) (fun i hi => ?_) (fun i hi => k_count _) (fun i => down_sum _) (fun i h4 => ?_) (fun i h5 => down_five h5)
  · show stateM (oneP p 0) 1024 = []
    rw [stateM_stC (oneP_u64 u64_zero), stC_stR]
    refine stR_nil _ _ fun k _ => (down_nil (oneP_u64 u64_zero k)).2 ?_
    unfold oneP updM; split <;> rfl
  · obtain ⟨-, -, -, b1, b2, b3, b4⟩ := cut_eqs (nth (0, 0) l i)
    have hok : askM (stateM (oneP p (markN (l.take i))) 1024) ((p : Nat) * 64 + (fromN (nth (0, 0) l i) : Nat)) (bytesN (nth (0, 0) l i) : Nat) = 0 := by
      rw [askM, if_pos (hgood i), if_pos]
      simp only [okZone, decide_eq_true_eq]; omega
    have hw := k_wrote (stateM (oneP p (markN (l.take i))) 1024) ((p : Nat) * 64 + (fromN (nth (0, 0) l i) : Nat)) (bytesN (nth (0, 0) l i) : Nat) (by have := hlen i; omega) (hc i) fun _ => ⟨(check_good (hgood i)).1, by omega, by omega, by omega⟩
    rw [hok, if_pos rfl, oneP_open (markN_all l i) hp2 h4, show ((p : Int) * 64 + (fromN (nth (0, 0) l i) : Nat)).toNat = p * 64 + fromN (nth (0, 0) l i) by omega, Int.toNat_natCast, oneP_turn b3 b4, ← hstep i hi] at hw
    exact hw
  · have hok : askM (stateM (oneP p (markN (l.take (i + 1)))) 1024) ((p : Nat) * 64) 64 = 0 := by
      rw [askM, if_pos (hgood (i + 1)), if_pos]
      simp only [okZone, decide_eq_true_eq]; omega
    have hg := k_given (stateM (oneP p (markN (l.take (i + 1)))) 1024) ((p : Nat) * 64) 64 (by have := hlen (i + 1); omega) (hc (i + 1)) fun _ => ⟨(check_good (hgood (i + 1))).1, by omega, by omega, by omega⟩
    rw [hok, if_pos rfl, show ((p : Int) * 64).toNat = p * 64 by omega, show (64 : Int).toNat = 64 from rfl, given_page (markN_all l (i + 1)) hp2] at hg
    have hk := k_cost _ _ _ _ _ (by rw [List.length_map]; have := down_four (markN (l.take (i + 1))); omega) (fun z hz => by
      obtain ⟨c, hc, rfl⟩ := List.mem_map.1 hz
      have := (down_sep (markN (l.take (i + 1)))).all c hc
      dsimp only; omega) hg
    rw [sum_map] at hk
    exact hk
  · show sumL (mergeL (cutsM _)) = _
    rw [mergeL_four h4]
end Go.Proofs.YtjhmknnokloneaaDoor
