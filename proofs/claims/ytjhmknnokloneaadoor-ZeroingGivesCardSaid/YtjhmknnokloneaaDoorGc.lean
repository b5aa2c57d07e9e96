/-
  Layer 15's plain law of Given: what the program gives of a valid state is what the reference gives. No program in sight.
-/
import Derived.Test.YtjhmknnokloneaaDoorGb
import Derived.Test.YtjhmknnokloneaaDoorYt
set_option linter.unusedSimpArgs false
set_option linter.unusedVariables false
namespace Go.Pol
/-- What of a cut lies within bytes of its page. -/
def clip (f n : Int) (c : Cut) : List Cut := if max c.1 f < min (c.1 + c.2) (f + n) then [(max c.1 f, min (c.1 + c.2) (f + n) - max c.1 f)] else []
theorem sep_mono : ∀ {l : List Cut} {a b : Int}, a ≤ b → Sep b l → Sep a l
  | [], _, _, _, _ => trivial
  | c :: l, a, b, h, hs => ⟨by have := hs.1; omega, hs.2⟩
theorem sep_clip (f n : Int) : ∀ {l : List Cut} {a : Int}, Sep a l → Sep a (l.flatMap (clip f n))
  | [], _, _ => trivial
  | c :: l, a, h => by
    obtain ⟨h1, h2, h3, h4⟩ := h
    have ih := sep_clip f n h4
    simp only [List.flatMap_cons]
    unfold clip
    split
    · rename_i hc
      exact ⟨by dsimp only; omega, by dsimp only; omega, by dsimp only; omega, sep_mono (by dsimp only; omega) ih⟩
    · exact sep_mono (by omega) ih
theorem in_clip (f n : Int) (b : Nat) : ∀ l : List Cut, inCuts (l.flatMap (clip f n)) b = (inCuts l b && decide (f ≤ (b : Int) ∧ (b : Int) < f + n))
  | [] => by simp [inCuts]
  | c :: l => by
    have ih := in_clip f n b l
    simp only [List.flatMap_cons]
    have e : ∀ x y : List Cut, inCuts (x ++ y) b = (inCuts x b || inCuts y b) := fun x y => by simp [inCuts]
    have e2 : ∀ (x : Cut) (y : List Cut), inCuts (x :: y) b = (inCuts [x] b || inCuts y b) := fun x y => by simp [inCuts]
    rw [e, ih, e2 c l]
    have : inCuts (clip f n c) b = (inCuts [c] b && decide (f ≤ (b : Int) ∧ (b : Int) < f + n)) := by
      rw [Bool.eq_iff_iff]
      unfold clip
      split <;> simp [inCuts] <;> omega
    rw [this, Bool.and_or_distrib_right]
theorem clip_cuts {C : List Cut} (hC : Sep 0 C) (f n : Nat) : cutsM (unionM C &&& runM ((f : Int), (n : Int))) = C.flatMap (clip f n) := by
  have hD := sep_clip f n hC
  rw [← cutsM_union hD]
  congr 1
  refine Nat.eq_of_testBit_eq fun b => ?_
  rw [Nat.testBit_and, unionM_bit _ fun d hd => by have := hC.all d hd; omega, unionM_bit _ fun d hd => by have := hD.all d hd; omega, runM_bit _ (by dsimp only; omega) (by dsimp only; omega), in_clip]
theorem zone_clip (q f : Nat) (n : Int) (c : Cut) : zoneOf ((q * 64 + f : Nat) : Int) n (q : Nat) c = (clip f n c).map fun d => ((q : Int) * 64 + d.1, d.2) := by
  unfold zoneOf clip
  by_cases h : max c.1 (f : Int) < min (c.1 + c.2) (f + n)
  · rw [if_pos h, if_pos (by omega)]
    simp only [List.map_cons, List.map_nil, List.cons.injEq, and_true, Prod.mk.injEq]
    omega
  · rw [if_neg h, if_neg (by omega)]; rfl
theorem flatMap_one {α β : Type} {l : List α} {f g : α → List β} (h : ∀ x ∈ l, f x = g x) : l.flatMap f = l.flatMap g := by
  induction l with
  | nil => rfl
  | cons x l ih => simp only [List.flatMap_cons]; rw [h x (List.mem_cons_self ..), ih fun y hy => h y (List.mem_cons_of_mem _ hy)]
theorem flatMap_no {α β : Type} {l : List α} {f : α → List β} (h : ∀ x ∈ l, f x = []) : l.flatMap f = [] := by
  induction l with
  | nil => rfl
  | cons x l ih => simp only [List.flatMap_cons]; rw [h x (List.mem_cons_self ..), ih fun y hy => h y (List.mem_cons_of_mem _ hy)]; rfl
theorem range_split {β : Type} {f g : Nat → List β} {q : Nat} {X : List β} (h1 : ∀ k, k < q → f k = [] ∧ g k = []) (h2 : f q = X ∧ g q = []) (h3 : ∀ k, q < k → f k = g k) : ∀ N, (List.range N).flatMap f = (if q < N then X else []) ++ (List.range N).flatMap g
  | 0 => by simp
  | N + 1 => by
    rw [List.range_succ, List.flatMap_append, List.flatMap_append, range_split h1 h2 h3 N]
    simp only [List.flatMap_cons, List.flatMap_nil, List.append_nil]
    rcases Nat.lt_trichotomy N q with h | h | h
    · rw [if_neg (by omega), if_neg (by omega), (h1 N h).1, (h1 N h).2]; simp
    · subst h
      rw [if_neg (by omega), if_pos (by omega), h2.1, h2.2, flatMap_no fun k hk => (h1 k (List.mem_range.1 hk)).2]
      simp
    · rw [if_pos h, if_pos (by omega), h3 N h, List.append_assoc]
theorem givenR_stC (c : Nat → List Cut) (a n : Int) : ∀ N, givenR (stC c N) a n = (List.range N).flatMap fun k => (c k).flatMap (zoneOf a n (k : Nat))
  | 0 => rfl
  | N + 1 => by
    rw [stC, List.range_succ, List.flatMap_append, ← givenR_stC c a n N]
    split
    · rename_i h; simp [h]
    · simp [givenR, zonesP]
theorem givenP_stC {N : Nat} {c : Nat → List Cut} {M : Nat → Nat} (hM : ∀ k, k < N → M k = unionM (c k)) (hc : ∀ k, Sep 0 (c k)) : ∀ (n a : Nat), a + n ≤ 64 * N → givenP M a n = (List.range N).flatMap fun k => (c k).flatMap (zoneOf (a : Nat) (n : Nat) (k : Nat)) := by
  have cut : ∀ k, ∀ d ∈ c k, 0 ≤ d.1 ∧ 1 ≤ d.2 ∧ d.1 + d.2 ≤ 64 := fun k d hd => by have := (hc k).all d hd; omega
  intro n
  induction n using Nat.strongRecOn with
  | ind n ih =>
    intro a han
    by_cases h0 : n = 0
    · subst h0
      rw [givenP_zero, flatMap_no]
      intro k _
      refine flatMap_no fun d hd => ?_
      unfold zoneOf; rw [if_neg (by omega)]
    · rw [givenP_step h0, ih (n - min n (64 - a % 64)) (by omega) _ (by omega)]
      generalize hsz : min n (64 - a % 64) = sz
      have hq : a / 64 < N := by omega
      have key : cutsAt M a sz = (c (a / 64)).flatMap (zoneOf (a : Nat) (n : Nat) ((a / 64 : Nat) : Int)) := by
        unfold cutsAt
        rw [hM _ hq, clip_cuts (hc _), List.map_flatMap]
        refine flatMap_one fun d hd => ?_
        have hd := cut _ d hd
        have e : a = a / 64 * 64 + a % 64 := by omega
        rw [show ((a : Nat) : Int) = ((a / 64 * 64 + a % 64 : Nat) : Int) by rw [← e], zone_clip]
        congr 1
        unfold clip
        have e3 : min (d.1 + d.2) (((a % 64 : Nat) : Int) + (sz : Nat)) = min (d.1 + d.2) (((a % 64 : Nat) : Int) + (n : Nat)) := by omega
        rw [e3]
      rw [key]
      have rs := range_split (f := fun k => (c k).flatMap (zoneOf (a : Nat) (n : Nat) (k : Nat))) (g := fun k => (c k).flatMap (zoneOf ((a + sz : Nat) : Int) ((n - sz : Nat) : Int) (k : Nat))) (q := a / 64) (X := (c (a / 64)).flatMap (zoneOf (a : Nat) (n : Nat) ((a / 64 : Nat) : Int))) ?_ ?_ ?_ N
      · rw [rs, if_pos hq]
      · exact fun k hk => ⟨flatMap_no fun d hd => by have hd := cut _ d hd; unfold zoneOf; rw [if_neg (by omega)], flatMap_no fun d hd => by have hd := cut _ d hd; unfold zoneOf; rw [if_neg (by omega)]⟩
      · exact ⟨rfl, flatMap_no fun d hd => by have hd := cut _ d hd; unfold zoneOf; rw [if_neg (by omega)]⟩
      · refine fun k hk => flatMap_one fun d hd => ?_
        have hd := cut _ d hd
        unfold zoneOf
        by_cases hs : sz = n
        · rw [if_neg (by omega), if_neg (by omega)]
        · have e1 : max ((k : Int) * 64 + d.1) (a : Nat) = max ((k : Int) * 64 + d.1) ((a + sz : Nat) : Int) := by omega
          have e2 : ((a : Nat) : Int) + (n : Nat) = ((a + sz : Nat) : Int) + ((n - sz : Nat) : Int) := by omega
          rw [e1, e2]
/-- **Given of the program is Given of the reference.** -/
theorem given_ref {s : List Page} {a n : Int} (hs : Can (-1) s) (ha : 0 ≤ a) (hn : 0 ≤ n) (han : a + n ≤ 65536) : givenP (openM s) a.toNat n.toNat = givenR s a n := by
  obtain ⟨A, rfl⟩ := Int.eq_ofNat_of_zero_le ha
  obtain ⟨B, rfl⟩ := Int.eq_ofNat_of_zero_le hn
  simp only [Int.toNat_natCast]
  have hc := can_cuts hs
  have key : givenP (openM (stC (cutsIn s) 1024)) A B = givenR (stC (cutsIn s) 1024) A B := by
    rw [givenR_stC, givenP_stC (N := 1024) (c := cutsIn s) (fun k hk => by rw [openM_stC, if_pos hk]) (fun k => (hc k).1) B A (by omega)]
  rwa [can_stC hs] at key
end Go.Pol
