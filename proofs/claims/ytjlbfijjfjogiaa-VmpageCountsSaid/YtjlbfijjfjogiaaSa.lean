/-
  The memory of the two systems; calls over one block.
-/
import Derived.Test.YtjlbfijjfjogiaaRe
set_option linter.unusedSimpArgs false
set_option linter.unusedVariables false
namespace Go.Pol
open Go.Am
@[irreducible] def memA (n : Nat) (F : Nat → AV) : List AV := (List.range n).map F
theorem memA_len (n : Nat) (F : Nat → AV) : (memA n F).length = n := by unfold memA; simp
theorem memA_get {n : Nat} {F : Nat → AV} {i : Nat} (h : i < n) : (memA n F)[i]? = some (F i) := by unfold memA; simp [h]
theorem memA_congr {n : Nat} {F G : Nat → AV} (h : ∀ i, i < n → F i = G i) : memA n F = memA n G := by
  unfold memA; exact List.map_congr_left fun i hi => h i (List.mem_range.1 hi)
theorem memA_set {n : Nat} {F : Nat → AV} {i : Nat} {v : AV} : (memA n F).set i v = memA n fun j => if j = i then v else F j := by
  refine List.ext_getElem? fun j => ?_
  by_cases hj : j < n
  · rw [memA_get hj]
    by_cases e : i = j
    · subst e; rw [List.getElem?_set_self (by rw [memA_len]; exact hj), if_pos rfl]
    · rw [List.getElem?_set_ne e, memA_get hj, if_neg fun h => e h.symm]
  · rw [List.getElem?_eq_none (by rw [List.length_set, memA_len]; omega), List.getElem?_eq_none (by rw [memA_len]; omega)]
theorem memA_plain {n : Nat} {F : Nat → AV} (h : ∀ i, i < n → Plain (F i)) : ∀ x ∈ memA n F, Plain x := fun x hx => by
  unfold memA at hx
  obtain ⟨i, hi, rfl⟩ := List.mem_map.1 hx
  exact h i (List.mem_range.1 hi)
theorem memA_over {n : Nat} : ∀ {vs : List AV} {F : Nat → AV} {o : Nat}, over (memA n F) o vs = memA n fun j => if o ≤ j ∧ j < o + vs.length then vs[j - o]?.getD .undef else F j
  | [], F, o => by
    unfold over
    exact memA_congr fun i _ => by rw [if_neg (by simp)]
  | v :: vs, F, o => by
    unfold over
    rw [memA_set, memA_over]
    refine memA_congr fun j _ => ?_
    by_cases h1 : o + 1 ≤ j ∧ j < o + 1 + vs.length
    · rw [if_pos h1, if_pos (by simp only [List.length_cons]; omega)]
      rw [show j - o = (j - (o + 1)) + 1 by omega, List.getElem?_cons_succ]
    · rw [if_neg h1]
      by_cases h2 : j = o
      · subst h2; rw [if_pos rfl, if_pos (by simp only [List.length_cons]; omega), Nat.sub_self]; rfl
      · rw [if_neg h2, if_neg (by simp only [List.length_cons]; omega)]
theorem memA_part {n : Nat} {F : Nat → AV} {o k : Nat} (h : o + k ≤ n) : ((memA n F).drop o).take k = (List.range k).map fun j => F (o + j) := by
  refine List.ext_getElem? fun j => ?_
  by_cases hj : j < k
  · rw [List.getElem?_take_of_lt hj, List.getElem?_drop, memA_get (by omega)]
    simp [hj]
  · rw [List.getElem?_eq_none (by rw [List.length_take]; omega), List.getElem?_eq_none (by simp; omega)]
end Go.Pol
namespace Go.Proofs.Ytjlbfijjfjogiaa
open Go Go.Am Go.Pol
/-- A call on one block of plain cells. -/
structure LocS (f : Nat) (avs : List AV) (cs : List AV) (r : AV) (ds : List AV) : Prop where
  out : LocC Try.prog G0 f (.ptr 0 0 :: avs) [(0, .cells cs)] 1 fun x h1 => x = r ∧ h1 = ⟨[(0, .cells ds)], 1⟩
  pc : ∀ x ∈ cs, Plain x
  pd : ∀ x ∈ ds, Plain x
  pa : ∀ x ∈ avs, Plain x
  pr : Plain r
theorem end_s {top : Bool} {h : Hp} {x r : AV} {ds : List AV} (hr : x = r) (hp : Plain r) (h0 : lk h.l 0 = some (.cells ds)) (pd : ∀ x ∈ ds, Plain x) :
    EndX top Try.prog 1 h x (fun r' h' => r' = r ∧ h' = ⟨[(0, .cells ds)], 1⟩) := by
  subst hr
  have hs : SubH (rn []) h ⟨[(0, .cells ds)], 1⟩ := fun i o hi => by
    simp only [lk] at hi
    show ∃ o', lk h.l i = some o'
    split at hi
    · rename_i e; subst e; exact ⟨_, h0⟩
    · cases hi
  exact end_loc [] rfl (Nat.le_refl _) (oneOf_of rfl) (wk_plain hs hp) (wko_plain hs (show 0 < 1 by decide) h0 rfl pd wko_nil) ⟨rfl, rfl⟩
theorem cx_locS {f : Nat} {avs : List AV} {cs ds : List AV} {a nx : Nat} {l : List (Nat × AObj)} {r : AV} {K : AV → Hp → Prop} (hc : LocS f avs cs r ds)
    (hl0 : lk l a = some (.cells cs)) (hlt : a < nx)
    (hk : filtK [a] l fun l2 => K r ⟨[(a, .cells ds)] ++ l2, nx⟩) : CallX Try.prog G0 (.fn f [] []) (.ptr a 0 :: avs) ⟨l, nx⟩ K := by
  have e0 : enter [a] a 0 := rfl
  have k0 : back [a] nx 0 a := rfl
  refine cx_loc (l1 := [(a, .cells ds)]) [a] hc.out plainG rfl (.cons e0 hl0 (rnl_plain hc.pc) .nil)
    ?_ (by intro x hx; simp only [List.mem_cons, List.not_mem_nil, or_false] at hx; omega) (rn_plain hc.pr)
    (.cons k0 (rnl_plain hc.pd) .nil) hk
  simp only [List.nil_append, List.append_nil]
  exact ⟨rn_ptr e0, rnl_plain hc.pa⟩
theorem dcx_locS {f : Nat} {avs : List AV} {cs ds : List AV} {a : Nat} {h : Hp} {r : AV} {K : AV → Up → List Nat → Prop} (hc : LocS f avs cs r ds)
    (hl0 : lk h.l a = some (.cells cs)) (hnx : [a].contains h.next = false)
    (hk : K r [(a, some (.cells ds))] [a]) : DCallX Try.prog G0 f (.ptr a 0 :: avs) h K := by
  have hnx : h.next ∉ [a] := fun hm => by rw [List.contains_eq_mem, decide_eq_false_iff_not] at hnx; exact hnx hm
  have e0 : enter [a] a 0 := rfl
  have k0 : enterB [a] 0 a := rfl
  refine dcx_loc (l1 := [(a, .cells ds)]) [a] hc.out plainG rfl (.cons e0 hl0 (rnl_plain hc.pc) .nil) hnx ?_ ?_ ⟨rn_ptr e0, rnl_plain hc.pa⟩ (rn_plain hc.pr)
    (.cons k0 (rnl_plain hc.pd) .nil) hk
  · intro x hx
    obtain rfl := List.mem_singleton.1 hx
    exact ⟨.cells ds, if_pos rfl⟩
  · intro j n hj
    cases j with
    | zero => exact ⟨_, rfl⟩
    | succ j => simp at hj
end Go.Proofs.Ytjlbfijjfjogiaa
