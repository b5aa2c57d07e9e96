/-
  Values of any kind; memory by a function.
-/
import Derived.Test.YtkjimnhmiojcdaaLiB
set_option linter.unusedSimpArgs false
set_option linter.unusedVariables false
namespace Go.Pol
open Go.Am
/-- A plain value. -/
abbrev PV := { x : AV // Plain x }
theorem plainV {v : PV} : Plain v.1 := v.2
/-- The cells behind a pointer. -/
abbrev IP := { cs : List AV // ∀ x ∈ cs, Plain x }
def ip (v : IP) : PV := ⟨.iptr v.1, plain_iptr v.2⟩
theorem plainI {v : IP} : Plain (.iptr v.1) := plain_iptr v.2
theorem plain_z : Plain (.agg [.str ByteArray.empty, .int .i64 0]) := plain_agg fun x hx => by
  simp only [List.mem_cons, List.not_mem_nil, or_false] at hx
  rcases hx with rfl | rfl
  · exact plain_str
  · exact plain_int
def updV {α : Type} (f : Nat → α) (i : Nat) (v : α) : Nat → α := fun j => if j = i then v else f j
theorem updV_at {α : Type} (f : Nat → α) (i : Nat) (v : α) : updV f i v i = v := by simp [updV]
theorem updV_ne {α : Type} {f : Nat → α} {i j : Nat} {v : α} (h : j ≠ i) : updV f i v j = f j := by simp [updV, h]
def memV (n : Nat) (F : Nat → AV) : List AV := (List.range n).map F
theorem memV_len (n : Nat) (F : Nat → AV) : (memV n F).length = n := by simp [memV]
theorem memV_get {n : Nat} {F : Nat → AV} {i : Nat} (h : i < n) : (memV n F)[i]? = some (F i) := by simp [memV, h]
theorem memV_set (n : Nat) (F : Nat → AV) (i : Nat) (v : AV) : (memV n F).set i v = memV n fun j => if j = i then v else F j := by
  refine List.ext_getElem (by simp [memV]) fun j h1 h2 => ?_
  simp only [memV, List.getElem_set, List.getElem_map, List.getElem_range]
  by_cases e : i = j
  · subst e; simp
  · rw [if_neg e, if_neg (fun h => e h.symm)]
theorem memV_congr {n : Nat} {F G : Nat → AV} (h : ∀ i < n, F i = G i) : memV n F = memV n G := List.map_congr_left fun i hi => h i (List.mem_range.1 hi)
theorem memV_plain {n : Nat} {F : Nat → AV} (h : ∀ i, Plain (F i)) : ∀ x ∈ memV n F, Plain x := fun x hx => by obtain ⟨p, _, rfl⟩ := List.mem_map.1 hx; exact h p
theorem memV_snoc {n : Nat} {F : Nat → AV} {v : AV} (h : F n = v) : memV n F ++ [v] = memV (n + 1) F := by
  unfold memV; rw [List.range_succ, List.map_append]; simp [h]
theorem rep_getL {z : List AV} (hz : 0 < z.length) : ∀ {n i : Nat}, i < n * z.length → ((List.replicate n z).flatten)[i]? = z[i % z.length]?
  | 0, i, h => by omega
  | n + 1, i, h => by
    rw [List.replicate_succ, List.flatten_cons]
    by_cases hi : i < z.length
    · rw [List.getElem?_append_left hi, Nat.mod_eq_of_lt hi]
    · rw [List.getElem?_append_right (by omega), rep_getL hz (by rw [Nat.succ_mul] at h; omega)]
      congr 1
      conv => rhs; rw [show i = (i - z.length) + z.length by omega, Nat.add_mod_right]
theorem rep_lenL {z : List AV} {n : Nat} : ((List.replicate n z).flatten).length = n * z.length := by simp
theorem plain_pg {v w : PV} : Plain (.agg [v.1, w.1]) := plain_agg fun x hx => by
  simp only [List.mem_cons, List.not_mem_nil, or_false] at hx
  rcases hx with rfl | rfl
  · exact v.2
  · exact w.2
end Go.Pol
