/-
  New: a pool, and the document's lists.
-/
import Derived.Test.YtnddcnnangjgeaaLl
set_option linter.unusedSimpArgs false
set_option linter.unusedVariables false
namespace Go.Pol
open Go.Am
theorem memI_zero (n : Nat) : List.replicate n (AV.int .i64 0) = memI n fun _ => 0 := by
  unfold memI; rw [List.map_const', List.length_range]
theorem memI_snoc {n : Nat} {F : Nat → Int} {v : Int} (h : F n = v) : memI n F ++ [.int .i64 v] = memI (n + 1) F := by
  unfold memI; rw [List.range_succ, List.map_append]; simp [h]
theorem rep_flat (n k : Nat) : (List.replicate n (List.replicate k (AV.int .i64 0))).flatten = List.replicate (n * k) (AV.int .i64 0) := by
  induction n with
  | zero => simp
  | succ n ih => rw [List.replicate_succ, List.flatten_cons, ih, List.replicate_append_replicate, show k + n * k = (n + 1) * k by rw [Nat.succ_mul]; omega]
theorem cells_make (n : Nat) : (List.replicate n [AV.int .i64 0, AV.int .i64 0, AV.int .i64 0, AV.int .i64 0]).flatten = cellsB n (fun _ => 0) (fun _ => 0) (fun _ => 0) fun _ => 0 := by
  rw [show [AV.int .i64 0, AV.int .i64 0, AV.int .i64 0, AV.int .i64 0] = List.replicate 4 (AV.int .i64 0) from rfl, rep_flat, memI_zero, cellsB]
  congr 1; funext k; unfold sel4; split <;> (try rfl); split <;> (try rfl); split <;> rfl
theorem ends_make (n : Nat) : (List.replicate n [AV.int .i64 0, AV.int .i64 0, AV.int .i64 0]).flatten = endsB n (fun _ => 0) (fun _ => 0) fun _ => 0 := by
  rw [show [AV.int .i64 0, AV.int .i64 0, AV.int .i64 0] = List.replicate 3 (AV.int .i64 0) from rfl, rep_flat, memI_zero, endsB]
  congr 1; funext k; unfold sel3; split <;> (try rfl); split <;> rfl
theorem ints_make (n : Nat) : (List.replicate n [AV.int .i64 0]).flatten = memI n fun _ => 0 := by
  rw [show [AV.int .i64 0] = List.replicate 1 (AV.int .i64 0) from rfl, rep_flat, memI_zero, Nat.mul_one]
def upTo (k : Nat) (v : Int) : Nat → Int := fun s => if s < k then v else 0
theorem upTo_0 (v : Int) : upTo 0 v = fun _ => 0 := by funext s; unfold upTo; rw [if_neg (by omega)]
theorem upTo_s (k : Nat) (v : Int) : updI (upTo k v) k v = upTo (k + 1) v := by
  funext s; unfold updI upTo
  by_cases e : s = k
  · rw [if_pos e, if_pos (by omega)]
  · rw [if_neg e]
    by_cases h : s < k
    · rw [if_pos h, if_pos (by omega)]
    · rw [if_neg h, if_neg (by omega)]
theorem upd_zero (k : Nat) : updI (fun _ => 0) k 0 = fun _ => 0 := by funext s; unfold updI; split <;> rfl
def S0 (n m : Nat) : PS := ⟨0, upTo n (-1), upTo n (-1), upTo n (-1), upTo m (-1), upTo m (-1), fun _ => 0⟩
theorem good_0 {n m : Nat} (hn : 0 < n) (hn2 : n ≤ 2000) (hm : m ≤ 64) : GoodP n m (fun _ => 0) (fun _ => []) (S0 n m) := by
  have h : ∀ {k s : Nat}, s < k → upTo k (-1) s = -1 := fun {k s} hs => if_pos hs
  refine ⟨⟨⟨fun _ _ => rfl, fun i s hs => (by cases hs), fun s hs => .inl ⟨h hs, h hs, h hs⟩, fun _ => List.nodup_nil, fun i X s Y e => (by simp at e), fun i hi => ⟨h hi, h hi, rfl⟩⟩, fun _ _ _ => rfl, Nat.zero_le _, fun t ht => (by cases ht)⟩, hm, by omega, hn⟩
end Go.Pol
namespace Go.Proofs.Ytnddcnnangjgeaa
open Go Go.Am Go.Pol
end Go.Proofs.Ytnddcnnangjgeaa
