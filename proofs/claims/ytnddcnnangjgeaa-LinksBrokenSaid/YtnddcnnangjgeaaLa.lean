/-
  Pools of slots: their memory, as blocks of numbers.
-/
import Derived.Test.YtnddcnnangjgeaaAmWv
import Derived.Test.YtnddcnnangjgeaaCode
set_option linter.unusedSimpArgs false
set_option linter.unusedVariables false
namespace Go.Pol
open Go.Am
def updI (f : Nat → Int) (i : Nat) (v : Int) : Nat → Int := fun j => if j = i then v else f j
theorem updI_at (f : Nat → Int) (i : Nat) (v : Int) : updI f i v i = v := by simp [updI]
theorem updI_ne {f : Nat → Int} {i j : Nat} {v : Int} (h : j ≠ i) : updI f i v j = f j := by simp [updI, h]
def memI (n : Nat) (F : Nat → Int) : List AV := (List.range n).map fun k => .int .i64 (F k)
theorem memI_len (n : Nat) (F : Nat → Int) : (memI n F).length = n := by simp [memI]
theorem memI_get {n : Nat} {F : Nat → Int} {i : Nat} (h : i < n) : (memI n F)[i]? = some (.int .i64 (F i)) := by simp [memI, h]
theorem memI_set (n : Nat) (F : Nat → Int) (i : Nat) (v : Int) : (memI n F).set i (.int .i64 v) = memI n (updI F i v) := by
  refine List.ext_getElem (by simp [memI]) fun j h1 h2 => ?_
  simp only [memI, List.getElem_set, List.getElem_map, List.getElem_range, updI]
  by_cases e : i = j
  · subst e; simp
  · rw [if_neg e, if_neg (fun h => e h.symm)]
theorem memI_plain (n : Nat) (F : Nat → Int) : ∀ x ∈ memI n F, Plain x := fun x hx => by obtain ⟨p, _, rfl⟩ := List.mem_map.1 hx; exact plain_int
theorem memI_congr {n : Nat} {F G : Nat → Int} (h : ∀ i < n, F i = G i) : memI n F = memI n G := by
  unfold memI
  exact List.map_congr_left fun i hi => by rw [h i (List.mem_range.1 hi)]
/-- The cells of slots: value, list, next, prev. -/
def sel4 (V L N P : Nat → Int) (k : Nat) : Int := if k % 4 = 0 then V (k / 4) else if k % 4 = 1 then L (k / 4) else if k % 4 = 2 then N (k / 4) else P (k / 4)
def cellsB (n : Nat) (V L N P : Nat → Int) : List AV := memI (n * 4) (sel4 V L N P)
/-- The lists: first, last, how many. -/
def sel3 (A B C : Nat → Int) (k : Nat) : Int := if k % 3 = 0 then A (k / 3) else if k % 3 = 1 then B (k / 3) else C (k / 3)
def endsB (m : Nat) (A B C : Nat → Int) : List AV := memI (m * 3) (sel3 A B C)
section
variable {n m : Nat} {V L N P A B C : Nat → Int} {s : Nat} {v : Int}
theorem cells_len : (cellsB n V L N P).length = n * 4 := memI_len ..
theorem ends_len : (endsB m A B C).length = m * 3 := memI_len ..
theorem cells_plain : ∀ x ∈ cellsB n V L N P, Plain x := memI_plain _ _
theorem ends_plain : ∀ x ∈ endsB m A B C, Plain x := memI_plain _ _
theorem sel4_0 : sel4 V L N P (s * 4) = V s := by unfold sel4; rw [if_pos (by omega), show s * 4 / 4 = s by omega]
theorem sel4_1 : sel4 V L N P (s * 4 + 1) = L s := by unfold sel4; rw [if_neg (by omega), if_pos (by omega), show (s * 4 + 1) / 4 = s by omega]
theorem sel4_2 : sel4 V L N P (s * 4 + 2) = N s := by unfold sel4; rw [if_neg (by omega), if_neg (by omega), if_pos (by omega), show (s * 4 + 2) / 4 = s by omega]
theorem sel4_3 : sel4 V L N P (s * 4 + 3) = P s := by unfold sel4; rw [if_neg (by omega), if_neg (by omega), if_neg (by omega), show (s * 4 + 3) / 4 = s by omega]
theorem sel3_0 : sel3 A B C (s * 3) = A s := by unfold sel3; rw [if_pos (by omega), show s * 3 / 3 = s by omega]
theorem sel3_1 : sel3 A B C (s * 3 + 1) = B s := by unfold sel3; rw [if_neg (by omega), if_pos (by omega), show (s * 3 + 1) / 3 = s by omega]
theorem sel3_2 : sel3 A B C (s * 3 + 2) = C s := by unfold sel3; rw [if_neg (by omega), if_neg (by omega), show (s * 3 + 2) / 3 = s by omega]
theorem gc0 (h : s < n) : (cellsB n V L N P)[s * 4]? = some (.int .i64 (V s)) := by rw [cellsB, memI_get (by omega), sel4_0]
theorem gc1 (h : s < n) : (cellsB n V L N P)[s * 4 + 1]? = some (.int .i64 (L s)) := by rw [cellsB, memI_get (by omega), sel4_1]
theorem gc2 (h : s < n) : (cellsB n V L N P)[s * 4 + 2]? = some (.int .i64 (N s)) := by rw [cellsB, memI_get (by omega), sel4_2]
theorem gc3 (h : s < n) : (cellsB n V L N P)[s * 4 + 3]? = some (.int .i64 (P s)) := by rw [cellsB, memI_get (by omega), sel4_3]
theorem ge0 (h : s < m) : (endsB m A B C)[s * 3]? = some (.int .i64 (A s)) := by rw [endsB, memI_get (by omega), sel3_0]
theorem ge1 (h : s < m) : (endsB m A B C)[s * 3 + 1]? = some (.int .i64 (B s)) := by rw [endsB, memI_get (by omega), sel3_1]
theorem ge2 (h : s < m) : (endsB m A B C)[s * 3 + 2]? = some (.int .i64 (C s)) := by rw [endsB, memI_get (by omega), sel3_2]
theorem sc0 : (cellsB n V L N P).set (s * 4) (.int .i64 v) = cellsB n (updI V s v) L N P := by
  rw [cellsB, memI_set, cellsB]; congr 1; funext k; simp only [updI, sel4]
  by_cases h : k = s * 4
  · subst h; rw [if_pos rfl, if_pos (by omega), if_pos (by omega)]
  · rw [if_neg h]
    by_cases h0 : k % 4 = 0
    · rw [if_pos h0, if_pos h0, if_neg (by omega)]
    · rw [if_neg h0, if_neg h0]
theorem sc1 : (cellsB n V L N P).set (s * 4 + 1) (.int .i64 v) = cellsB n V (updI L s v) N P := by
  rw [cellsB, memI_set, cellsB]; congr 1; funext k; simp only [updI, sel4]
  by_cases h : k = s * 4 + 1
  · subst h; rw [if_pos rfl, if_neg (by omega), if_pos (by omega), if_pos (by omega)]
  · rw [if_neg h]
    by_cases h0 : k % 4 = 1
    · rw [if_neg (by omega), if_pos h0, if_neg (by omega), if_pos h0, if_neg (by omega)]
    · rw [if_neg h0, if_neg h0]
theorem sc2 : (cellsB n V L N P).set (s * 4 + 2) (.int .i64 v) = cellsB n V L (updI N s v) P := by
  rw [cellsB, memI_set, cellsB]; congr 1; funext k; simp only [updI, sel4]
  by_cases h : k = s * 4 + 2
  · subst h; rw [if_pos rfl, if_neg (by omega), if_neg (by omega), if_pos (by omega), if_pos (by omega)]
  · rw [if_neg h]
    by_cases h0 : k % 4 = 2
    · rw [if_neg (by omega), if_neg (by omega), if_pos h0, if_neg (by omega), if_neg (by omega), if_pos h0, if_neg (by omega)]
    · rw [if_neg h0, if_neg h0]
theorem sc3 : (cellsB n V L N P).set (s * 4 + 3) (.int .i64 v) = cellsB n V L N (updI P s v) := by
  rw [cellsB, memI_set, cellsB]; congr 1; funext k; simp only [updI, sel4]
  by_cases h : k = s * 4 + 3
  · subst h; rw [if_pos rfl, if_neg (by omega), if_neg (by omega), if_neg (by omega), if_pos (by omega)]
  · rw [if_neg h]
    by_cases h0 : k % 4 = 3
    · rw [if_neg (by omega), if_neg (by omega), if_neg (by omega), if_neg (by omega), if_neg (by omega), if_neg (by omega), if_neg (by omega)]
    · by_cases h1 : k % 4 = 0
      · rw [if_pos h1, if_pos h1]
      · by_cases h2 : k % 4 = 1
        · rw [if_neg h1, if_pos h2, if_neg h1, if_pos h2]
        · rw [if_neg h1, if_neg h2, if_pos (by omega), if_neg h1, if_neg h2, if_pos (by omega)]
theorem se0 : (endsB m A B C).set (s * 3) (.int .i64 v) = endsB m (updI A s v) B C := by
  rw [endsB, memI_set, endsB]; congr 1; funext k; simp only [updI, sel3]
  by_cases h : k = s * 3
  · subst h; rw [if_pos rfl, if_pos (by omega), if_pos (by omega)]
  · rw [if_neg h]
    by_cases h0 : k % 3 = 0
    · rw [if_pos h0, if_pos h0, if_neg (by omega)]
    · rw [if_neg h0, if_neg h0]
theorem se1 : (endsB m A B C).set (s * 3 + 1) (.int .i64 v) = endsB m A (updI B s v) C := by
  rw [endsB, memI_set, endsB]; congr 1; funext k; simp only [updI, sel3]
  by_cases h : k = s * 3 + 1
  · subst h; rw [if_pos rfl, if_neg (by omega), if_pos (by omega), if_pos (by omega)]
  · rw [if_neg h]
    by_cases h0 : k % 3 = 1
    · rw [if_neg (by omega), if_pos h0, if_neg (by omega), if_pos h0, if_neg (by omega)]
    · rw [if_neg h0, if_neg h0]
theorem se2 : (endsB m A B C).set (s * 3 + 2) (.int .i64 v) = endsB m A B (updI C s v) := by
  rw [endsB, memI_set, endsB]; congr 1; funext k; simp only [updI, sel3]
  by_cases h : k = s * 3 + 2
  · subst h; rw [if_pos rfl, if_neg (by omega), if_neg (by omega), if_pos (by omega)]
  · rw [if_neg h]
    by_cases h0 : k % 3 = 2
    · rw [if_neg (by omega), if_neg (by omega), if_neg (by omega), if_neg (by omega), if_neg (by omega)]
    · by_cases h1 : k % 3 = 0
      · rw [if_pos h1, if_pos h1]
      · rw [if_neg h1, if_pos (by omega), if_neg h1, if_pos (by omega)]
end
/-- A pool's three blocks: itself, the slots, the lists. -/
def poolB (n m : Nat) (fr : Int) (V L N P A B C : Nat → Int) : List (Nat × AObj) := [(0, .cells [.sl 1 0 n n 4, .sl 2 0 m m 3, .int .i64 fr]), (1, .cells (cellsB n V L N P)), (2, .cells (endsB m A B C))]
end Go.Pol
namespace Go.Proofs.Ytnddcnnangjgeaa
open Go Go.Am Go.Pol
theorem hmix : Try.prog.follows .mixedOrders = true := by kernel_rfl
def G0 : Gl := fun _ => none
theorem plainG : PlainG G0 := fun n cs h => by cases h
end Go.Proofs.Ytnddcnnangjgeaa
