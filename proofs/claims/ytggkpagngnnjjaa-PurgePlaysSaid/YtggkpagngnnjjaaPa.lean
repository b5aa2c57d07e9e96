/-
  Pools of slots: their memory, as blocks of numbers.
-/
import Derived.Test.YtggkpagngnnjjaaAmWv
import Derived.Test.YtggkpagngnnjjaaCode
set_option linter.unusedSimpArgs false
set_option linter.unusedVariables false
namespace Go.Pol
open Go.Am
def updI (f : Nat → Int) (i : Nat) (v : Int) : Nat → Int := fun j => if j = i then v else f j
theorem updI_at (f : Nat → Int) (i : Nat) (v : Int) : updI f i v i = v := by simp [updI]
theorem updI_ne {f : Nat → Int} {i j : Nat} {v : Int} (h : j ≠ i) : updI f i v j = f j := by simp [updI, h]
def memI (n : Nat) (F : Nat → Int) : List AV := (List.range n).map fun k => .int .i64 (F k)
theorem memI_len (n : Nat) (F : Nat → Int) : (memI n F).length = n := by simp [memI]
theorem memI_get {n : Nat} {F : Nat → Int} {i : Nat} (h : i < n) : (memI n F)[i]? = some (.int .i64 (F i)) := by simp [memI, h]
theorem memI_set (n : Nat) (F : Nat → Int) (i : Nat) (v : Int) : (memI n F).set i (.int .i64 v) = memI n (updI F i v) := by
  refine List.ext_getElem (by simp [memI]) fun j h1 h2 => ?_
  simp only [memI, List.getElem_set, List.getElem_map, List.getElem_range, updI]
  by_cases e : i = j
  · subst e; simp
  · rw [if_neg e, if_neg (fun h => e h.symm)]
theorem memI_plain (n : Nat) (F : Nat → Int) : ∀ x ∈ memI n F, Plain x := fun x hx => by obtain ⟨p, _, rfl⟩ := List.mem_map.1 hx; exact plain_int
theorem memI_congr {n : Nat} {F G : Nat → Int} (h : ∀ i < n, F i = G i) : memI n F = memI n G := by
  unfold memI
  exact List.map_congr_left fun i hi => by rw [h i (List.mem_range.1 hi)]
/-- The cells of slots: the two numbers of a value, list, next, prev. -/
def sel5 (V W L N P : Nat → Int) (k : Nat) : Int := if k % 5 = 0 then V (k / 5) else if k % 5 = 1 then W (k / 5) else if k % 5 = 2 then L (k / 5) else if k % 5 = 3 then N (k / 5) else P (k / 5)
def cellsB (n : Nat) (V W L N P : Nat → Int) : List AV := memI (n * 5) (sel5 V W L N P)
/-- The lists: first, last, how many. -/
def sel3 (A B C : Nat → Int) (k : Nat) : Int := if k % 3 = 0 then A (k / 3) else if k % 3 = 1 then B (k / 3) else C (k / 3)
def endsB (m : Nat) (A B C : Nat → Int) : List AV := memI (m * 3) (sel3 A B C)
section
variable {n m : Nat} {V W L N P A B C : Nat → Int} {s : Nat} {v : Int}
theorem cells_len : (cellsB n V W L N P).length = n * 5 := memI_len ..
theorem ends_len : (endsB m A B C).length = m * 3 := memI_len ..
theorem cells_plain : ∀ x ∈ cellsB n V W L N P, Plain x := memI_plain _ _
theorem ends_plain : ∀ x ∈ endsB m A B C, Plain x := memI_plain _ _
theorem sel5_0 : sel5 V W L N P (s * 5) = V s := by unfold sel5; rw [if_pos (by omega), show s * 5 / 5 = s by omega]
theorem sel5_1 : sel5 V W L N P (s * 5 + 1) = W s := by unfold sel5; rw [if_neg (by omega), if_pos (by omega), show (s * 5 + 1) / 5 = s by omega]
theorem sel5_2 : sel5 V W L N P (s * 5 + 2) = L s := by unfold sel5; rw [if_neg (by omega), if_neg (by omega), if_pos (by omega), show (s * 5 + 2) / 5 = s by omega]
theorem sel5_3 : sel5 V W L N P (s * 5 + 3) = N s := by unfold sel5; rw [if_neg (by omega), if_neg (by omega), if_neg (by omega), if_pos (by omega), show (s * 5 + 3) / 5 = s by omega]
theorem sel5_4 : sel5 V W L N P (s * 5 + 4) = P s := by unfold sel5; rw [if_neg (by omega), if_neg (by omega), if_neg (by omega), if_neg (by omega), show (s * 5 + 4) / 5 = s by omega]
theorem sel3_0 : sel3 A B C (s * 3) = A s := by unfold sel3; rw [if_pos (by omega), show s * 3 / 3 = s by omega]
theorem sel3_1 : sel3 A B C (s * 3 + 1) = B s := by unfold sel3; rw [if_neg (by omega), if_pos (by omega), show (s * 3 + 1) / 3 = s by omega]
theorem sel3_2 : sel3 A B C (s * 3 + 2) = C s := by unfold sel3; rw [if_neg (by omega), if_neg (by omega), show (s * 3 + 2) / 3 = s by omega]
theorem gc0 (h : s < n) : (cellsB n V W L N P)[s * 5]? = some (.int .i64 (V s)) := by rw [cellsB, memI_get (by omega), sel5_0]
theorem gc0b (h : s < n) : (cellsB n V W L N P)[s * 5 + 1]? = some (.int .i64 (W s)) := by rw [cellsB, memI_get (by omega), sel5_1]
theorem gc1 (h : s < n) : (cellsB n V W L N P)[s * 5 + 2]? = some (.int .i64 (L s)) := by rw [cellsB, memI_get (by omega), sel5_2]
theorem gc2 (h : s < n) : (cellsB n V W L N P)[s * 5 + 3]? = some (.int .i64 (N s)) := by rw [cellsB, memI_get (by omega), sel5_3]
theorem gc3 (h : s < n) : (cellsB n V W L N P)[s * 5 + 4]? = some (.int .i64 (P s)) := by rw [cellsB, memI_get (by omega), sel5_4]
theorem ge0 (h : s < m) : (endsB m A B C)[s * 3]? = some (.int .i64 (A s)) := by rw [endsB, memI_get (by omega), sel3_0]
theorem ge1 (h : s < m) : (endsB m A B C)[s * 3 + 1]? = some (.int .i64 (B s)) := by rw [endsB, memI_get (by omega), sel3_1]
theorem ge2 (h : s < m) : (endsB m A B C)[s * 3 + 2]? = some (.int .i64 (C s)) := by rw [endsB, memI_get (by omega), sel3_2]
theorem sc0 : (cellsB n V W L N P).set (s * 5) (.int .i64 v) = cellsB n (updI V s v) W L N P := by
  rw [cellsB, memI_set, cellsB]; refine memI_congr fun k hk => ?_
  have hd : k = k / 5 * 5 + k % 5 := by omega
  have hm : k % 5 = 0 ∨ k % 5 = 1 ∨ k % 5 = 2 ∨ k % 5 = 3 ∨ k % 5 = 4 := by omega
  unfold updI sel5
  rcases hm with h | h | h | h | h
  all_goals (by_cases e : k / 5 = s)
  all_goals simp [h, e]
  all_goals omega
theorem sc0b : (cellsB n V W L N P).set (s * 5 + 1) (.int .i64 v) = cellsB n V (updI W s v) L N P := by
  rw [cellsB, memI_set, cellsB]; refine memI_congr fun k hk => ?_
  have hd : k = k / 5 * 5 + k % 5 := by omega
  have hm : k % 5 = 0 ∨ k % 5 = 1 ∨ k % 5 = 2 ∨ k % 5 = 3 ∨ k % 5 = 4 := by omega
  unfold updI sel5
  rcases hm with h | h | h | h | h
  all_goals (by_cases e : k / 5 = s)
  all_goals simp [h, e]
  all_goals omega
theorem sc1 : (cellsB n V W L N P).set (s * 5 + 2) (.int .i64 v) = cellsB n V W (updI L s v) N P := by
  rw [cellsB, memI_set, cellsB]; refine memI_congr fun k hk => ?_
  have hd : k = k / 5 * 5 + k % 5 := by omega
  have hm : k % 5 = 0 ∨ k % 5 = 1 ∨ k % 5 = 2 ∨ k % 5 = 3 ∨ k % 5 = 4 := by omega
  unfold updI sel5
  rcases hm with h | h | h | h | h
  all_goals (by_cases e : k / 5 = s)
  all_goals simp [h, e]
  all_goals omega
theorem sc2 : (cellsB n V W L N P).set (s * 5 + 3) (.int .i64 v) = cellsB n V W L (updI N s v) P := by
  rw [cellsB, memI_set, cellsB]; refine memI_congr fun k hk => ?_
  have hd : k = k / 5 * 5 + k % 5 := by omega
  have hm : k % 5 = 0 ∨ k % 5 = 1 ∨ k % 5 = 2 ∨ k % 5 = 3 ∨ k % 5 = 4 := by omega
  unfold updI sel5
  rcases hm with h | h | h | h | h
  all_goals (by_cases e : k / 5 = s)
  all_goals simp [h, e]
  all_goals omega
theorem sc3 : (cellsB n V W L N P).set (s * 5 + 4) (.int .i64 v) = cellsB n V W L N (updI P s v) := by
  rw [cellsB, memI_set, cellsB]; refine memI_congr fun k hk => ?_
  have hd : k = k / 5 * 5 + k % 5 := by omega
  have hm : k % 5 = 0 ∨ k % 5 = 1 ∨ k % 5 = 2 ∨ k % 5 = 3 ∨ k % 5 = 4 := by omega
  unfold updI sel5
  rcases hm with h | h | h | h | h
  all_goals (by_cases e : k / 5 = s)
  all_goals simp [h, e]
  all_goals omega
theorem tkV (h : s < n) : ((cellsB n V W L N P).drop (s * 5)).take 2 = [.int .i64 (V s), .int .i64 (W s)] := by
  refine List.ext_getElem? fun j => ?_
  rw [List.getElem?_take, List.getElem?_drop]
  match j with
  | 0 => exact gc0 h
  | 1 => exact gc0b h
  | j + 2 => rw [if_neg (by omega)]; rfl
theorem se0 : (endsB m A B C).set (s * 3) (.int .i64 v) = endsB m (updI A s v) B C := by
  rw [endsB, memI_set, endsB]; congr 1; funext k; simp only [updI, sel3]
  by_cases h : k = s * 3
  · subst h; rw [if_pos rfl, if_pos (by omega), if_pos (by omega)]
  · rw [if_neg h]
    by_cases h0 : k % 3 = 0
    · rw [if_pos h0, if_pos h0, if_neg (by omega)]
    · rw [if_neg h0, if_neg h0]
theorem se1 : (endsB m A B C).set (s * 3 + 1) (.int .i64 v) = endsB m A (updI B s v) C := by
  rw [endsB, memI_set, endsB]; congr 1; funext k; simp only [updI, sel3]
  by_cases h : k = s * 3 + 1
  · subst h; rw [if_pos rfl, if_neg (by omega), if_pos (by omega), if_pos (by omega)]
  · rw [if_neg h]
    by_cases h0 : k % 3 = 1
    · rw [if_neg (by omega), if_pos h0, if_neg (by omega), if_pos h0, if_neg (by omega)]
    · rw [if_neg h0, if_neg h0]
theorem se2 : (endsB m A B C).set (s * 3 + 2) (.int .i64 v) = endsB m A B (updI C s v) := by
  rw [endsB, memI_set, endsB]; congr 1; funext k; simp only [updI, sel3]
  by_cases h : k = s * 3 + 2
  · subst h; rw [if_pos rfl, if_neg (by omega), if_neg (by omega), if_pos (by omega)]
  · rw [if_neg h]
    by_cases h0 : k % 3 = 2
    · rw [if_neg (by omega), if_neg (by omega), if_neg (by omega), if_neg (by omega), if_neg (by omega)]
    · by_cases h1 : k % 3 = 0
      · rw [if_pos h1, if_pos h1]
      · rw [if_neg h1, if_pos (by omega), if_neg h1, if_pos (by omega)]
end
/-- A pool's three blocks: itself, the slots, the lists. -/
def poolB (n m : Nat) (fr : Int) (V W L N P A B C : Nat → Int) : List (Nat × AObj) := [(0, .cells [.sl 1 0 n n 5, .sl 2 0 m m 3, .int .i64 fr]), (1, .cells (cellsB n V W L N P)), (2, .cells (endsB m A B C))]
end Go.Pol
namespace Go.Proofs.Ytggkpagngnnjjaa
open Go Go.Am Go.Pol
theorem hmix : Try.prog.follows .mixedOrders = true := by kernel_rfl
def G0 : Gl := fun _ => none
theorem plainG : PlainG G0 := fun n cs h => by cases h
end Go.Proofs.Ytggkpagngnnjjaa
