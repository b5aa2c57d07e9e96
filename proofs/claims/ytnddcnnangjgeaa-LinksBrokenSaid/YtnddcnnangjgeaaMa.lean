/-
  Plain law of Check: the path that a list's numbers go.
-/
import Derived.Test.YtnddcnnangjgeaaLx
set_option linter.unusedSimpArgs false
set_option linter.unusedVariables false
namespace Go.Pol
open Go.Am
/-- The head of a list, or what stands behind it. -/
def hdD (d : Int) : List Nat → Int
  | [] => d
  | x :: _ => x
def okAt (n : Nat) (L P : Nat → Int) (i : Nat) (b a : Int) : Prop := 0 ≤ a ∧ a < (n : Int) ∧ L a.toNat = (i : Int) ∧ P a.toNat = b
instance (n : Nat) (L P : Nat → Int) (i : Nat) (b a : Int) : Decidable (okAt n L P i b a) := inferInstanceAs (Decidable (_ ∧ _ ∧ _ ∧ _))
def pth (n : Nat) (L N P A : Nat → Int) (i : Nat) : Nat → List Nat × Int
  | 0 => ([], A i)
  | k + 1 => if okAt n L P i (lst (pth n L N P A i k).1) (pth n L N P A i k).2 then ((pth n L N P A i k).1 ++ [(pth n L N P A i k).2.toNat], N (pth n L N P A i k).2.toNat) else pth n L N P A i k
/-- The slots of a list, by its numbers; and what stands behind them. -/
def qOf (n : Nat) (L N P A : Nat → Int) (i : Nat) : List Nat := (pth n L N P A i n).1
def eOf (n : Nat) (L N P A : Nat → Int) (i : Nat) : Int := (pth n L N P A i n).2
def goodL (n : Nat) (L N P A B : Nat → Int) (i : Nat) : Prop := eOf n L N P A i = -1 ∧ B i = lst (qOf n L N P A i)
def slotOk (n m : Nat) (L N P : Nat → Int) (i : Nat) : Prop := -1 ≤ L i ∧ L i < (m : Int) ∧ -1 ≤ N i ∧ N i < (n : Int) ∧ -1 ≤ P i ∧ P i < (n : Int) ∧ (L i = -1 → N i = -1 ∧ P i = -1)
section
variable {n m : Nat} {L N P A B : Nat → Int} {i : Nat}
structure PathOk (n : Nat) (L N P A : Nat → Int) (i : Nat) (X : List Nat) (a : Int) : Prop where
  mem : ∀ Y x Z, X = Y ++ x :: Z → x < n ∧ L x = (i : Int) ∧ P x = lst Y ∧ N x = hdD a Z
  fst : A i = hdD a X
  nd : X.Nodup
theorem PathOk.nil : PathOk n L N P A i [] (A i) := ⟨fun Y x Z h => by simp at h, rfl, List.nodup_nil⟩
theorem hdD_snoc {a b : Int} {Z : List Nat} {x : Nat} (h : (x : Int) = a) : hdD b (Z ++ [x]) = hdD a Z := by
  cases Z with
  | nil => exact h
  | cons z Z => rfl
theorem PathOk.new {X : List Nat} {a : Int} (h : PathOk n L N P A i X a) (hk : okAt n L P i (lst X) a) : a.toNat ∉ X := fun hm => by
  obtain ⟨Y, Z, he⟩ := List.append_of_mem hm
  obtain ⟨-, -, hP, -⟩ := h.mem _ _ _ he
  have e : lst X = lst Y := hk.2.2.2.symm.trans hP
  have hnd := h.nd
  rw [he] at hnd e
  rw [lst_appc] at e
  by_cases hZ : Z = []
  · subst hZ
    rw [if_pos rfl] at e
    have := lst_mem (X := Y) e.symm
    exact (List.nodup_append.1 hnd).2.2 _ this _ (List.mem_cons_self ..) rfl
  · rw [if_neg hZ] at e
    rcases lst_ge (X := Z) with h1 | ⟨c, h1, h2⟩
    · exact hZ (lst_neg.1 h1)
    · have := lst_mem (X := Y) (e.symm.trans h2)
      exact (List.nodup_append.1 hnd).2.2 _ this _ (List.mem_cons_of_mem _ h1) rfl
theorem PathOk.snoc {X : List Nat} {a : Int} (h : PathOk n L N P A i X a) (hk : okAt n L P i (lst X) a) : PathOk n L N P A i (X ++ [a.toNat]) (N a.toNat) := by
  have ha : ((a.toNat : Nat) : Int) = a := Int.toNat_of_nonneg hk.1
  have hlt : a.toNat < n := by have := hk.2.1; omega
  refine ⟨fun Y x Z he => ?_, ?_, ?_⟩
  · rcases split3 (X := X) (Y := []) he with ⟨rfl, rfl, rfl⟩ | ⟨W, h1, h2⟩ | ⟨W, h1, _⟩
    · exact ⟨hlt, hk.2.2.1, hk.2.2.2, rfl⟩
    · obtain ⟨p1, p2, p3, p4⟩ := h.mem _ _ _ h1
      rw [h2, hdD_snoc ha]
      exact ⟨p1, p2, p3, p4⟩
    · cases W <;> cases h1
  · rw [h.fst, hdD_snoc ha]
  · exact List.nodup_append.2 ⟨h.nd, (by simp), fun x hx y hy e => by
      obtain rfl := List.mem_singleton.1 hy
      subst e
      exact h.new hk hx⟩
theorem pth_ok : ∀ k, PathOk n L N P A i (pth n L N P A i k).1 (pth n L N P A i k).2
  | 0 => .nil
  | k + 1 => by
    have h := pth_ok k
    unfold pth
    split
    · rename_i hk; exact h.snoc hk
    · exact h
theorem pth_len (k : Nat) : (pth n L N P A i k).1.length ≤ n := by
  have h := pth_ok (n := n) (L := L) (N := N) (P := P) (A := A) (i := i) k
  refine len_le n _ h.nd fun x hx => ?_
  obtain ⟨Y, Z, he⟩ := List.append_of_mem hx
  exact (h.mem _ _ _ he).1
theorem pth_0 : pth n L N P A i 0 = ([], A i) := rfl
theorem lst_nil : lst [] = -1 := rfl
theorem pth_s {k : Nat} (h : okAt n L P i (lst (pth n L N P A i k).1) (pth n L N P A i k).2) : pth n L N P A i (k + 1) = ((pth n L N P A i k).1 ++ [(pth n L N P A i k).2.toNat], N (pth n L N P A i k).2.toNat) := if_pos h
theorem pth_stop {k : Nat} (h : ¬ okAt n L P i (lst (pth n L N P A i k).1) (pth n L N P A i k).2) : ∀ d, pth n L N P A i (k + d) = pth n L N P A i k
  | 0 => rfl
  | d + 1 => by
    have e := pth_stop h d
    show (if okAt n L P i (lst (pth n L N P A i (k + d)).1) (pth n L N P A i (k + d)).2 then _ else pth n L N P A i (k + d)) = _
    rw [e, if_neg h]
theorem pth_end {k : Nat} (hk : (pth n L N P A i k).1.length = k) (h : ¬ okAt n L P i (lst (pth n L N P A i k).1) (pth n L N P A i k).2) : pth n L N P A i n = pth n L N P A i k := by
  have hl := pth_len (n := n) (L := L) (N := N) (P := P) (A := A) (i := i) k
  have := pth_stop h (n - k)
  rwa [show k + (n - k) = n by omega] at this
theorem q_ok : PathOk n L N P A i (qOf n L N P A i) (eOf n L N P A i) := pth_ok n
/-- What has been met: the lists ahead, and the slots of this one so far. -/
def metP (n : Nat) (L N P A : Nat → Int) (i : Nat) (X : List Nat) (M : Nat → Bool) : Prop := ∀ t, M t = true ↔ (∃ j, j < i ∧ t ∈ qOf n L N P A j) ∨ t ∈ X
theorem q_list {j t : Nat} (h : t ∈ qOf n L N P A j) : t < n ∧ L t = (j : Int) := by
  obtain ⟨Y, Z, he⟩ := List.append_of_mem h
  have := q_ok.mem _ _ _ he
  exact ⟨this.1, this.2.1⟩
theorem met_new {X : List Nat} {a : Nat} {M : Nat → Bool} (hm : metP n L N P A i X M) (h : PathOk n L N P A i X (a : Int)) (hk : okAt n L P i (lst X) (a : Int)) : M a = false := by
  cases hM : M a with
  | false => rfl
  | true =>
    rcases (hm a).1 hM with ⟨j, h1, h2⟩ | h1
    · have h3 := (q_list h2).2
      have h4 := hk.2.2.1
      rw [Int.toNat_natCast] at h4
      omega
    · exact absurd h1 (h.new hk)
def updB (M : Nat → Bool) (i : Nat) (v : Bool) : Nat → Bool := fun j => if j = i then v else M j
theorem met_s {X : List Nat} {a : Nat} {M : Nat → Bool} (hm : metP n L N P A i X M) : metP n L N P A i (X ++ [a]) (updB M a true) := fun t => by
  unfold updB
  by_cases e : t = a
  · subst e; simp
  · rw [if_neg e, hm t]; simp [e]
theorem met_0 : metP n L N P A 0 [] fun _ => false := fun t => by simp
theorem met_up {M : Nat → Bool} (hm : metP n L N P A i (qOf n L N P A i) M) : metP n L N P A (i + 1) [] M := fun t => by
  rw [hm t]
  constructor
  · rintro (⟨j, h1, h2⟩ | h)
    · exact .inl ⟨j, by omega, h2⟩
    · exact .inl ⟨i, by omega, h⟩
  · rintro (⟨j, h1, h2⟩ | h)
    · by_cases e : j = i
      · subst e; exact .inr h2
      · exact .inl ⟨j, by omega, h2⟩
    · cases h
/-- Where the three loops of Check stop. -/
structure Stops (n m : Nat) (L N P A B : Nat → Int) (s1 s2 s3 : Nat) : Prop where
  le1 : s1 ≤ n
  ok1 : ∀ j, j < s1 → slotOk n m L N P j
  no1 : s1 < n → ¬ slotOk n m L N P s1
  le2 : s2 ≤ m
  ok2 : ∀ j, j < s2 → goodL n L N P A B j
  no2 : s2 < m → ¬ goodL n L N P A B s2
  le3 : s3 ≤ n
  ok3 : ∀ j, j < s3 → L j = -1 ∨ ∃ i, i < m ∧ j ∈ qOf n L N P A i
  no3 : s3 < n → L s3 ≠ -1 ∧ ∀ i, i < m → s3 ∉ qOf n L N P A i
theorem stop_of (n : Nat) (p : Nat → Prop) : ∃ s, s ≤ n ∧ (∀ j, j < s → p j) ∧ (s < n → ¬ p s) := by
  by_cases h : ∃ s, s < n ∧ ¬ p s
  · obtain ⟨s, h1, h2, h3⟩ := least_of n h
    exact ⟨s, Nat.le_of_lt h1, fun j hj => Classical.not_not.1 (h3 j hj), fun _ => h2⟩
  · exact ⟨n, Nat.le_refl _, fun j hj => Classical.not_not.1 fun hn => h ⟨j, hj, hn⟩, fun hh => absurd hh (Nat.lt_irrefl _)⟩
theorem stops (n m : Nat) (L N P A B : Nat → Int) : ∃ s1 s2 s3, Stops n m L N P A B s1 s2 s3 := by
  obtain ⟨s1, a1, a2, a3⟩ := stop_of n (slotOk n m L N P)
  obtain ⟨s2, b1, b2, b3⟩ := stop_of m (goodL n L N P A B)
  obtain ⟨s3, c1, c2, c3⟩ := stop_of n fun j => L j = -1 ∨ ∃ i, i < m ∧ j ∈ qOf n L N P A i
  exact ⟨s1, s2, s3, a1, a2, a3, b1, b2, b3, c1, c2, fun h => by
    have := c3 h
    exact ⟨fun e => this (.inl e), fun i hi hm => this (.inr ⟨i, hi, hm⟩)⟩⟩
def lQ (n m : Nat) (L N P A : Nat → Int) : Nat → List Nat := fun i => if i < m then qOf n L N P A i else []
theorem hdD_neg {X : List Nat} : hdD (-1) X = hd X := by cases X <;> rfl
theorem st_of (h1 : ∀ j, j < n → slotOk n m L N P j) (h2 : ∀ j, j < m → goodL n L N P A B j) (h3 : ∀ j, j < n → L j = -1 ∨ ∃ i, i < m ∧ j ∈ qOf n L N P A i) : St n m L N P A B (fun i => ((lQ n m L N P A i).length : Nat)) (lQ n m L N P A) := by
  have hin : ∀ {i s}, s ∈ lQ n m L N P A i → i < m ∧ s ∈ qOf n L N P A i := fun {i s} h => by
    unfold lQ at h
    split at h
    · rename_i hh; exact ⟨hh, h⟩
    · cases h
  have hat : ∀ {i}, i < m → lQ n m L N P A i = qOf n L N P A i := fun h => if_pos h
  refine ⟨fun i hi => if_neg (by omega), fun i s hs => ?_, fun s hs => ?_, fun i => ?_, fun i X s Y he => ?_, fun i hi => ?_⟩
  · exact q_list (hin hs).2
  · rcases h3 s hs with h | ⟨i, hi, hm⟩
    · exact .inl ⟨h, (h1 s hs).2.2.2.2.2.2 h⟩
    · exact .inr ⟨i, hi, (q_list hm).2, by rw [hat hi]; exact hm⟩
  · unfold lQ
    split
    · exact q_ok.nd
    · exact List.nodup_nil
  · have hi : i < m := (hin (i := i) (s := s) (by rw [he]; simp)).1
    rw [hat hi] at he
    have h := q_ok.mem _ _ _ he
    rw [(h2 i hi).1, hdD_neg] at h
    exact ⟨h.2.2.2, h.2.2.1⟩
  · rw [hat hi]
    have h := (q_ok (n := n) (L := L) (N := N) (P := P) (A := A) (i := i)).fst
    rw [(h2 i hi).1, hdD_neg] at h
    exact ⟨h, (h2 i hi).2, rfl⟩
end
/-! A block of truth values. -/
def memT (n : Nat) (M : Nat → Bool) : List AV := (List.range n).map fun k => .bool (M k)
theorem memT_len (n : Nat) (M : Nat → Bool) : (memT n M).length = n := by simp [memT]
theorem memT_get {n : Nat} {M : Nat → Bool} {i : Nat} (h : i < n) : (memT n M)[i]? = some (.bool (M i)) := by simp [memT, h]
theorem memT_set (n : Nat) (M : Nat → Bool) (i : Nat) (v : Bool) : (memT n M).set i (.bool v) = memT n (updB M i v) := by
  refine List.ext_getElem (by simp [memT]) fun j h1 h2 => ?_
  simp only [memT, List.getElem_set, List.getElem_map, List.getElem_range, updB]
  by_cases e : i = j
  · subst e; simp
  · rw [if_neg e, if_neg (fun h => e h.symm)]
theorem memT_plain (n : Nat) (M : Nat → Bool) : ∀ x ∈ memT n M, Plain x := fun x hx => by obtain ⟨p, _, rfl⟩ := List.mem_map.1 hx; exact plain_bool
theorem memT_make (n : Nat) : (List.replicate n [AV.bool false]).flatten = memT n fun _ => false := by
  refine List.ext_getElem (by simp [memT]) fun j h1 h2 => ?_
  simp [memT, List.flatten_replicate_singleton]
/-! What Check says. -/
def wrongA (w i : Int) : AV := .tup [.agg [.int .i64 w, .int .i64 i], .int .i64 6]
def fineA : AV := .tup [.agg [.int .i64 0, .int .i64 0], .int .i64 0]
def saysA (n m s1 s2 s3 : Nat) : AV := if s1 < n then wrongA 2 (s1 : Nat) else if s2 < m then wrongA 3 (s2 : Nat) else if s3 < n then wrongA 2 (s3 : Nat) else fineA
end Go.Pol
