/-
  The law's made; states that have the same lists; Push and After that are taken back.
-/
import Derived.Test.YtnddcnnangjgeaaLs
set_option linter.unusedSimpArgs false
set_option linter.unusedVariables false
namespace Go.Pol
open Go.Am
theorem St.uniq {n m : Nat} {L N P A B C L' N' P' A' B' C' : Nat → Int} {Q : Nat → List Nat} (h : St n m L N P A B C Q) (h' : St n m L' N' P' A' B' C' Q) : (∀ s, s < n → L s = L' s ∧ N s = N' s ∧ P s = P' s) ∧ ∀ i, i < m → A i = A' i ∧ B i = B' i := by
  refine ⟨fun s hs => ?_, fun i hi => ?_⟩
  · by_cases hu : ∃ i, s ∈ Q i
    · obtain ⟨i, hi⟩ := hu
      obtain ⟨X, Y, he⟩ := List.append_of_mem hi
      have h1 := h.ch i X s Y he
      have h2 := h'.ch i X s Y he
      exact ⟨(h.us i s hi).2.trans (h'.us i s hi).2.symm, h1.1.trans h2.1.symm, h1.2.trans h2.2.symm⟩
    · have hn : ∀ j, s ∉ Q j := fun j hj => hu ⟨j, hj⟩
      rcases h.fre s hs with ⟨a1, a2, a3⟩ | ⟨j, _, _, hm⟩
      · rcases h'.fre s hs with ⟨b1, b2, b3⟩ | ⟨j, _, _, hm⟩
        · exact ⟨a1.trans b1.symm, a2.trans b2.symm, a3.trans b3.symm⟩
        · exact absurd hm (hn j)
      · exact absurd hm (hn j)
  · have h1 := h.en i hi
    have h2 := h'.en i hi
    exact ⟨h1.1.trans h2.1.symm, h1.2.1.trans h2.2.1.symm⟩
def saveS (n m : Nat) (V : Nat → Int) (S : PS) : AV := stateLk n m V S.L S.N S.P S.A S.B
theorem intsL_congr {n : Nat} {F G : Nat → Int} (h : ∀ i, i < n → F i = G i) : intsL n F = intsL n G := by
  unfold intsL
  rw [List.map_congr_left fun i hi => by rw [h i (List.mem_range.1 hi)]]
def bothAt (a n m : Nat) (V : Nat → Int) (Q : Nat → List Nat) (S : PS) : List (Nat × AObj) := [(a, .cells [.sl (a + 1) 0 n n 4, .sl (a + 2) 0 m m 3, .int .i64 (S.fr : Nat)]), (a + 1, .cells (cellsB n V S.L S.N S.P)), (a + 2, .cells (endsB m S.A S.B S.C)), (a + 3, .cells [.int .i64 (n : Nat), .sl (a + 4) 0 m m 1, .sl (a + 5) 0 n n 1]), (a + 4, .cells (ofB m Q)), (a + 5, .cells (memI n V))]
end Go.Pol
namespace Go.Proofs.Ytnddcnnangjgeaa
open Go Go.Am Go.Pol
section
variable {n m : Nat} {V : Nat → Int} {Q : Nat → List Nat} {S : PS}
theorem dcx_pureS {g : Nat} {avs : List AV} {r : AV} {h : Hp} {K : AV → Up → List Nat → Prop} (hp : PureS g avs r) (hk : K r [] []) : DCallX Try.prog G0 g avs h K := dcx_pure hp.out hk
theorem p_save (h : GoodP n m V Q S) (hm : 0 < m) : LocP 24 [] n m (poolS n m V S) (saveS n m V S) (poolS n m V S) := l_save h.n_pos h.n_le hm h.m_le
/-- A call that puts a value into a slot, or is refused; taken back, all is as it was. -/
def Puts (f : Nat) (avs : List AV) (n m : Nat) (V : Nat → Int) (Q : Nat → List Nat) (S : PS) (v : Int) (X : Nat → (Nat → Int) → PS → Prop) : Prop :=
  (∃ (S' : PS) (e : Int), e ≠ 0 ∧ GoodP n m V Q S' ∧ LocP f avs n m (poolS n m V S) (.tup [.int .i64 0, .int .i64 e]) (poolS n m V S')) ∨
  ∃ (s : Nat) (V' V'' : Nat → Int) (S' S'' : PS), GoodP n m V'' Q S'' ∧ (∀ t, t < n → V t = V'' t) ∧ LocP f avs n m (poolS n m V S) (.tup [.int .i64 (s : Nat), .int .i64 0]) (poolS n m V' S') ∧ X s V' S' ∧
    LocP 13 [.int .i64 (s : Nat)] n m (poolS n m V' S') (.tup [.int .i64 v, .int .i64 0]) (poolS n m V'' S'')
end
end Go.Proofs.Ytnddcnnangjgeaa
