/-
  The law's do: a call on both.
-/
import Derived.Test.YtnddcnnangjgeaaLk
import Derived.Test.YtnddcnnangjgeaaAmWu
set_option linter.unusedSimpArgs false
set_option linter.unusedVariables false
namespace Go.Pol
open Go.Am
abbrev Cl := Nat × Int × Int × Int × Bool
def callA (x : Cl) : List AV := [.int .u8 (x.1 : Nat), .int .i64 x.2.1, .int .i64 x.2.2.1, .int .i64 x.2.2.2.1, .bool x.2.2.2.2]
end Go.Pol
namespace Go.Proofs.Ytnddcnnangjgeaa
open Go Go.Am Go.Pol
section
variable {n m : Nat} {V : Nat → Int} {Q : Nat → List Nat} {S : PS}
theorem dcx_pool {f : Nat} {avs : List AV} {fr fr' : Int} {V L N P A B C V' L' N' P' A' B' C' : Nat → Int} {a b c : Nat} {h : Hp} {r : AV} {K : AV → Up → List Nat → Prop} (hc : LocP f avs n m (poolB n m fr V L N P A B C) r (poolB n m fr' V' L' N' P' A' B' C'))
    (hl0 : lk h.l a = some (.cells [.sl b 0 n n 4, .sl c 0 m m 3, .int .i64 fr])) (hl1 : lk h.l b = some (.cells (cellsB n V L N P))) (hl2 : lk h.l c = some (.cells (endsB m A B C)))
    (ha : ∀ x ∈ avs, Plain x) (hr : Plain r) (hd : nodB [a, b, c] = true) (hnx' : [a, b, c].contains h.next = false)
    (hk : K r [(a, some (.cells [.sl b 0 n n 4, .sl c 0 m m 3, .int .i64 fr'])), (b, some (.cells (cellsB n V' L' N' P'))), (c, some (.cells (endsB m A' B' C')))] [a, b, c]) : DCallX Try.prog G0 f (.ptr a 0 :: avs) h K := by
  have hnx : h.next ∉ [a, b, c] := fun hm => by rw [List.contains_eq_mem, decide_eq_false_iff_not] at hnx'; exact hnx' hm
  have e0 : enter [a, b, c] a 0 := rfl
  have e1 : enter [a, b, c] b 1 := rfl
  have e2 : enter [a, b, c] c 2 := rfl
  have k0 : enterB [a, b, c] 0 a := rfl
  have k1 : enterB [a, b, c] 1 b := rfl
  have k2 : enterB [a, b, c] 2 c := rfl
  refine dcx_loc (l1 := [(a, .cells [.sl b 0 n n 4, .sl c 0 m m 3, .int .i64 fr']), (b, .cells (cellsB n V' L' N' P')), (c, .cells (endsB m A' B' C'))]) [a, b, c] hc.out plainG hd
    (.cons e0 hl0 ⟨rn_sl e1, rn_sl e2, rn_plain plain_int, trivial⟩ (.cons e1 hl1 (rnl_plain cells_plain) (.cons e2 hl2 (rnl_plain ends_plain) .nil)))
    hnx ?_ ?_ ⟨rn_ptr e0, rnl_plain ha⟩ (rn_plain hr)
    (.cons k0 ⟨rn_sl k1, rn_sl k2, rn_plain plain_int, trivial⟩ (.cons k1 (rnl_plain cells_plain) (.cons k2 (rnl_plain ends_plain) .nil))) hk
  · intro x hx
    simp only [lk]
    split
    · exact ⟨_, rfl⟩
    · split
      · exact ⟨_, rfl⟩
      · rename_i h1 h2
        rw [if_pos (by simp only [List.mem_cons, List.not_mem_nil, or_false] at hx; omega)]; exact ⟨_, rfl⟩
  · intro j x hx
    have : j < 3 := (List.getElem?_eq_some_iff.1 hx).1
    simp only [poolB, lk]
    split
    · exact ⟨_, rfl⟩
    · split
      · exact ⟨_, rfl⟩
      · rw [if_pos (by omega)]; exact ⟨_, rfl⟩
theorem dcx_ref {f : Nat} {avs : List AV} {V' : Nat → Int} {Q' : Nat → List Nat} {a b c : Nat} {h : Hp} {r : AV} {K : AV → Up → List Nat → Prop} (hc : LocR f avs n m (refB n m V Q) r (refB n m V' Q'))
    (hl0 : lk h.l a = some (.cells [.int .i64 (n : Nat), .sl b 0 m m 1, .sl c 0 n n 1])) (hl1 : lk h.l b = some (.cells (ofB m Q))) (hl2 : lk h.l c = some (.cells (memI n V)))
    (ha : ∀ x ∈ avs, Plain x) (hr : Plain r) (hd : nodB [a, b, c] = true) (hnx' : [a, b, c].contains h.next = false)
    (hk : K r [(a, some (.cells [.int .i64 (n : Nat), .sl b 0 m m 1, .sl c 0 n n 1])), (b, some (.cells (ofB m Q'))), (c, some (.cells (memI n V')))] [a, b, c]) : DCallX Try.prog G0 f (.ptr a 0 :: avs) h K := by
  have hnx : h.next ∉ [a, b, c] := fun hm => by rw [List.contains_eq_mem, decide_eq_false_iff_not] at hnx'; exact hnx' hm
  have e0 : enter [a, b, c] a 0 := rfl
  have e1 : enter [a, b, c] b 1 := rfl
  have e2 : enter [a, b, c] c 2 := rfl
  have k0 : enterB [a, b, c] 0 a := rfl
  have k1 : enterB [a, b, c] 1 b := rfl
  have k2 : enterB [a, b, c] 2 c := rfl
  refine dcx_loc (l1 := [(a, .cells [.int .i64 (n : Nat), .sl b 0 m m 1, .sl c 0 n n 1]), (b, .cells (ofB m Q')), (c, .cells (memI n V'))]) [a, b, c] hc.out plainG hd
    (.cons e0 hl0 ⟨rn_plain plain_int, rn_sl e1, rn_sl e2, trivial⟩ (.cons e1 hl1 (rnl_plain (of_plain _ _)) (.cons e2 hl2 (rnl_plain (memI_plain _ _)) .nil)))
    hnx ?_ ?_ ⟨rn_ptr e0, rnl_plain ha⟩ (rn_plain hr)
    (.cons k0 ⟨rn_plain plain_int, rn_sl k1, rn_sl k2, trivial⟩ (.cons k1 (rnl_plain (of_plain _ _)) (.cons k2 (rnl_plain (memI_plain _ _)) .nil))) hk
  · intro x hx
    simp only [lk]
    split
    · exact ⟨_, rfl⟩
    · split
      · exact ⟨_, rfl⟩
      · rename_i h1 h2
        rw [if_pos (by simp only [List.mem_cons, List.not_mem_nil, or_false] at hx; omega)]; exact ⟨_, rfl⟩
  · intro j x hx
    have : j < 3 := (List.getElem?_eq_some_iff.1 hx).1
    simp only [refB, lk]
    split
    · exact ⟨_, rfl⟩
    · split
      · exact ⟨_, rfl⟩
      · rw [if_pos (by omega)]; exact ⟨_, rfl⟩
end
end Go.Proofs.Ytnddcnnangjgeaa
