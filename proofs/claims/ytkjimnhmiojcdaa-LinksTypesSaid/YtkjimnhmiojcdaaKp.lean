/-
  New and Save of a pool, in any store.
-/
import Derived.Test.YtkjimnhmiojcdaaKo
import Derived.Test.YtkjimnhmiojcdaaLt
set_option linter.unusedSimpArgs false
set_option linter.unusedVariables false
namespace Go.Proofs.Ytkjimnhmiojcdaa.Rt
open Go Go.Am Go.Pol
section
def poolAt (a n m : Nat) (V : Nat → PV) (S : PS) : List (Nat × AObj) := [(a, .cells [.sl (a + 1) 0 n n 4, .sl (a + 2) 0 m m 3, .int .i64 (S.fr : Nat)]), (a + 1, .cells (cellsB n V S.L S.N S.P)), (a + 2, .cells (endsB m S.A S.B S.C))]
theorem plain_vals {n : Nat} {V : Nat → PV} : Plain (valsL n V) := plain_isl fun e he => by
  obtain ⟨i, _, rfl⟩ := List.mem_map.1 he
  intro x hx
  simp only [List.mem_cons, List.not_mem_nil, or_false] at hx
  obtain rfl := hx; exact plainV
theorem plain_stateV {n m : Nat} {V : Nat → PV} {L N P A B : Nat → Int} : Plain (stateV n m V L N P A B) := plain_agg fun x hx => by
  simp only [List.mem_cons, List.not_mem_nil, or_false] at hx
  rcases hx with rfl | rfl | rfl | rfl | rfl | rfl <;> first | exact plain_vals | exact plain_intsL
variable {n m : Nat}
theorem cx_new {n m nx : Nat} {l : List (Nat × AObj)} {K : AV → Hp → Prop} (h1 : 1 ≤ n) (h2 : n ≤ 2000) (h3 : 1 ≤ m) (h4 : m ≤ 64) (hk : K (.tup [.ptr nx 0, .int .i64 0]) ⟨[(nx, .cells [.sl (nx + 1) 0 n n 4, .sl (nx + 2) 0 m m 3, .int .i64 0]), (nx + 1, .cells (cellsB n (fun _ => z0) (S0 n m).L (S0 n m).N (S0 n m).P)), (nx + 2, .cells (endsB m (S0 n m).A (S0 n m).B (S0 n m).C))] ++ l, nx + 3⟩) :
    CallX Try.prog G0 (.fn 7 [] []) [.int .i64 (n : Nat), .int .i64 (m : Nat)] ⟨l, nx⟩ K := by
  have k0 : back [] nx 0 nx := rfl
  have k1 : back [] nx 1 (nx + 1) := rfl
  have k2 : back [] nx 2 (nx + 2) := rfl
  refine cx_loc (r' := .tup [.ptr nx 0, .int .i64 0]) (l1 := [(nx, .cells [.sl (nx + 1) 0 n n 4, .sl (nx + 2) 0 m m 3, .int .i64 0]), (nx + 1, .cells (cellsB n (fun _ => z0) (S0 n m).L (S0 n m).N (S0 n m).P)), (nx + 2, .cells (endsB m (S0 n m).A (S0 n m).B (S0 n m).C))]) [] (l_new n m h1 h2 h3 h4) plainG rfl .nil (rnl_plain (by simp [plain_int])) (by simp) (rn_tup ⟨rn_ptr k0, rn_plain plain_int, trivial⟩)
    (.cons k0 ⟨rn_sl k1, rn_sl k2, rn_plain plain_int, trivial⟩ (.cons k1 (rnl_plain cells_plain) (.cons k2 (rnl_plain ends_plain) .nil))) ?_
  have e : ∀ {l : List (Nat × AObj)} {k : List (Nat × AObj) → Prop}, k l → filtK [] l k := fun {l} => by
    induction l with
    | nil => exact fun h => h
    | cons a l ih => exact fun {k} h => ih (k := fun r => k (a :: r)) h
  exact e hk
theorem dcx_pool {f : Nat} {avs : List AV} {fr fr' : Int} {V : Nat → PV} {L N P A B C : Nat → Int} {V' : Nat → PV} {L' N' P' A' B' C' : Nat → Int} {a b c : Nat} {h : Hp} {r : AV} {K : AV → Up → List Nat → Prop} (hc : LocP f avs n m (poolB n m fr V L N P A B C) r (poolB n m fr' V' L' N' P' A' B' C'))
    (hl0 : lk h.l a = some (.cells [.sl b 0 n n 4, .sl c 0 m m 3, .int .i64 fr])) (hl1 : lk h.l b = some (.cells (cellsB n V L N P))) (hl2 : lk h.l c = some (.cells (endsB m A B C)))
    (ha : ∀ x ∈ avs, Plain x) (hr : Plain r) (hd : nodB [a, b, c] = true) (hnx' : [a, b, c].contains h.next = false)
    (hk : K r [(a, some (.cells [.sl b 0 n n 4, .sl c 0 m m 3, .int .i64 fr'])), (b, some (.cells (cellsB n V' L' N' P'))), (c, some (.cells (endsB m A' B' C')))] [a, b, c]) : DCallX Try.prog G0 f (.ptr a 0 :: avs) h K := by
  have hnx : h.next ∉ [a, b, c] := fun hm => by rw [List.contains_eq_mem, decide_eq_false_iff_not] at hnx'; exact hnx' hm
  have e0 : enter [a, b, c] a 0 := rfl
  have e1 : enter [a, b, c] b 1 := rfl
  have e2 : enter [a, b, c] c 2 := rfl
  have k0 : enterB [a, b, c] 0 a := rfl
  have k1 : enterB [a, b, c] 1 b := rfl
  have k2 : enterB [a, b, c] 2 c := rfl
  refine dcx_loc (l1 := [(a, .cells [.sl b 0 n n 4, .sl c 0 m m 3, .int .i64 fr']), (b, .cells (cellsB n V' L' N' P')), (c, .cells (endsB m A' B' C'))]) [a, b, c] hc.out plainG hd
    (.cons e0 hl0 ⟨rn_sl e1, rn_sl e2, rn_plain plain_int, trivial⟩ (.cons e1 hl1 (rnl_plain cells_plain) (.cons e2 hl2 (rnl_plain ends_plain) .nil)))
    hnx ?_ ?_ ⟨rn_ptr e0, rnl_plain ha⟩ (rn_plain hr)
    (.cons k0 ⟨rn_sl k1, rn_sl k2, rn_plain plain_int, trivial⟩ (.cons k1 (rnl_plain cells_plain) (.cons k2 (rnl_plain ends_plain) .nil))) hk
  · intro x hx
    simp only [lk]
    split
    · exact ⟨_, rfl⟩
    · split
      · exact ⟨_, rfl⟩
      · rename_i h1 h2
        rw [if_pos (by simp only [List.mem_cons, List.not_mem_nil, or_false] at hx; omega)]; exact ⟨_, rfl⟩
  · intro j x hx
    have : j < 3 := (List.getElem?_eq_some_iff.1 hx).1
    simp only [poolB, lk]
    split
    · exact ⟨_, rfl⟩
    · split
      · exact ⟨_, rfl⟩
      · rw [if_pos (by omega)]; exact ⟨_, rfl⟩

end
end Go.Proofs.Ytkjimnhmiojcdaa.Rt
