/-
  LinksPlays: the walk of the law.
-/
import Derived.Test.YtnddcnnangjgeaaLr
set_option linter.unusedSimpArgs false
set_option linter.unusedVariables false
namespace Go.Pol
open Go.Am
def callsA (l : List Cl) : AV := .isl (l.map callA)
theorem call_len (x : Cl) : (callA x).length = 5 := rfl
theorem plain_callL (x : Cl) : ∀ y ∈ callA x, Plain y := fun y hy => by
  simp only [callA, List.mem_cons, List.not_mem_nil, or_false] at hy
  rcases hy with rfl | rfl | rfl | rfl | rfl <;> first | exact plain_int | exact plain_bool
theorem plain_calls {l : List Cl} : Plain (callsA l) := plain_isl fun e he => by
  obtain ⟨x, _, rfl⟩ := List.mem_map.1 he; exact plain_callL x
theorem plain_callA (x : Cl) : Plain (.agg (callA x)) := plain_agg (plain_callL x)
end Go.Pol
namespace Go.Proofs.Ytnddcnnangjgeaa
open Go Go.Am Go.Pol
theorem plain_callI {l : List Cl} : Plain (.isl (l.map callA)) := plain_calls
section
variable {n m : Nat} {V : Nat → Int} {Q : Nat → List Nat} {S : PS}
/-- A call on both, in another store. -/
theorem cx_both {f : Nat} {args : List AV} {r : AV} {V' : Nat → Int} {Q' : Nat → List Nat} {S' : PS} {nx : Nat} {l : List (Nat × AObj)} {K : AV → Hp → Prop} (hc : LocC Try.prog G0 f args (bothB n m V Q S) 6 fun x h1 => x = r ∧ h1 = ⟨bothB n m V' Q' S', 6⟩)
    (h0 : lk l 0 = some (.cells [.sl 1 0 n n 4, .sl 2 0 m m 3, .int .i64 (S.fr : Nat)])) (h1 : lk l 1 = some (.cells (cellsB n V S.L S.N S.P))) (h2 : lk l 2 = some (.cells (endsB m S.A S.B S.C)))
    (h3 : lk l 3 = some (.cells [.int .i64 (n : Nat), .sl 4 0 m m 1, .sl 5 0 n n 1])) (h4 : lk l 4 = some (.cells (ofB m Q))) (h5 : lk l 5 = some (.cells (memI n V))) (hnx : 6 ≤ nx) (ha : RnL (enter [0, 1, 2, 3, 4, 5]) args args) (hr : Plain r)
    (hk : filtK [0, 1, 2, 3, 4, 5] l fun l2 => K r ⟨bothB n m V' Q' S' ++ l2, nx⟩) : CallX Try.prog G0 (.fn f [] []) args ⟨l, nx⟩ K := by
  have e0 : enter [0, 1, 2, 3, 4, 5] 0 0 := rfl
  have e1 : enter [0, 1, 2, 3, 4, 5] 1 1 := rfl
  have e2 : enter [0, 1, 2, 3, 4, 5] 2 2 := rfl
  have e3 : enter [0, 1, 2, 3, 4, 5] 3 3 := rfl
  have e4 : enter [0, 1, 2, 3, 4, 5] 4 4 := rfl
  have e5 : enter [0, 1, 2, 3, 4, 5] 5 5 := rfl
  have k0 : back [0, 1, 2, 3, 4, 5] nx 0 0 := rfl
  have k1 : back [0, 1, 2, 3, 4, 5] nx 1 1 := rfl
  have k2 : back [0, 1, 2, 3, 4, 5] nx 2 2 := rfl
  have k3 : back [0, 1, 2, 3, 4, 5] nx 3 3 := rfl
  have k4 : back [0, 1, 2, 3, 4, 5] nx 4 4 := rfl
  have k5 : back [0, 1, 2, 3, 4, 5] nx 5 5 := rfl
  refine cx_loc (l1 := bothB n m V' Q' S') [0, 1, 2, 3, 4, 5] hc plainG rfl
    (.cons e0 h0 ⟨rn_sl e1, rn_sl e2, rn_plain plain_int, trivial⟩ (.cons e1 h1 (rnl_plain cells_plain) (.cons e2 h2 (rnl_plain ends_plain) (.cons e3 h3 ⟨rn_plain plain_int, rn_sl e4, rn_sl e5, trivial⟩ (.cons e4 h4 (rnl_plain (of_plain _ _)) (.cons e5 h5 (rnl_plain (memI_plain _ _)) .nil))))))
    (by simpa using ha) (by intro x hx; simp only [List.mem_cons, List.not_mem_nil, or_false] at hx; omega) (rn_plain hr)
    (.cons k0 ⟨rn_sl k1, rn_sl k2, rn_plain plain_int, trivial⟩ (.cons k1 (rnl_plain cells_plain) (.cons k2 (rnl_plain ends_plain) (.cons k3 ⟨rn_plain plain_int, rn_sl k4, rn_sl k5, trivial⟩ (.cons k4 (rnl_plain (of_plain _ _)) (.cons k5 (rnl_plain (memI_plain _ _)) .nil)))))) hk
end
/-- A contract of a pure call, as a thing of its own. -/
structure PureS (f : Nat) (args : List AV) (r : AV) : Prop where
  out : PureC Try.prog G0 f args r
theorem cx_pureS {g : Nat} {avs : List AV} {r : AV} {h : Hp} {K : AV → Hp → Prop} (hp : PureS g avs r) (hk : K r h) : CallX Try.prog G0 (.fn g [] []) avs h K := cx_pure (by simpa using hp.out) hk
theorem cx_new {n m nx : Nat} {l : List (Nat × AObj)} {K : AV → Hp → Prop} (h1 : 1 ≤ n) (h2 : n ≤ 2000) (h3 : 1 ≤ m) (h4 : m ≤ 64) (hk : K (.tup [.ptr nx 0, .int .i64 0]) ⟨[(nx, .cells [.sl (nx + 1) 0 n n 4, .sl (nx + 2) 0 m m 3, .int .i64 0]), (nx + 1, .cells (cellsB n (fun _ => 0) (S0 n m).L (S0 n m).N (S0 n m).P)), (nx + 2, .cells (endsB m (S0 n m).A (S0 n m).B (S0 n m).C))] ++ l, nx + 3⟩) :
    CallX Try.prog G0 (.fn 42 [] []) [.int .i64 (n : Nat), .int .i64 (m : Nat)] ⟨l, nx⟩ K := by
  have k0 : back [] nx 0 nx := rfl
  have k1 : back [] nx 1 (nx + 1) := rfl
  have k2 : back [] nx 2 (nx + 2) := rfl
  refine cx_loc (r' := .tup [.ptr nx 0, .int .i64 0]) (l1 := [(nx, .cells [.sl (nx + 1) 0 n n 4, .sl (nx + 2) 0 m m 3, .int .i64 0]), (nx + 1, .cells (cellsB n (fun _ => 0) (S0 n m).L (S0 n m).N (S0 n m).P)), (nx + 2, .cells (endsB m (S0 n m).A (S0 n m).B (S0 n m).C))]) [] (l_new n m h1 h2 h3 h4) plainG rfl .nil (rnl_plain (by simp [plain_int])) (by simp) (rn_tup ⟨rn_ptr k0, rn_plain plain_int, trivial⟩)
    (.cons k0 ⟨rn_sl k1, rn_sl k2, rn_plain plain_int, trivial⟩ (.cons k1 (rnl_plain cells_plain) (.cons k2 (rnl_plain ends_plain) .nil))) ?_
  have e : ∀ {l : List (Nat × AObj)} {k : List (Nat × AObj) → Prop}, k l → filtK [] l k := fun {l} => by
    induction l with
    | nil => exact fun h => h
    | cons a l ih => exact fun {k} h => ih (k := fun r => k (a :: r)) h
  exact e hk
theorem cx_rnew {n m nx : Nat} {l : List (Nat × AObj)} {K : AV → Hp → Prop} (h1 : 1 ≤ n) (h2 : n ≤ 2000) (h3 : 1 ≤ m) (h4 : m ≤ 64) (hk : K (.tup [.agg [.int .i64 (n : Nat), .sl nx 0 m m 1, .sl (nx + 1) 0 n n 1], .int .i64 0]) ⟨[(nx, .cells (ofB m fun _ => [])), (nx + 1, .cells (memI n fun _ => 0))] ++ l, nx + 2⟩) :
    CallX Try.prog G0 (.fn 43 [] []) [.int .i64 (n : Nat), .int .i64 (m : Nat)] ⟨l, nx⟩ K := by
  have k0 : back [] nx 0 nx := rfl
  have k1 : back [] nx 1 (nx + 1) := rfl
  refine cx_loc (r' := .tup [.agg [.int .i64 (n : Nat), .sl nx 0 m m 1, .sl (nx + 1) 0 n n 1], .int .i64 0]) (l1 := [(nx, .cells (ofB m fun _ => [])), (nx + 1, .cells (memI n fun _ => 0))]) [] (r_new n m h1 h2 h3 h4) plainG rfl .nil (rnl_plain (by simp [plain_int])) (by simp) (rn_tup ⟨rn_agg ⟨rn_plain plain_int, rn_sl k0, rn_sl k1, trivial⟩, rn_plain plain_int, trivial⟩)
    (.cons k0 (rnl_plain (of_plain _ _)) (.cons k1 (rnl_plain (memI_plain _ _)) .nil)) ?_
  have e : ∀ {l : List (Nat × AObj)} {k : List (Nat × AObj) → Prop}, k l → filtK [] l k := fun {l} => by
    induction l with
    | nil => exact fun h => h
    | cons a l ih => exact fun {k} h => ih (k := fun r => k (a :: r)) h
  exact e hk
end Go.Proofs.Ytnddcnnangjgeaa
