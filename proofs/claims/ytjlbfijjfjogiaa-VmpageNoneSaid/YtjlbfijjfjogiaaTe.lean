/-
  The document's system: Join, Split, bytes, kinds, counts, plans over the plain state.
-/
import Derived.Test.YtjlbfijjfjogiaaTd
set_option linter.unusedSimpArgs false
set_option linter.unusedVariables false
namespace Go.Pol
open Go.Am
def Sy.write (s : Sy) (a b : Int) : Int × Sy :=
  if a < 0 ∨ 65536 ≤ a then (7, s) else if s.K (a.toNat / 64) = 2 then (0, { s with B := updP s.B (a.toNat / 64) (updI (s.B (a.toNat / 64)) (a.toNat % 64) b) }) else (61, s)
def Sy.read (s : Sy) (a : Int) : Int × Int :=
  if a < 0 ∨ 65536 ≤ a then (0, 7) else if s.K (a.toNat / 64) = 2 then (s.B (a.toNat / 64) (a.toNat % 64), 0) else (0, 61)
def Sy.kind (s : Sy) (a : Int) : List AV :=
  if a < 0 ∨ 1024 ≤ a then [.int .i64 0, .bool false, .int .i64 7] else [.int .i64 (s.K a.toNat), .bool (s.M a.toNat), .int .i64 0]
def Sy.new (l : List Rl) : Sy := ⟨fun _ => 0, fun _ => false, fun _ _ => 0, l, fun _ => 0, fun _ => 0⟩
def Sy.plan (s : Sy) (l : List Rl) : Int × Sy := if (chkP l).2 = 0 then (0, { s with l := l, C := fun _ => 0, H := fun _ => 0 }) else ((chkP l).2, s)
theorem chkS_new {l : List Rl} (h : (chkP l).2 = 0) : chkS l (fun _ => 0) (fun _ => 0) = 0 := by
  unfold chkS
  rw [if_neg (by rw [h]; simp), if_pos]
  intro k hk
  exact ⟨Int.le_refl _, by show (0 : Int) ≤ 1000000; decide, rfl⟩
theorem good_new {l : List Rl} (h : (chkP l).2 = 0) : GoodS (Sy.new l) := ⟨chkS_new h, fun _ => ⟨Int.le_refl _, (by show (0 : Int) ≤ 3; decide)⟩, fun p hp => (by cases hp), fun _ _ => rfl, fun _ _ => rfl, fun _ _ _ => rfl⟩
theorem good_write {s : Sy} {a b : Int} (h : GoodS s) : GoodS (s.write a b).2 := by
  unfold Sy.write
  split
  · exact h
  · split
    · rename_i hk
      refine ⟨h.hv, h.kind, h.huge, fun p hp => ?_, h.cK, fun p j hj => ?_⟩
      · show updP s.B _ _ p = _
        unfold updP
        rw [if_neg fun e => hp (by rw [e]; exact hk)]
        exact h.zero p hp
      · show updP s.B _ _ p j = 0
        unfold updP
        split
        · unfold updI; rw [if_neg (by omega)]; exact h.cB _ _ hj
        · exact h.cB _ _ hj
    · exact h
def cntK (K : Nat → Int) (v : Int) : Nat → Nat
  | 0 => 0
  | n + 1 => cntK K v n + if K n = v then 1 else 0
def cntG (G : Nat → Bool) : Nat → Nat
  | 0 => 0
  | n + 1 => cntG G n + if G n = true then 1 else 0
theorem cntK_le {K : Nat → Int} {v : Int} : ∀ n, cntK K v n ≤ n
  | 0 => Nat.le_refl _
  | n + 1 => by have := cntK_le (K := K) (v := v) n; unfold cntK; split <;> omega
/-- The numbers of pages of each kind, and of huge pages. -/
def Sy.counts (s : Sy) : List AV := [.int .i64 (cntK s.K 0 1024 : Nat), .int .i64 (cntK s.K 1 1024 : Nat), .int .i64 (cntK s.K 2 1024 : Nat), .int .i64 (cntK s.K 3 1024 : Nat), .int .i64 (cntG s.G 64 : Nat)]
theorem quo64 {a : Int} (h : 0 ≤ a) (h2 : a < 100000) : IntKind.i64.wrap (a.tdiv 64) = ((a.toNat / 64 : Nat) : Int) := by
  rw [Int.tdiv_eq_ediv_of_nonneg h, IntWalk.i64_in _ ⟨by omega, by omega⟩]; omega
theorem rem64 {a : Int} (h : 0 ≤ a) : a.tmod 64 = ((a.toNat % 64 : Nat) : Int) := by
  rw [Int.tmod_eq_emod_of_nonneg h]; omega
end Go.Pol
namespace Go.Proofs.Ytjlbfijjfjogiaa
open Go Go.Am Go.Pol
section
variable {s : Sy} {a : Int}
end
end Go.Proofs.Ytjlbfijjfjogiaa
