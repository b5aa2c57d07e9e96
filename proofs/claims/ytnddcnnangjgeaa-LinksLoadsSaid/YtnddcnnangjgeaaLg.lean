/-
  The document's lists of slots: their memory; Find, free, end.
-/
import Derived.Test.YtnddcnnangjgeaaLf
set_option linter.unusedSimpArgs false
set_option linter.unusedVariables false
namespace Go.Pol
open Go.Am
def slotA (s : Nat) : List AV := [.int .i64 (s : Nat)]
def slotsA (l : List Nat) : AV := .isl (l.map slotA)
def ofB (m : Nat) (Q : Nat → List Nat) : List AV := (List.range m).map fun i => slotsA (Q i)
theorem slot_len (s : Nat) : (slotA s).length = 1 := rfl
theorem slot_plain (s : Nat) : ∀ x ∈ slotA s, Plain x := fun x hx => by obtain rfl := List.mem_singleton.1 hx; exact plain_int
theorem slots_plain {l : List Nat} : Plain (slotsA l) := plain_isl fun e he => by
  obtain ⟨s, _, rfl⟩ := List.mem_map.1 he; exact slot_plain s
theorem of_get {m : Nat} {Q : Nat → List Nat} {i : Nat} (h : i < m) : (ofB m Q)[i]? = some (slotsA (Q i)) := by simp [ofB, h]
theorem of_plain (m : Nat) (Q : Nat → List Nat) : ∀ x ∈ ofB m Q, Plain x := fun x hx => by obtain ⟨p, _, rfl⟩ := List.mem_map.1 hx; exact slots_plain
def refB (n m : Nat) (V : Nat → Int) (Q : Nat → List Nat) : List (Nat × AObj) := [(0, .cells [.int .i64 (n : Nat), .sl 1 0 m m 1, .sl 2 0 n n 1]), (1, .cells (ofB m Q)), (2, .cells (memI n V))]
end Go.Pol
namespace Go.Proofs.Ytnddcnnangjgeaa
open Go Go.Am Go.Pol
section
variable {n m : Nat} {V : Nat → Int} {Q : Nat → List Nat}
/-- A call on the document's lists: over their three blocks alone. -/
structure LocR (f : Nat) (avs : List AV) (n m : Nat) (l0 : List (Nat × AObj)) (r : AV) (lr : List (Nat × AObj)) : Prop where
  out : LocC Try.prog G0 f (.ptr 0 0 :: avs) l0 3 fun x h1 => x = r ∧ h1 = ⟨lr, 3⟩
theorem end_ref {top : Bool} {h : Hp} {x r : AV} {cs : List AV} (hr : WkV Try.prog (rn []) h ⟨refB n m V Q, 3⟩ x r) (h0 : lk h.l 0 = some (.cells [.int .i64 (n : Nat), .sl 1 0 m m 1, .sl 2 0 n n 1])) (h1 : lk h.l 1 = some (.cells cs)) (h2 : lk h.l 2 = some (.cells (memI n V)))
    (hc : SubH (rn []) h ⟨refB n m V Q, 3⟩ → WkL Try.prog (rn []) h ⟨refB n m V Q, 3⟩ cs (ofB m Q)) :
    EndX top Try.prog 3 h x (fun r' h' => r' = r ∧ h' = ⟨refB n m V Q, 3⟩) := by
  have hs : SubH (rn []) h ⟨refB n m V Q, 3⟩ := fun i o hi => by
    simp only [refB, lk] at hi
    show ∃ o', lk h.l i = some o'
    split at hi
    · rename_i e; subst e; exact ⟨_, h0⟩
    · split at hi
      · rename_i e; subst e; exact ⟨_, h1⟩
      · split at hi
        · rename_i e; subst e; exact ⟨_, h2⟩
        · cases hi
  exact end_loc [] rfl (Nat.le_refl _) (oneOf_of rfl) hr (wko_cells (show 0 < 3 by decide) h0 (wkl_cons (wk_int rfl) (wkl_cons (wk_sl rfl (show 1 < 3 by decide) rfl (Nat.le_refl _) (Nat.le_refl _)) (wkl_cons (wk_sl rfl (show 2 < 3 by decide) rfl (Nat.le_refl _) (Nat.le_refl _)) wkl_nil)))
    (wko_cells (show 1 < 3 by decide) h1 (hc hs) (wko_plain hs (show 2 < 3 by decide) h2 rfl (memI_plain _ _) wko_nil))) ⟨rfl, rfl⟩
theorem wkl_of {σ : Nat → Nat} {h h' : Hp} (hs : SubH σ h h') : WkL Try.prog σ h h' (ofB m Q) (ofB m Q) := wkl_plain hs (of_plain _ _)
theorem cx_ref {f : Nat} {avs : List AV} {V' : Nat → Int} {Q' : Nat → List Nat} {a b c nx : Nat} {l : List (Nat × AObj)} {r : AV} {K : AV → Hp → Prop} (hc : LocR f avs n m (refB n m V Q) r (refB n m V' Q'))
    (hl0 : lk l a = some (.cells [.int .i64 (n : Nat), .sl b 0 m m 1, .sl c 0 n n 1])) (hl1 : lk l b = some (.cells (ofB m Q))) (hl2 : lk l c = some (.cells (memI n V))) (hlt : a < nx ∧ b < nx ∧ c < nx)
    (ha : ∀ x ∈ avs, Plain x) (hr : Plain r) (hd : nodB [a, b, c] = true)
    (hk : filtK [a, b, c] l fun l2 => K r ⟨[(a, .cells [.int .i64 (n : Nat), .sl b 0 m m 1, .sl c 0 n n 1]), (b, .cells (ofB m Q')), (c, .cells (memI n V'))] ++ l2, nx⟩) : CallX Try.prog G0 (.fn f [] []) (.ptr a 0 :: avs) ⟨l, nx⟩ K := by
  have e0 : enter [a, b, c] a 0 := rfl
  have e1 : enter [a, b, c] b 1 := rfl
  have e2 : enter [a, b, c] c 2 := rfl
  have k0 : back [a, b, c] nx 0 a := rfl
  have k1 : back [a, b, c] nx 1 b := rfl
  have k2 : back [a, b, c] nx 2 c := rfl
  refine cx_loc (l1 := [(a, .cells [.int .i64 (n : Nat), .sl b 0 m m 1, .sl c 0 n n 1]), (b, .cells (ofB m Q')), (c, .cells (memI n V'))]) [a, b, c] hc.out plainG hd
    (.cons e0 hl0 ⟨rn_plain plain_int, rn_sl e1, rn_sl e2, trivial⟩ (.cons e1 hl1 (rnl_plain (of_plain _ _)) (.cons e2 hl2 (rnl_plain (memI_plain _ _)) .nil)))
    ?_ (by intro x hx; simp only [List.mem_cons, List.not_mem_nil, or_false] at hx; omega) (rn_plain hr)
    (.cons k0 ⟨rn_plain plain_int, rn_sl k1, rn_sl k2, trivial⟩ (.cons k1 (rnl_plain (of_plain _ _)) (.cons k2 (rnl_plain (memI_plain _ _)) .nil))) hk
  simp only [List.nil_append, List.append_nil]
  exact ⟨rn_ptr e0, rnl_plain ha⟩
end
end Go.Proofs.Ytnddcnnangjgeaa
