/-
  The calls of a pool that look: used, has, Get, Where, Step, End, Len.
-/
import Derived.Test.YtnddcnnangjgeaaLa
set_option linter.unusedSimpArgs false
set_option linter.unusedVariables false
namespace Go.Proofs.Ytnddcnnangjgeaa
open Go Go.Am Go.Pol
section
variable {n m : Nat} {fr : Int} {V L N P A B C : Nat → Int}
/-- A call on a pool: over its three blocks alone. -/
structure LocP (f : Nat) (avs : List AV) (n m : Nat) (l0 : List (Nat × AObj)) (r : AV) (lr : List (Nat × AObj)) : Prop where
  out : LocC Try.prog G0 f (.ptr 0 0 :: avs) l0 3 fun x h1 => x = r ∧ h1 = ⟨lr, 3⟩
theorem end_pool {top : Bool} {h : Hp} {N0 : Nat} {x r : AV} {fr' : Int} (hr : WkV Try.prog (rn []) h ⟨poolB n m fr V L N P A B C, 3⟩ x r) (h0 : lk h.l 0 = some (.cells [.sl 1 0 n n 4, .sl 2 0 m m 3, .int .i64 fr'])) (h1 : lk h.l 1 = some (.cells (cellsB n V L N P))) (h2 : lk h.l 2 = some (.cells (endsB m A B C))) (e : fr' = fr := by rfl) (hN0 : N0 ≤ 3 := by decide) :
    EndX top Try.prog N0 h x (fun r' h' => r' = r ∧ h' = ⟨poolB n m fr V L N P A B C, 3⟩) := by
  subst e
  have hs : SubH (rn []) h ⟨poolB n m fr' V L N P A B C, 3⟩ := fun i o hi => by
    simp only [poolB, lk] at hi
    show ∃ o', lk h.l i = some o'
    split at hi
    · rename_i e; subst e; exact ⟨_, h0⟩
    · split at hi
      · rename_i e; subst e; exact ⟨_, h1⟩
      · split at hi
        · rename_i e; subst e; exact ⟨_, h2⟩
        · cases hi
  exact end_loc [] rfl hN0 (oneOf_of rfl) hr (wko_cells (show 0 < 3 by decide) h0 (wkl_cons (wk_sl rfl (show 1 < 3 by decide) rfl (Nat.le_refl _) (Nat.le_refl _)) (wkl_cons (wk_sl rfl (show 2 < 3 by decide) rfl (Nat.le_refl _) (Nat.le_refl _)) (wkl_cons (wk_int rfl) wkl_nil)))
    (wko_plain hs (show 1 < 3 by decide) h1 rfl cells_plain (wko_plain hs (show 2 < 3 by decide) h2 rfl ends_plain wko_nil))) ⟨rfl, rfl⟩
theorem cx_pool {f : Nat} {avs : List AV} {fr' : Int} {V' L' N' P' A' B' C' : Nat → Int} {a b c nx : Nat} {l : List (Nat × AObj)} {r : AV} {K : AV → Hp → Prop} (hc : LocP f avs n m (poolB n m fr V L N P A B C) r (poolB n m fr' V' L' N' P' A' B' C'))
    (hl0 : lk l a = some (.cells [.sl b 0 n n 4, .sl c 0 m m 3, .int .i64 fr])) (hl1 : lk l b = some (.cells (cellsB n V L N P))) (hl2 : lk l c = some (.cells (endsB m A B C))) (hlt : a < nx ∧ b < nx ∧ c < nx)
    (ha : ∀ x ∈ avs, Plain x) (hr : Plain r) (hd : nodB [a, b, c] = true)
    (hk : filtK [a, b, c] l fun l2 => K r ⟨[(a, .cells [.sl b 0 n n 4, .sl c 0 m m 3, .int .i64 fr']), (b, .cells (cellsB n V' L' N' P')), (c, .cells (endsB m A' B' C'))] ++ l2, nx⟩) : CallX Try.prog G0 (.fn f [] []) (.ptr a 0 :: avs) ⟨l, nx⟩ K := by
  have e0 : enter [a, b, c] a 0 := rfl
  have e1 : enter [a, b, c] b 1 := rfl
  have e2 : enter [a, b, c] c 2 := rfl
  have k0 : back [a, b, c] nx 0 a := rfl
  have k1 : back [a, b, c] nx 1 b := rfl
  have k2 : back [a, b, c] nx 2 c := rfl
  refine cx_loc (l1 := [(a, .cells [.sl b 0 n n 4, .sl c 0 m m 3, .int .i64 fr']), (b, .cells (cellsB n V' L' N' P')), (c, .cells (endsB m A' B' C'))]) [a, b, c] hc.out plainG hd
    (.cons e0 hl0 ⟨rn_sl e1, rn_sl e2, rn_plain plain_int, trivial⟩ (.cons e1 hl1 (rnl_plain cells_plain) (.cons e2 hl2 (rnl_plain ends_plain) .nil)))
    ?_ (by intro x hx; simp only [List.mem_cons, List.not_mem_nil, or_false] at hx; omega) (rn_plain hr)
    (.cons k0 ⟨rn_sl k1, rn_sl k2, rn_plain plain_int, trivial⟩ (.cons k1 (rnl_plain cells_plain) (.cons k2 (rnl_plain ends_plain) .nil))) hk
  simp only [List.nil_append, List.append_nil]
  exact ⟨rn_ptr e0, rnl_plain ha⟩
end
end Go.Proofs.Ytnddcnnangjgeaa
