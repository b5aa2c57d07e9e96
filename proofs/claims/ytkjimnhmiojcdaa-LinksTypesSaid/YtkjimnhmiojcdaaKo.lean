/-
  Calls that follow the first pool.
-/
import Derived.Test.YtkjimnhmiojcdaaKn
import Derived.Test.YtkjimnhmiojcdaaTu
set_option linter.unusedSimpArgs false
set_option linter.unusedVariables false
namespace Go.Proofs.Ytkjimnhmiojcdaa.Rt
open Go Go.Am Go.Pol
section
def cel (v : Int) (b : Bool) : IP := ⟨[.int .i64 v, .bool b], fun x hx => by
  simp only [List.mem_cons, List.not_mem_nil, or_false] at hx
  rcases hx with rfl | rfl
  · exact plain_int
  · exact plain_bool⟩
structure Rel (Q : Nat → List Nat) (U : Nat → Int) (V : Nat → PV) : Prop where
  us : ∀ t, usedQ Q t → ∃ b, V t = ip (cel (U t) b)
  al : ∀ t, (V t).1 = .nilp ∨ ∃ c, (V t).1 = .iptr c
theorem Rel.put {Q Q' : Nat → List Nat} {U : Nat → Int} {V : Nat → PV} (h : Rel Q U V) {s : Nat} (v : Int) (b : Bool) (hq : ∀ t, usedQ Q' t → t = s ∨ usedQ Q t) : Rel Q' (updI U s v) (updV V s (ip (cel v b))) := ⟨fun t ht => by
  by_cases e : t = s
  · subst e; rw [updI_at, updV_at]; exact ⟨b, rfl⟩
  · rw [updI_ne e, updV_ne e]; exact h.us t ((hq t ht).resolve_left e), fun t => by
  by_cases e : t = s
  · subst e; rw [updV_at]; exact .inr ⟨_, rfl⟩
  · rw [updV_ne e]; exact h.al t⟩
theorem Rel.del {Q Q' : Nat → List Nat} {U : Nat → Int} {V : Nat → PV} (h : Rel Q U V) {s : Nat} (hq : ∀ t, usedQ Q' t → t ≠ s ∧ usedQ Q t) : Rel Q' (updI U s 0) (updV V s z0) := ⟨fun t ht => by
  obtain ⟨e, hu⟩ := hq t ht
  rw [updI_ne e, updV_ne e]; exact h.us t hu, fun t => by
  by_cases e : t = s
  · subst e; rw [updV_at]; exact .inl rfl
  · rw [updV_ne e]; exact h.al t⟩
theorem Rel.sub {Q Q' : Nat → List Nat} {U : Nat → Int} {V : Nat → PV} (h : Rel Q U V) (hq : ∀ t, usedQ Q' t → usedQ Q t) : Rel Q' U V := ⟨fun t ht => h.us t (hq t ht), h.al⟩
theorem GoodP.q {n m : Nat} {V : Nat → PV} {Q : Nat → List Nat} {S : PS} (h : GoodP n m V Q S) : Qok n m Q := h.inv.st.qok h.m_le h.n_le h.n_pos
theorem GoodP.up {n m : Nat} {V V' : Nat → PV} {Q Q' : Nat → List Nat} {S S' : PS} (h : GoodP n m V Q S) (hi : Inv n m V' Q' S') : GoodP n m V' Q' S' := ⟨hi, h.m_le, h.n_le, h.n_pos⟩
variable {n m : Nat} {U U' : Nat → Int} {V : Nat → PV} {Q Q' : Nat → List Nat} {S : PS}
/-- A call on this pool, that does what the first one did. -/
def Fol (f : Nat) (avs : List AV) (n m : Nat) (U' : Nat → Int) (Q' : Nat → List Nat) (V : Nat → PV) (S : PS) : Prop := ∃ V' S' r, Plain r ∧ GoodP n m V' Q' S' ∧ Rel Q' U' V' ∧ LocP f avs n m (poolS n m V S) r (poolS n m V' S')
theorem f_push (h : GoodP n m V Q S) (hr : Rel Q U V) {s i v : Int} {b : Bool} (t : TrR n m U Q 0 s i v b U' Q') : Fol 9 [.int .i64 i, .iptr [.int .i64 v, .bool b], .bool b] n m U' Q' V S := by
  generalize ho : 0 = o at t
  cases t <;> first | (rename_i h' ; omega) | skip
  case push t k h0 hi hk hs =>
    subst hi
    obtain ⟨S', h1, h2⟩ := p_push h.inv h.n_le hs hk (cel v b) b
    exact ⟨_, S', _, plain_tup2 plain_int, h.up h1, hr.put v b fun _ => used_push, h2⟩
  case pushFull k h0 hi hk hs =>
    subst hi
    obtain ⟨S', h1, h2⟩ := p_push_full h.inv h.n_pos h.n_le hs hk (cel v b) b
    exact ⟨_, S', _, plain_tup2 plain_int, h.up h1, hr, h2⟩
  case pushNo h0 hi => exact ⟨_, S, _, plain_tup2 plain_int, h, hr, p_push_no h.n_pos i hi (cel v b) b⟩
theorem f_after (h : GoodP n m V Q S) (hr : Rel Q U V) {s i v : Int} {b : Bool} (t : TrR n m U Q 3 s i v b U' Q') : Fol 11 [.int .i64 s, .iptr [.int .i64 v, .bool b]] n m U' Q' V S := by
  generalize ho : 3 = o at t
  cases t <;> first | (rename_i h' ; omega) | skip
  case after t k j X Y h0 hs hx ht =>
    subst hs
    obtain ⟨S', h1, h2⟩ := p_after h.inv h.n_le ht hx (cel v b)
    exact ⟨_, S', _, plain_tup2 plain_int, h.up h1, hr.put v b fun _ => used_after hx, h2⟩
  case afterFull k j X Y h0 hs hx ht =>
    subst hs
    obtain ⟨S', h1, h2⟩ := p_after_full h.inv h.n_le ht hx (cel v b)
    exact ⟨_, S', _, plain_tup2 plain_int, h.up h1, hr, h2⟩
  case afterNo h0 hs => exact ⟨_, S, _, plain_tup2 plain_int, h, hr, p_after_no h.inv h.n_pos s hs (cel v b)⟩
theorem f_take (h : GoodP n m V Q S) (hr : Rel Q U V) {s i v : Int} {b : Bool} (t : TrR n m U Q 4 s i v b U' Q') : Fol 13 [.int .i64 s] n m U' Q' V S := by
  generalize ho : 4 = o at t
  cases t <;> first | (rename_i h' ; omega) | skip
  case take k j X Y h0 hs hx =>
    subst hs
    obtain ⟨S', h1, h2⟩ := p_take h.inv h.n_le hx
    exact ⟨_, S', _, plain_tup2 plainV, h.up h1, hr.del fun _ => used_take h.q hx, h2⟩
  case takeNo h0 hs => exact ⟨_, S, _, plain_tup2 plain_nilp, h, hr, p_take_no h.inv h.n_pos s hs⟩
theorem f_move (h : GoodP n m V Q S) (hr : Rel Q U V) {s i v : Int} {b : Bool} (t : TrR n m U Q 5 s i v b U' Q') : Fol 15 [.int .i64 s, .int .i64 i, .bool b] n m U' Q' V S := by
  generalize ho : 5 = o at t
  cases t <;> first | (rename_i h' ; omega) | skip
  case move k j l X Y h0 hs hx hi hl =>
    subst hs hi
    obtain ⟨S', h1, h2⟩ := p_move h.inv h.n_le hx hl b
    exact ⟨_, S', _, plain_int, h.up h1, hr.sub fun _ => used_move hx, h2⟩
  case moveBad k j X Y h0 hs hx hi => subst hs; exact ⟨_, S, _, plain_int, h, hr, p_move_bad h.inv hx i b hi⟩
  case moveNo h0 hs => exact ⟨_, S, _, plain_int, h, hr, p_move_no h.inv h.n_pos s i b hs⟩
theorem f_put (h : GoodP n m V Q S) (hr : Rel Q U V) {s i v : Int} {b : Bool} (t : TrR n m U Q 6 s i v b U' Q') : Fol 17 [.int .i64 s, .iptr [.int .i64 v, .bool b]] n m U' Q' V S := by
  generalize ho : 6 = o at t
  cases t <;> first | (rename_i h' ; omega) | skip
  case put k j X Y h0 hs hx =>
    subst hs
    obtain ⟨h1, h2⟩ := p_put h.inv hx (cel v b)
    exact ⟨_, S, _, plain_int, h.up h1, hr.put v b fun _ h => .inr h, h2⟩
  case putNo h0 hs => exact ⟨_, S, _, plain_int, h, hr, p_put_no h.inv h.n_pos s (cel v b) hs⟩
theorem f_look {s i v : Int} {b : Bool} (t : TrR n m U Q 7 s i v b U' Q') : U' = U ∧ Q' = Q := by
  generalize ho : 7 = o at t
  cases t <;> first | (rename_i h' ; omega) | skip
  exact ⟨rfl, rfl⟩

end
end Go.Proofs.Ytkjimnhmiojcdaa.Rt
