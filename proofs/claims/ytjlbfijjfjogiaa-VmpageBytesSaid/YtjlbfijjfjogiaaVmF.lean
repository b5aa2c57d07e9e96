/-
  The runs of the program: its iterator, collected.
  The ends of Save: growing slices become values.
  Pages' bytes as wholes: compared, written, read.
-/
import Derived.Test.YtjlbfijjfjogiaaAmWt
import Derived.Test.YtjlbfijjfjogiaaVmE
import Derived.Test.YtjlbfijjfjogiaaAmWn
set_option linter.unusedSimpArgs false
set_option linter.unusedVariables false
namespace Go.Proofs.Ytjlbfijjfjogiaa
open Go Go.Am Go.Pol
section
variable {K : Nat → Int} {M : Nat → Bool} {B : Nat → Nat → Int} {P : List AV}
end
end Go.Proofs.Ytjlbfijjfjogiaa
namespace Go.Proofs.Ytjlbfijjfjogiaa
open Go Go.Am Go.Pol
theorem wk_frzF {α : Type} {f : α → List AV} {σ : Nat → Nat} {h h' : Hp} {d n sz : Nat} {L : List α} (hf : ∀ x, (f x).length = sz) (hp : ∀ c, ∀ x ∈ f c, Plain x) (hn : L.length = n) (hi : L.length ≠ 0 → lk h.l d = some (.cells (flat f L))) (hi' : ∀ j o, lk h'.l j = some o → σ j ≠ d) (hs : SubH σ h h') : WkV Try.prog σ h h' (ownV d sz n) (.isl (L.map f)) := by
  subst hn
  by_cases hz : L.length = 0
  · rw [hz, own_z]
    cases List.eq_nil_of_length_eq_zero hz
    exact wk_nils
  · rw [own_s hz]
    refine wk_frz (hi hz) hi' hs (by simp) (fun e he => ?_) ?_ fun e he x hx => ?_
    · obtain ⟨s, _, rfl⟩ := List.mem_map.1 he; exact hf s
    · rw [List.drop_zero, List.take_of_length_le (by rw [flat_len hf]; exact Nat.le_refl _)]; rfl
    · obtain ⟨s, _, rfl⟩ := List.mem_map.1 he; exact hp s x hx
theorem one_not {cs : List AV} {d : Nat} (hd : 1 ≤ d) : ∀ j o, lk (Hp.mk [(0, .cells cs)] 1).l j = some o → rn [] j ≠ d := fun j o hj => by
  simp only [lk] at hj
  show j ≠ d
  split at hj
  · omega
  · cases hj
theorem one_sub {h : Hp} {cs : List AV} (h0 : ∃ o, lk h.l 0 = some o) : SubH (rn []) h ⟨[(0, .cells cs)], 1⟩ := fun i o hi => by
  simp only [lk] at hi
  show ∃ o', lk h.l i = some o'
  split at hi
  · rename_i e; subst e; exact h0
  · cases hi
theorem end_one {top : Bool} {h : Hp} {x r : AV} {cs : List AV} (hr : WkV Try.prog (rn []) h ⟨[(0, .cells cs)], 1⟩ x r) (h0 : lk h.l 0 = some (.cells cs)) (pd : ∀ x ∈ cs, Plain x) : EndX top Try.prog 1 h x (fun r' h' => r' = r ∧ h' = ⟨[(0, .cells cs)], 1⟩) :=
  end_loc [] rfl (Nat.le_refl _) (oneOf_of rfl) hr (wko_plain (one_sub ⟨_, h0⟩) (show 0 < 1 by decide) h0 rfl pd wko_nil) ⟨rfl, rfl⟩
end Go.Proofs.Ytjlbfijjfjogiaa
namespace Go.Pol
open Go.Am
section
variable {K : Nat → Int} {M G : Nat → Bool} {B : Nat → Nat → Int} {P : List AV} {p o : Nat}
end
end Go.Pol
