/-
  Slices that grow, without parting: nil or not. No program in sight.
-/
import Derived.Test.YtnddcnnangjgeaaAmFrzR
set_option linter.unusedSimpArgs false
set_option linter.unusedVariables false
namespace Go.Am
section
variable {α : Type} {f : α → List AV} {l : List α} {i j : Nat} {o : AObj} {r : List (Nat × AObj)}
theorem len_own {sz n : Nat} : lenV (ownV i sz n) = some (.int .i64 n) := by
  by_cases hz : n = 0
  · subst hz; rfl
  · rw [own_s hz]; rfl
end
section
variable {P : Program} {G : Gl} {fr : List AV} {h : Hp} {α : Type} {f : α → List AV} {l l2 : List α}
theorem wk_own {σ : Nat → Nat} {h h' : Hp} {i j sz n : Nat} (e : σ i = j) (hi : i < h'.next) : WkV P σ h h' (ownV j sz n) (ownV i sz n) := by
  by_cases hz : n = 0
  · subst hz; rw [own_z, own_z]; exact fun c v hR hm hr => RR_nils.2 (RR_nils.1 hr)
  · rw [own_s hz, own_s hz]; exact wk_sl e hi rfl (Nat.le_refl _) (Nat.le_refl _)
theorem wk_frzS {σ : Nat → Nat} {h : Hp} {k i sz n : Nat} (hf : ∀ x, (f x).length = sz) (hp : ∀ c, ∀ x ∈ f c, Plain x) (hi : lk h.l i = some (.cells (flat f l))) (hn : n = l.length) : WkV P σ h ⟨[], k⟩ (.sl i 0 n n sz) (.isl (l.map f)) := by
  subst hn
  refine wk_frz hi (fun j o hj => by cases hj) subH_nil (by simp) (fun e he => ?_) ?_ fun e he x hx => ?_
  · obtain ⟨c, _, rfl⟩ := List.mem_map.1 he; exact hf c
  · rw [List.drop_zero, List.take_of_length_le (by rw [flat_len hf]; exact Nat.le_refl _)]; rfl
  · obtain ⟨c, _, rfl⟩ := List.mem_map.1 he; exact hp c x hx
end
end Go.Am
