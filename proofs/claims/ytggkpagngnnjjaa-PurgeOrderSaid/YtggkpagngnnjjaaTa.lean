/-
  What PurgeTicks needs: plain facts, left, Done, SameOrders.
-/
import Derived.Test.YtggkpagngnnjjaaSb
set_option linter.unusedSimpArgs false
set_option linter.unusedVariables false
namespace Go.Pol
open Go.Am
section
variable {age ref keep now : Int} {l : List (Int × Int)}
theorem Chk.all (h : Chk age ref keep l 0) : (0 ≤ ref ∧ 0 ≤ age ∧ age ≤ 1000000000000 ∧ 0 ≤ keep ∧ keep ≤ 1024) ∧ P1 l ∧ P2 l ∧ P3 l := by
  unfold Chk badSt at h
  rcases h with h | h | h | h | h
  · exact absurd h.2 (by decide)
  · exact absurd h.2.2 (by decide)
  · exact absurd h.2.2.2 (by decide)
  · exact absurd h.2.2.2.2 (by decide)
  · exact ⟨by omega, h.2.1, h.2.2.1, h.2.2.2.1⟩
theorem P2.mono (h : P2 l) {i : Nat} : ∀ j, i ≤ j → j < l.length → (nth d0 l i).2 ≤ (nth d0 l j).2
  | 0, h1, h2 => by rw [show i = 0 by omega]; exact Int.le_refl _
  | j + 1, h1, h2 => by
    by_cases e : i = j + 1
    · subst e; exact Int.le_refl _
    · have h3 := P2.mono (i := i) h j (by omega) (by omega)
      have h4 := h j h2
      rw [ltP_iff] at h4
      omega
end
theorem all2 {l : List (Int × Int)} : ((l.map pgA).all fun e => e.length == 2) = true := by simp [pgA]
theorem pg_split {x : QD} {X Y : List (Int × Int)} {a : Int × Int} (h : x.pages = X ++ a :: Y) : ∃ QX s QY, x.Q 0 = QX ++ s :: QY ∧ QX.map x.pg = X ∧ x.pg s = a ∧ QY.map x.pg = Y := by
  unfold QD.pages at h
  obtain ⟨QX, Q1, e1, e2, e3⟩ := List.map_eq_append_iff.1 h
  obtain ⟨s, QY, e4, e5, e6⟩ := List.map_eq_cons_iff.1 e3
  exact ⟨QX, s, QY, by rw [e1, e4], e2, e5, e6⟩
end Go.Pol
namespace Go.Proofs.Ytggkpagngnnjjaa
open Go Go.Am Go.Pol
section
variable {age ref keep : Int} {l o : List (Int × Int)}
end
section
variable {x : QD}
theorem q_reuseP (h : GQ x) {X Y : List (Int × Int)} {a : Int × Int} (hp : x.pages = X ++ a :: Y) :
    ∃ x', GQ x' ∧ x'.age = x.age ∧ x'.ref = x.ref ∧ x'.keep = x.keep ∧ x'.pages = X ++ Y ∧ LocQ 14 [.int .i64 a.1] (queS x) (.tup [.int .i64 a.2, .int .i64 0]) (queS x') := by
  obtain ⟨QX, s, QY, e1, e2, e3, e4⟩ := pg_split hp
  obtain ⟨p, hp1, hp2, hp3⟩ := h.vn (s := s) (by rw [e1]; simp)
  obtain ⟨x', g, r1, r2, r3, r4, r5, r6, hl⟩ := q_reuse h hp2 e1
  have ea : a = ((p : Int), x.W s) := by rw [← e3]; unfold QD.pg; rw [hp2]
  subst ea
  exact ⟨x', g, r1, r2, r3, by rw [r4, e2, e4], hl⟩
/-- One refusal more. -/
def refUp (r : Int) : Int := if r < 1000000000000 then r + 1 else r
theorem GQ.up (h : GQ x) : GQ { x with ref := refUp x.ref } :=
  ⟨h.good, h.age_ok, h.keep_ok, by have := h.ref_ok; unfold refUp; dsimp only; split <;> omega, h.rng, h.srt, h.at_, h.fre⟩
end
end Go.Proofs.Ytggkpagngnnjjaa
