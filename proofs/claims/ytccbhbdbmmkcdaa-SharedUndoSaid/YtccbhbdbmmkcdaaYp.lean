/-
  Drop.
-/
import Derived.Test.YtccbhbdbmmkcdaaAmWt
import Derived.Test.YtccbhbdbmmkcdaaYo
set_option linter.unusedSimpArgs false
set_option linter.unusedVariables false
namespace Go.Pol
open Go.Am
/-- The views of the other arenas; what is there when the first ones of an arena were taken. -/
def noA (a : Nat) (L : List Vw) : List Vw := L.filter fun v => decide (v.1 ≠ a)
def lessV (L O : List Vw) (k : Nat) : List Vw := L.filter fun v => decide (v ∉ O.take k)
theorem less_0 (L O : List Vw) : lessV L O 0 = L := by unfold lessV; rw [List.filter_eq_self]; intro v _; simp
theorem less_all (L : List Vw) (a : Nat) : lessV L (ofA a L) (ofA a L).length = noA a L := by
  unfold lessV noA
  rw [List.take_length]
  refine List.filter_congr fun v hv => decide_eq_decide.2 ?_
  rw [mem_ofA]
  exact ⟨fun h e => h ⟨hv, e⟩, fun h e => h e.2⟩
theorem less_s {L O A B : List Vw} {k : Nat} (hL : srt L) (hk : k < O.length) (h : lessV L O k = A ++ nth dV O k :: B) : lessV L O (k + 1) = A ++ B := by
  have hs : srt (lessV L O k) := hL.sublist List.filter_sublist
  have hs2 := hs
  rw [h] at hs2
  have hne := mid_ne hs2
  refine srt_ext (hL.sublist List.filter_sublist) (hs2.sublist (List.Sublist.append_left (List.sublist_cons_self ..) _)) fun v => ?_
  have hm : v ∈ lessV L O k ↔ v ∈ A ∨ v = nth dV O k ∨ v ∈ B := by rw [h]; simp
  have h1 : v ∈ lessV L O k ↔ v ∈ L ∧ v ∉ O.take k := by unfold lessV; rw [List.mem_filter, decide_eq_true_eq]
  have h2 : v ∈ lessV L O (k + 1) ↔ v ∈ L ∧ ¬ (v ∈ O.take k ∨ v = nth dV O k) := by unfold lessV; rw [List.mem_filter, decide_eq_true_eq, mem_take_s hk]
  rw [h2, List.mem_append]
  constructor
  · rintro ⟨h3, h4⟩
    rcases hm.1 (h1.2 ⟨h3, fun e => h4 (.inl e)⟩) with h5 | h5 | h5
    · exact .inl h5
    · exact absurd (.inr h5) h4
    · exact .inr h5
  · intro h3
    have h4 : v ∈ lessV L O k := hm.2 (h3.elim .inl fun h => .inr (.inr h))
    refine ⟨(h1.1 h4).1, fun e => ?_⟩
    rcases e with e | e
    · exact (h1.1 h4).2 e
    · rcases h3 with h5 | h5
      · exact hne.1 v h5 (e ▸ at_self v)
      · exact hne.2 v h5 (e ▸ at_self v)
/-- Has a frame lost its last view? -/
def goneB (L O : List Vw) (k f : Nat) : Bool := decide (f ∈ frs (O.take k)) && decide (cntF (lessV L O k) f = 0)
def goneU (g : Nat → Bool) (k : Nat) : List Nat := (List.range k).filter g
/-- The frames that an arena alone saw. -/
def goneL (L : List Vw) (a : Nat) : List Nat := goneU (goneB L (ofA a L) (ofA a L).length) 1024
end Go.Pol
namespace Go.Proofs.Ytccbhbdbmmkcdaa.Sh
open Go Go.Am Go.Pol
theorem plain_ns {l : List Nat} : Plain (.isl (l.map nat1)) := plain_isl fun e he => by
  obtain ⟨n, _, rfl⟩ := List.mem_map.1 he; exact nat1_plain n
theorem plain_tn {l : List Nat} {e : Int} : Plain (.tup [.isl (l.map nat1), .int .i64 e]) := plain_tup fun x hx => by
  simp only [List.mem_cons, List.not_mem_nil, or_false] at hx
  rcases hx with rfl | rfl
  · exact plain_ns
  · exact plain_int
section
variable {L : List Vw} {t : TS}
end
end Go.Proofs.Ytccbhbdbmmkcdaa.Sh
