/-
  Extents of pages: plain.
-/
import Derived.Test.YtggkpagngnnjjaaQi
set_option linter.unusedSimpArgs false
set_option linter.unusedVariables false
namespace Go.Pol
open Go.Am
abbrev Ex := Int × Int × Int
def exA (e : Ex) : List AV := [.int .i64 e.1, .int .i64 e.2.1, .int .i64 e.2.2]
theorem ex_len (e : Ex) : (exA e).length = 3 := rfl
theorem exA_plain (e : Ex) : ∀ x ∈ exA e, Plain x := fun x hx => by
  simp only [exA, List.mem_cons, List.not_mem_nil, or_false] at hx
  rcases hx with rfl | rfl | rfl <;> exact plain_int
theorem plain_exs {l : List Ex} : Plain (.isl (l.map exA)) := plain_isl fun e he => by
  obtain ⟨a, _, rfl⟩ := List.mem_map.1 he
  exact exA_plain a
/-- One page more. -/
def exS (E : List Ex) (p : Int × Int) : List Ex :=
  match E.getLast? with
  | some e => if e.2.2 = p.2 ∧ e.2.1 = p.1 then E.dropLast ++ [(e.1, e.2.1 + 1, e.2.2)] else E ++ [(p.1, p.1 + 1, p.2)]
  | none => [(p.1, p.1 + 1, p.2)]
theorem exS_nil (p : Int × Int) : exS [] p = [(p.1, p.1 + 1, p.2)] := rfl
theorem exS_on {E : List Ex} {e : Ex} {p : Int × Int} (h : e.2.2 = p.2 ∧ e.2.1 = p.1) : exS (E ++ [e]) p = E ++ [(e.1, e.2.1 + 1, e.2.2)] := by
  simp [exS, h]
theorem exS_new {E : List Ex} {e : Ex} {p : Int × Int} (h : ¬ (e.2.2 = p.2 ∧ e.2.1 = p.1)) : exS (E ++ [e]) p = (E ++ [e]) ++ [(p.1, p.1 + 1, p.2)] := by
  unfold exS
  rw [List.getLast?_concat]
  simp only [if_neg h]
/-- The extents of the first pages. -/
def exN (l : List (Int × Int)) (k : Nat) : List Ex := (l.take k).foldl exS []
theorem exN_zero (l : List (Int × Int)) : exN l 0 = [] := rfl
theorem exN_succ {l : List (Int × Int)} {k : Nat} (hk : k < l.length) : exN l (k + 1) = exS (exN l k) (nth d0 l k) := by
  unfold exN
  rw [take_nth (d := d0) hk, List.foldl_append]
  rfl
theorem exS_le (E : List Ex) (p : Int × Int) : (exS E p).length ≤ E.length + 1 := by
  rcases List.eq_nil_or_concat E with rfl | ⟨E', e, rfl⟩
  · rw [exS_nil]; simp
  · rw [List.concat_eq_append]
    by_cases h : e.2.2 = p.2 ∧ e.2.1 = p.1
    · rw [exS_on h]; simp
    · rw [exS_new h]; simp
theorem exN_le (l : List (Int × Int)) : ∀ k, k ≤ l.length → (exN l k).length ≤ k
  | 0, _ => by simp [exN_zero]
  | k + 1, h => by
    rw [exN_succ (by omega)]
    have h1 := exS_le (exN l k) (nth d0 l k)
    have h2 := exN_le l k (by omega)
    omega
/-- A growing slice of extents of its own. -/
def exV (d : Nat) : Nat → AV
  | 0 => .nils
  | k + 1 => .sl d 0 (k + 1) (k + 1) 3
def exH (d : Nat) (E : List Ex) : Nat → List (Nat × AObj)
  | 0 => []
  | _ + 1 => [(d, .cells (flat exA E))]
theorem len_exV {d : Nat} : ∀ {k : Nat} {K : AV → Prop}, K (.int .i64 (k : Nat)) → LenX (exV d k) K
  | 0, _, h => len_nils h
  | _ + 1, _, h => len_sl h
theorem ex_at (E : List Ex) (e : Ex) (j : Nat) (hj : j < 3) (T : List Ex) : (flat exA (E ++ e :: T))[E.length * 3 + j]? = (exA e)[j]? := by
  have h : flat exA (E ++ e :: T) = flat exA E ++ (exA e ++ flat exA T) := by
    rw [← flat_app]
    congr 1
  rw [h, List.getElem?_append_right (by rw [flat_len ex_len]; omega), flat_len ex_len, List.getElem?_append_left (by rw [ex_len]; omega)]
  congr 1
  omega
theorem ex_set (E : List Ex) (a b c b' : Int) : (flat exA (E ++ [(a, b, c)])).set (E.length * 3 + 1) (.int .i64 b') = flat exA (E ++ [(a, b', c)]) := by
  have h : ∀ b, flat exA (E ++ [(a, b, c)]) = flat exA E ++ [AV.int .i64 a, .int .i64 b, .int .i64 c] := fun b => by
    rw [← flat_app]; rfl
  rw [h, h, List.set_append_right _ _ (by rw [flat_len ex_len]; omega), flat_len ex_len, show E.length * 3 + 1 - E.length * 3 = 1 by omega]
  rfl
end Go.Pol
