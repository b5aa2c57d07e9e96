/-
  The arguments of purge's rows.
-/
import Derived.Test.YtggkpagngnnjjaaQd
import Derived.Test.YtggkpagngnnjjaaAmRead
import Derived.Test.YtggkpagngnnjjaaAmSev
import Derived.Test.YtggkpagngnnjjaaRows
import Derived.KernelRfl
set_option linter.unusedSimpArgs false
set_option linter.unusedVariables false
namespace Go.Proofs.Ytggkpagngnnjjaa
open Go Go.Am Go.Pol
open Go.ChangeShapes Go.WideShapes Go.ChangeAt Go.WideElems Go.RowKit
theorem own : ownKnob Try.prog.godebug = none := by kernel_rfl
theorem glo (c : Cx) : RelG G0 c := fun n cs h => by cases h
def pgT : Ty := .struct (.cons (.int .i64) (.cons (.int .i64) .nil))
def stT : Ty := .struct (.cons (.int .i64) (.cons (.int .i64) (.cons (.int .i64) (.cons (.slice pgT) .nil))))
theorem map_of {α : Type} {f : α → List AV} {q : α → Prop} : ∀ {els : List (List AV)}, (∀ el ∈ els, ∃ c, el = f c ∧ q c) → ∃ l : List α, els = l.map f ∧ ∀ c ∈ l, q c
  | [], _ => ⟨[], rfl, fun c hc => by cases hc⟩
  | el :: els, h => by
    obtain ⟨c, rfl, hq⟩ := h el (List.mem_cons_self ..)
    obtain ⟨l, rfl, hl⟩ := map_of fun e he => h e (List.mem_cons_of_mem _ he)
    exact ⟨c :: l, rfl, fun d hd => (List.mem_cons.1 hd).elim (fun e => e ▸ hq) (hl d)⟩
theorem wf_u8 {n : Int} (h : (Lit.int .u8 n).wf = true) : ∃ m : Nat, n = (m : Int) ∧ m < 256 := by
  simp [Lit.wf, IntKind.min, IntKind.max, IntKind.signed, IntKind.bits] at h
  exact ⟨n.toNat, by omega, by omega⟩
theorem wf_i64 {n : Int} (h : (Lit.int .i64 n).wf = true) : -9223372036854775808 ≤ n ∧ n ≤ 9223372036854775807 := by
  simp [Lit.wf, IntKind.min, IntKind.max, IntKind.signed, IntKind.bits] at h
  omega
/-- A number of 64 bits. -/
def i64 (n : Int) : Prop := -9223372036854775808 ≤ n ∧ n ≤ 9223372036854775807
theorem shp_pg {xs : List AV} (h : Shp pgT xs) : ∃ x : Int × Int, xs = pgA x ∧ i64 x.1 ∧ i64 x.2 := by
  obtain ⟨y1, z1, rfl, ⟨a, rfl, ha⟩, y2, z2, rfl, ⟨b, rfl, hb⟩, rfl⟩ := h
  exact ⟨(a, b), rfl, wf_i64 ha, wf_i64 hb⟩
theorem shp_st {xs : List AV} (h : Shp stT xs) : ∃ (age ref keep : Int) (l : List (Int × Int)), xs = [AV.int .i64 age, .int .i64 ref, .int .i64 keep, .isl (l.map pgA)] ∧ i64 age ∧ i64 ref ∧ i64 keep ∧ (∀ x ∈ l, i64 x.1 ∧ i64 x.2) ∧ l.length ≤ maxLen := by
  obtain ⟨y1, z1, rfl, ⟨a, rfl, ha⟩, y2, z2, rfl, ⟨b, rfl, hb⟩, y3, z3, rfl, ⟨c, rfl, hc⟩, y4, z4, rfl, ⟨els, rfl, hl, he⟩, rfl⟩ := h
  obtain ⟨l, rfl, hq⟩ := map_of (f := pgA) (q := fun x => i64 x.1 ∧ i64 x.2) fun el hel => shp_pg (he el hel)
  exact ⟨a, b, c, l, rfl, wf_i64 ha, wf_i64 hb, wf_i64 hc, hq, by simpa using hl⟩
theorem shp_u8s {xs : List AV} (h : Shp (.slice (.int .u8)) xs) : ∃ l : List Nat, xs = [.isl (l.map fun b : Nat => [AV.int .u8 b])] ∧ (∀ x ∈ l, x < 256) ∧ l.length ≤ maxLen := by
  obtain ⟨els, rfl, hl, he⟩ := h
  obtain ⟨l, rfl, hq⟩ := map_of (f := fun b : Nat => [AV.int .u8 b]) (q := fun x => x < 256) fun el hel => by
    obtain ⟨x, rfl, hx⟩ := he el hel
    obtain ⟨m, rfl, hm⟩ := wf_u8 hx
    exact ⟨m, rfl, hm⟩
  exact ⟨l, rfl, hq, by simpa using hl⟩
theorem shp_three {T U W : Ty} : ∀ {xss : List (List AV)}, ShpAll [T, U, W] xss → ∃ xs ys zs, xss = [xs, ys, zs] ∧ Shp T xs ∧ Shp U ys ∧ Shp W zs
  | [xs, ys, zs], h => ⟨xs, ys, zs, rfl, h.1, h.2.1, h.2.2.1⟩
  | [], h => h.elim
  | [_], h => h.2.elim
  | [_, _], h => h.2.2.elim
  | _ :: _ :: _ :: _ :: _, h => h.2.2.2.elim
end Go.Proofs.Ytggkpagngnnjjaa
