/-
  The arguments of purge's rows.
-/
import Derived.Test.YtggkpagngnnjjaaQd
import Derived.Test.YtggkpagngnnjjaaAmRead
import Derived.Test.YtggkpagngnnjjaaAmSev
import Derived.Test.YtggkpagngnnjjaaRows
import Derived.KernelRfl
set_option linter.unusedSimpArgs false
set_option linter.unusedVariables false
namespace Go.Proofs.Ytggkpagngnnjjaa
open Go Go.Am Go.Pol
open Go.ChangeShapes Go.WideShapes Go.ChangeAt Go.WideElems Go.RowKit
theorem own : ownKnob Try.prog.godebug = none := by kernel_rfl
theorem glo (c : Cx) : RelG G0 c := fun n cs h => by cases h
def pgT : Ty := .struct (.cons (.int .i64) (.cons (.int .i64) .nil))
def stT : Ty := .struct (.cons (.int .i64) (.cons (.int .i64) (.cons (.int .i64) (.cons (.slice pgT) .nil))))
theorem map_of {α : Type} {f : α → List AV} {q : α → Prop} : ∀ {els : List (List AV)}, (∀ el ∈ els, ∃ c, el = f c ∧ q c) → ∃ l : List α, els = l.map f ∧ ∀ c ∈ l, q c
  | [], _ => ⟨[], rfl, fun c hc => by cases hc⟩
  | el :: els, h => by
    obtain ⟨c, rfl, hq⟩ := h el (List.mem_cons_self ..)
    obtain ⟨l, rfl, hl⟩ := map_of fun e he => h e (List.mem_cons_of_mem _ he)
    exact ⟨c :: l, rfl, fun d hd => (List.mem_cons.1 hd).elim (fun e => e ▸ hq) (hl d)⟩
theorem wf_u8 {n : Int} (h : (Lit.int .u8 n).wf = true) : ∃ m : Nat, n = (m : Int) ∧ m < 256 := by
  simp [Lit.wf, IntKind.min, IntKind.max, IntKind.signed, IntKind.bits] at h
  exact ⟨n.toNat, by omega, by omega⟩
/-- A number of 64 bits. -/
def i64 (n : Int) : Prop := -9223372036854775808 ≤ n ∧ n ≤ 9223372036854775807
theorem shp_three {T U W : Ty} : ∀ {xss : List (List AV)}, ShpAll [T, U, W] xss → ∃ xs ys zs, xss = [xs, ys, zs] ∧ Shp T xs ∧ Shp U ys ∧ Shp W zs
  | [xs, ys, zs], h => ⟨xs, ys, zs, rfl, h.1, h.2.1, h.2.2.1⟩
  | [], h => h.elim
  | [_], h => h.2.elim
  | [_, _], h => h.2.2.elim
  | _ :: _ :: _ :: _ :: _, h => h.2.2.2.elim
end Go.Proofs.Ytggkpagngnnjjaa
