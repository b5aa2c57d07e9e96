/-
  LinksTypes: whatever the input, the law returns true, and each argument reads behind the call as it read before. No condition.
-/
import Derived.Test.YtkjimnhmiojcdaaTw
import Derived.Test.YtkjimnhmiojcdaaAmRead
import Derived.Test.YtkjimnhmiojcdaaAmSev
import Derived.Test.YtkjimnhmiojcdaaRows
import Derived.KernelRfl
set_option linter.unusedSimpArgs false
set_option linter.unusedVariables false
namespace Go.Proofs.Ytkjimnhmiojcdaa
open Go Go.Am Go.Pol
open Go.ChangeShapes Go.WideShapes Go.ChangeAt Go.WideElems Go.RowKit
theorem own : ownKnob Try.prog.godebug = none := by kernel_rfl
theorem glo (c : Cx) : RelG G0 c := fun n cs h => by cases h
/-! The arguments. -/
def callT : Ty := .struct (.cons (.int .u8) (.cons (.int .i64) (.cons (.int .i64) (.cons (.int .i64) (.cons .bool .nil)))))
def callsT : Ty := .slice callT
theorem map_of {α : Type} {f : α → List AV} {q : α → Prop} : ∀ {els : List (List AV)}, (∀ el ∈ els, ∃ c, el = f c ∧ q c) → ∃ l : List α, els = l.map f ∧ ∀ c ∈ l, q c
  | [], _ => ⟨[], rfl, fun c hc => by cases hc⟩
  | el :: els, h => by
    obtain ⟨c, rfl, hq⟩ := h el (List.mem_cons_self ..)
    obtain ⟨l, rfl, hl⟩ := map_of fun e he => h e (List.mem_cons_of_mem _ he)
    exact ⟨c :: l, rfl, fun d hd => (List.mem_cons.1 hd).elim (fun e => e ▸ hq) (hl d)⟩
theorem wf_u8 {n : Int} (h : (Lit.int .u8 n).wf = true) : ∃ m : Nat, n = (m : Int) ∧ m < 256 := by
  simp [Lit.wf, IntKind.min, IntKind.max, IntKind.signed, IntKind.bits] at h
  exact ⟨n.toNat, by omega, by omega⟩
theorem shp_call {xs : List AV} (h : Shp callT xs) : ∃ x : Cl, xs = callA x ∧ x.1 < 256 := by
  obtain ⟨ys, zs, rfl, ⟨a, rfl, ha⟩, us, vs, rfl, ⟨b, rfl, hb⟩, ws, ts, rfl, ⟨c, rfl, hc⟩, ps, qs, rfl, ⟨d, rfl, hd⟩, rs, ks, rfl, ⟨e, rfl⟩, rfl⟩ := h
  obtain ⟨a, rfl, ka⟩ := wf_u8 ha
  exact ⟨(a, b, c, d, e), rfl, ka⟩
theorem shp_calls {xs : List AV} (h : Shp callsT xs) : ∃ l : List Cl, xs = [callsA l] ∧ ∀ x ∈ l, x.1 < 256 := by
  obtain ⟨els, rfl, hl, he⟩ := h
  obtain ⟨l, rfl, hq⟩ := map_of (f := callA) (q := fun x => x.1 < 256) fun el hel => shp_call (he el hel)
  exact ⟨l, rfl, hq⟩
theorem shp_two {T U : Ty} : ∀ {xss : List (List AV)}, ShpAll [T, U] xss → ∃ xs ys, xss = [xs, ys] ∧ Shp T xs ∧ Shp U ys
  | [xs, ys], h => ⟨xs, ys, rfl, h.1, h.2.1⟩
  | [], h => h.elim
  | [_], h => h.2.elim
  | _ :: _ :: _ :: _, h => h.2.2.elim
theorem args_ok : tysOk Try.prog [.int .i64, callsT] [3, 22] = true := by kernel_rfl
set_option maxRecDepth 100000 in
theorem law_true {W : World} {xss : List (List AV)} {vs : Array Value} (hs : ShpAll [.int .i64, callsT] xss) (ha : argsR (baseCx W) (argVs [.int .i64, callsT] xss) vs) : Calls Try.prog 3 vs W fun e w' => e = .returned (.bool true) ∧ Below W.heap.size W w' := by
  obtain ⟨xs, ys, rfl, ⟨a, rfl, -⟩, h2⟩ := shp_two hs
  obtain ⟨l, rfl, hq⟩ := shp_calls h2
  have hk : PureC Try.prog G0 3 [.int .i64 a, callsA l] (.bool true) := by
    by_cases hf : a < 1 ∨ 60 < a ∨ 60 < l.length
    · exact types_far a l hf
    · obtain ⟨n, rfl⟩ := Int.eq_ofNat_of_zero_le (show 0 ≤ a by omega)
      exact types_good n l (by omega) (by omega) (by omega) hq
  exact calls_true hk (glo _) ha
set_option maxRecDepth 100000 in
theorem lifted (os : Os) (started : os.Started) (H : Type) (enc : TypeId × Value → H) :
    ReturnsInHanded {} Try.checked os 3 .any (Rows.linksTypesSpec.pre6 enc Try.prog Try.f3 Rows.linksTypesRow.domain false) (Rows.linksTypesSpec.post enc Try.prog Try.f3 false true false false) := by
  refine returnsInHanded_of_change (C := Try.checked) own started (by kernel_rfl) Try.func3
    (ChangeSpec.witness6 (enc := enc) (C := Try.checked) false ⟨#[], #[.int .i64 0, .slice none 0 0], []⟩ 8 (by kernel_rfl) (by kernel_rfl) (by kernel_rfl) (by kernel_rfl)) ?_
  intro W base args ds gs before hval0 hW hcnd _
  have hval : ∀ (j : Nat) t v, Try.f3.params[j]? = some t → args[j]? = some v → Value.okWide Try.prog W .any base t v := hval0
  have hW' := hW
  obtain ⟨p, q, hA0, hV, rfl, hfz, hnd⟩ := hW
  have hA : DataW.TrodAll enc Try.prog W 0 (fun _ => true) true Try.f3.params.toList args.toList ds p := hA0
  have hlt : ∀ x ∈ p, x.block < W.heap.size := fun x hx => hW'.lt x (List.mem_append_left _ hx)
  have hA1 := hA
  rw [Try.params3] at hA hval
  obtain ⟨rfl, rfl⟩ := trodVars_none hV
  have hA2 : DataW.TrodAll enc Try.prog W 0 (fun _ => true) true [3, 22] args.toList ds p := hA
  obtain ⟨v0, v1, d0, d1, p0, p1, rfl, rfl, rfl, h0, h1⟩ := trodAll_two hA2
  obtain ⟨xss, s1, s2, s3⟩ := args_rr (Ts := [.int .i64, callsT]) args_ok (fun j t v h h' => hval j t v (by simpa using h) (by simpa using h')) hA2
  clear hA0 hval0
  simp only [List.append_nil] at hW'
  refine (law_true s1 (W := W) (vs := #[v0, v1]) ⟨by simpa using s2, fun j x hx => by simpa using s3 j x hx⟩).mono fun e W' ⟨he, hg⟩ => ?_
  subst he
  exact ⟨_, rfl, post_below (pa := p0 ++ p1) (pv := []) hW' (fun _ _ _ => trodAll_mk1 (shut_bool Try.underlying4 _)) (fun sp hsp => args_stay (by kernel_rfl) hg (by
      rw [Try.params3]
      intro t ht
      have hall : ([3, 22].all fun t => Try.prog.readableRec t && decide (t < Try.prog.types.size)) = true := by kernel_rfl
      have := List.all_eq_true.1 hall t (by simpa using ht)
      simp only [Bool.and_eq_true, decide_eq_true_eq] at this
      exact this) hA1 hlt hsp) (fun _ _ => rfl) (by simp)
    hg (ok_one (by kernel_rfl) rfl (okWide_bool_mk Try.underlying4 _))⟩
theorem linksTypes_holds : Rows.LinksTypesSaid :=
  OpenClaim.holds_of_wide 3 Try.f3 rfl rfl rfl rfl rfl rfl rfl ⟨rfl, rfl, rfl, rfl, rfl⟩ rfl rfl rfl rfl rfl (by kernel_rfl) Try.func3 (by kernel_rfl)
    (of_decide_eq_true (by kernel_rfl)) (by unfold Func.isWrapper; first | (rw [if_pos (by decide +kernel)]; kernel_rfl) | (rw [if_neg (by decide +kernel)]; exact ⟨rfl, rfl⟩))
    (fun os started H enc _ => lifted os started H enc)
end Go.Proofs.Ytkjimnhmiojcdaa
