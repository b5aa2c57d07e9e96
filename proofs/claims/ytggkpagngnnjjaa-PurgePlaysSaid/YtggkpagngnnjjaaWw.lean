/-
  PurgePlays: whatever the input, the law returns true, and each argument reads behind the call as it read before. No condition.
-/
import Derived.Test.YtggkpagngnnjjaaWe
import Derived.Test.YtggkpagngnnjjaaPv
set_option linter.unusedSimpArgs false
set_option linter.unusedVariables false
namespace Go.Proofs.Ytggkpagngnnjjaa
open Go Go.Am Go.Pol
open Go.ChangeShapes Go.WideShapes Go.ChangeAt Go.WideElems Go.RowKit
def callT : Ty := .struct (.cons (.int .u8) (.cons (.int .i64) (.cons (.int .i64) (.cons (.int .i64) (.cons .bool .nil)))))
theorem shp_calls {xs : List AV} (h : Shp (.slice callT) xs) : ∃ l : List Cl, xs = [.isl (l.map clA)] ∧ ∀ c ∈ l, c.w < 256 := by
  obtain ⟨els, rfl, hl, he⟩ := h
  obtain ⟨l, rfl, hq⟩ := map_of (f := clA) (q := fun c => c.w < 256) fun el hel => by
    obtain ⟨y1, z1, rfl, ⟨a, rfl, ha⟩, y2, z2, rfl, ⟨b, rfl, hb⟩, y3, z3, rfl, ⟨c, rfl, hc⟩, y4, z4, rfl, ⟨d, rfl, hd⟩, y5, z5, rfl, ⟨e, rfl⟩, rfl⟩ := he el hel
    obtain ⟨m, rfl, hm⟩ := wf_u8 ha
    exact ⟨⟨m, b, c, d, e⟩, rfl, hm⟩
  exact ⟨l, rfl, hq⟩
theorem args_ok : tysOk Try.prog [.int .i64, .int .i64, .slice callT] [2, 3, 66] = true := by kernel_rfl
set_option maxRecDepth 100000 in
theorem law_true {W : World} {xss : List (List AV)} {vs : Array Value} (hs : ShpAll [.int .i64, .int .i64, .slice callT] xss) (ha : argsR (baseCx W) (argVs [.int .i64, .int .i64, .slice callT] xss) vs) : Calls Try.prog 9 vs W fun e w' => e = .returned (.bool true) ∧ Below W.heap.size W w' := by
  obtain ⟨xs, ys, zs, rfl, h1, h2, h3⟩ := shp_three hs
  obtain ⟨age, rfl, -⟩ := h1
  obtain ⟨keep, rfl, -⟩ := h2
  obtain ⟨l, rfl, h8⟩ := shp_calls h3
  have hk : PureC Try.prog G0 9 [.int .i64 age, .int .i64 keep, .isl (l.map clA)] (.bool true) := by
    by_cases hf : 100 < l.length
    · exact plays_far hf
    · by_cases hb : badPo age keep
      · exact plays_bad (by omega) hb
      · exact plays_good (by omega) h8 hb
  exact calls_true hk (glo _) ha
set_option maxRecDepth 100000 in
theorem lifted (os : Os) (started : os.Started) (H : Type) (enc : TypeId × Value → H) :
    ReturnsInHanded {} Try.checked os 9 .any (Rows.purgePlaysSpec.pre6 enc Try.prog Try.f9 Rows.purgePlaysRow.domain false) (Rows.purgePlaysSpec.post enc Try.prog Try.f9 false true false false) := by
  refine returnsInHanded_of_change (C := Try.checked) own started (by kernel_rfl) Try.func9
    (ChangeSpec.witness6 (enc := enc) (C := Try.checked) false ⟨#[], #[.int .i64 0, .int .i64 0, .slice none 0 0], []⟩ 8 (by kernel_rfl) (by kernel_rfl) (by kernel_rfl) (by kernel_rfl)) ?_
  intro W base args ds gs before hval0 hW hcnd _
  have hval : ∀ (j : Nat) t v, Try.f9.params[j]? = some t → args[j]? = some v → Value.okWide Try.prog W .any base t v := hval0
  have hW' := hW
  obtain ⟨p, q, hA0, hV, rfl, hfz, hnd⟩ := hW
  have hA : DataW.TrodAll enc Try.prog W 0 (fun _ => true) true Try.f9.params.toList args.toList ds p := hA0
  have hlt : ∀ x ∈ p, x.block < W.heap.size := fun x hx => hW'.lt x (List.mem_append_left _ hx)
  have hA1 := hA
  rw [Try.params9] at hA hval
  obtain ⟨rfl, rfl⟩ := trodVars_none hV
  have hA2 : DataW.TrodAll enc Try.prog W 0 (fun _ => true) true [2, 3, 66] args.toList ds p := hA
  obtain ⟨v0, v1, v2, d0, d1, d2, p0, p1, p2, rfl, rfl, rfl, h0, h1, h2⟩ := trodAll_three hA2
  obtain ⟨xss, s1, s2, s3⟩ := args_rr (Ts := [.int .i64, .int .i64, .slice callT]) args_ok (fun j t v h h' => hval j t v (by simpa using h) (by simpa using h')) hA2
  clear hA0 hval0
  simp only [List.append_nil] at hW'
  refine (law_true s1 (W := W) (vs := #[v0, v1, v2]) ⟨by simpa using s2, fun j x hx => by simpa using s3 j x hx⟩).mono fun e W' ⟨he, hg⟩ => ?_
  subst he
  exact ⟨_, rfl, post_below (pa := (p0 ++ p1 ++ p2)) (pv := []) hW' (fun _ _ _ => trodAll_mk1 (shut_bool Try.underlying4 _)) (fun sp hsp => args_stay (by kernel_rfl) hg (by
      rw [Try.params9]
      intro t ht
      have hall : ([2, 3, 66].all fun t => Try.prog.readableRec t && decide (t < Try.prog.types.size)) = true := by kernel_rfl
      have := List.all_eq_true.1 hall t (by simpa using ht)
      simp only [Bool.and_eq_true, decide_eq_true_eq] at this
      exact this) hA1 hlt hsp) (fun _ _ => rfl) (by simp)
    hg (ok_one (by kernel_rfl) rfl (okWide_bool_mk Try.underlying4 _))⟩
theorem purgePlays_holds : Rows.PurgePlaysSaid :=
  OpenClaim.holds_of_wide 9 Try.f9 rfl rfl rfl rfl rfl rfl rfl ⟨rfl, rfl, rfl, rfl, rfl⟩ rfl rfl rfl rfl rfl (by kernel_rfl) Try.func9 (by kernel_rfl)
    (of_decide_eq_true (by kernel_rfl)) (by unfold Func.isWrapper; first | (rw [if_pos (by decide +kernel)]; kernel_rfl) | (rw [if_neg (by decide +kernel)]; exact ⟨rfl, rfl⟩))
    (fun os started H enc _ => lifted os started H enc)
end Go.Proofs.Ytggkpagngnnjjaa
