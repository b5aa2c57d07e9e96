/-
  VmpageLoads: whatever the input, the law returns true, and each argument reads behind the call as it read before. No condition.
-/
import Derived.Test.YtjlbfijjfjogiaaWg
import Derived.Test.YtjlbfijjfjogiaaVa
set_option linter.unusedSimpArgs false
set_option linter.unusedVariables false
namespace Go.Proofs.Ytjlbfijjfjogiaa
open Go Go.Am Go.Pol
open Go.ChangeShapes Go.WideShapes Go.ChangeAt Go.WideElems Go.RowKit
def rnT : Ty := .struct (.cons (.int .i64) (.cons (.int .i64) (.cons (.int .i64) .nil)))
def dtT : Ty := .struct (.cons (.int .i64) (.cons (.arr .u8 64) .nil))
def rfT : Ty := .struct (.cons planT (.cons (.arr .i64 7) (.cons (.arr .i64 7) .nil)))
def vmT : Ty := .struct (.cons (.slice rnT) (.cons (.slice (.int .i64)) (.cons (.slice dtT) (.cons rfT .nil))))
theorem shp_rn {xs : List AV} (h : Shp rnT xs) : ∃ r : Rn, xs = rnA r ∧ (W64 r.p ∧ W64 r.n ∧ W64 r.k) := by
  obtain ⟨y1, z1, rfl, ⟨a, rfl, ha⟩, y2, z2, rfl, ⟨b, rfl, hb⟩, y3, z3, rfl, ⟨c, rfl, hc⟩, rfl⟩ := h
  exact ⟨⟨a, b, c⟩, rfl, wf_i64 ha, wf_i64 hb, wf_i64 hc⟩
theorem byA_of {l : List Int} (hl : l.length = 64) : l.map (AV.int .u8) = byA fun j => l.getD j 0 := by
  unfold byA
  refine List.ext_getElem (by simp [hl]) fun i h1 h2 => ?_
  simp only [List.length_map] at h1
  simp only [List.getElem_map, List.getElem_range]
  rw [List.getD_eq_getElem?_getD, List.getElem?_eq_getElem h1]; rfl
theorem shp_dt {xs : List AV} (h : Shp dtT xs) : ∃ d : Dt, xs = dtA d ∧ ∀ j, 64 ≤ j → d.b j = 0 := by
  obtain ⟨y1, z1, rfl, ⟨p, rfl, -⟩, y2, z2, rfl, ⟨l, rfl, hl, -⟩, rfl⟩ := h
  refine ⟨⟨p, fun j => l.getD j 0⟩, ?_, fun j hj => ?_⟩
  · rw [byA_of hl]; simp [dtA]
  · show l.getD j 0 = 0
    rw [List.getD_eq_getElem?_getD, List.getElem?_eq_none (by omega)]; rfl
theorem shp_7 {xs : List AV} (h : Shp (.arr .i64 7) xs) : ∃ C : Nat → Int, xs = arr7 C := by
  obtain ⟨l, rfl, hl, -⟩ := h
  match l, hl with
  | [a, b, c, d, e, f, g], _ => exact ⟨fun i => [a, b, c, d, e, f, g].getD i 0, rfl⟩
theorem shp_vm {xs : List AV} (h : Shp vmT xs) : ∃ R U D l C H, xs = vsA ⟨R, U, D, l, C, H⟩ ∧ (⟨R, U, D, l, C, H⟩ : Vs).cn ∧ ∀ r, r ∈ R → W64 r.p ∧ W64 r.n ∧ W64 r.k := by
  obtain ⟨y1, z1, rfl, ⟨e1, rfl, -, h1⟩, y2, z2, rfl, ⟨e2, rfl, -, h2⟩, y3, z3, rfl, ⟨e3, rfl, -, h3⟩, y4, z4, rfl, h4, rfl⟩ := h
  obtain ⟨y5, z5, rfl, h5, y6, z6, rfl, h6, y7, z7, rfl, h7, rfl⟩ := h4
  obtain ⟨R, rfl, hR⟩ := map_of (f := rnA) (q := fun r : Rn => W64 r.p ∧ W64 r.n ∧ W64 r.k) fun el hel => shp_rn (h1 el hel)
  obtain ⟨U, rfl, -⟩ := map_of (f := inA) (q := fun _ => True) fun el hel => by
    obtain ⟨u, rfl, -⟩ := h2 el hel
    exact ⟨u, rfl, trivial⟩
  obtain ⟨D, rfl, hD⟩ := map_of (f := dtA) (q := fun d : Dt => ∀ j, 64 ≤ j → d.b j = 0) fun el hel => shp_dt (h3 el hel)
  obtain ⟨l, rfl⟩ := shp_plan h5
  obtain ⟨C, rfl⟩ := shp_7 h6
  obtain ⟨H, rfl⟩ := shp_7 h7
  exact ⟨R, U, D, l, C, H, rfl, hD, hR⟩
theorem args_ok : tysOk Try.prog [vmT] [32] = true := by kernel_rfl
set_option maxRecDepth 100000 in
theorem law_true {W : World} {xss : List (List AV)} {vs : Array Value} (hs : ShpAll [vmT] xss) (ha : argsR (baseCx W) (argVs [vmT] xss) vs) : Calls Try.prog 3 vs W fun e w' => e = .returned (.bool true) ∧ Below W.heap.size W w' := by
  obtain ⟨xs, rfl, h1⟩ := shp_one hs
  obtain ⟨R, U, D, l, C, H, rfl, hcn, hwf⟩ := shp_vm h1
  have hk : PureC Try.prog G0 3 [.agg (vsA ⟨R, U, D, l, C, H⟩)] (.bool true) := (k_loads hcn hwf).out
  exact calls_true hk (glo _) ha
set_option maxRecDepth 100000 in
theorem lifted (os : Os) (started : os.Started) (H : Type) (enc : TypeId × Value → H) :
    ReturnsInHanded {} Try.checked os 3 .any (Rows.vmpageLoadsSpec.pre6 enc Try.prog Try.f3 Rows.vmpageLoadsRow.domain false) (Rows.vmpageLoadsSpec.post enc Try.prog Try.f3 false true false false) := by
  refine returnsInHanded_of_change (C := Try.checked) own started (by kernel_rfl) Try.func3
    (ChangeSpec.witness6 (enc := enc) (C := Try.checked) false ⟨#[], #[.agg #[.slice none 0 0, .slice none 0 0, .slice none 0 0, .slice none 0 0, .int .i64 0, .int .i64 0, .int .i64 0, .int .i64 0, .int .i64 0, .int .i64 0, .int .i64 0, .int .i64 0, .int .i64 0, .int .i64 0, .int .i64 0, .int .i64 0, .int .i64 0, .int .i64 0]], []⟩ 8 (by kernel_rfl) (by kernel_rfl) (by kernel_rfl) (by kernel_rfl)) ?_
  intro W base args ds gs before hval0 hW hcnd _
  have hval : ∀ (j : Nat) t v, Try.f3.params[j]? = some t → args[j]? = some v → Value.okWide Try.prog W .any base t v := hval0
  have hW' := hW
  obtain ⟨p, q, hA0, hV, rfl, hfz, hnd⟩ := hW
  have hA : DataW.TrodAll enc Try.prog W 0 (fun _ => true) true Try.f3.params.toList args.toList ds p := hA0
  have hlt : ∀ x ∈ p, x.block < W.heap.size := fun x hx => hW'.lt x (List.mem_append_left _ hx)
  have hA1 := hA
  rw [Try.params3] at hA hval
  obtain ⟨rfl, rfl⟩ := trodVars_none hV
  have hA2 : DataW.TrodAll enc Try.prog W 0 (fun _ => true) true [32] args.toList ds p := hA
  obtain ⟨v0, d0, rfl, rfl, h0⟩ := trodAll_one hA2
  obtain ⟨xss, s1, s2, s3⟩ := args_rr (Ts := [vmT]) args_ok (fun j t v h h' => hval j t v (by simpa using h) (by simpa using h')) hA2
  clear hA0 hval0
  simp only [List.append_nil] at hW'
  refine (law_true s1 (W := W) (vs := #[v0]) ⟨by simpa using s2, fun j x hx => by simpa using s3 j x hx⟩).mono fun e W' ⟨he, hg⟩ => ?_
  subst he
  exact ⟨_, rfl, post_below (pa := p) (pv := []) hW' (fun _ _ _ => trodAll_mk1 (shut_bool Try.underlying4 _)) (fun sp hsp => args_stay (by kernel_rfl) hg (by
      rw [Try.params3]
      intro t ht
      have hall : ([32].all fun t => Try.prog.readableRec t && decide (t < Try.prog.types.size)) = true := by kernel_rfl
      have := List.all_eq_true.1 hall t (by simpa using ht)
      simp only [Bool.and_eq_true, decide_eq_true_eq] at this
      exact this) hA1 hlt hsp) (fun _ _ => rfl) (by simp)
    hg (ok_one (by kernel_rfl) rfl (okWide_bool_mk Try.underlying4 _))⟩
theorem vmpageLoads_holds : Rows.VmpageLoadsSaid :=
  OpenClaim.holds_of_wide 3 Try.f3 rfl rfl rfl rfl rfl rfl rfl ⟨rfl, rfl, rfl, rfl, rfl⟩ rfl rfl rfl rfl rfl (by kernel_rfl) Try.func3 (by kernel_rfl)
    (of_decide_eq_true (by kernel_rfl)) (by unfold Func.isWrapper; first | (rw [if_pos (by decide +kernel)]; kernel_rfl) | (rw [if_neg (by decide +kernel)]; exact ⟨rfl, rfl⟩))
    (fun os started H enc _ => lifted os started H enc)
end Go.Proofs.Ytjlbfijjfjogiaa
