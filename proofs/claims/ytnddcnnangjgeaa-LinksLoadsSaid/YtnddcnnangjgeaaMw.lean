/-
  LinksLoads: whatever the input, the law returns true, and each argument reads behind the call as it read before. No condition.
-/
import Derived.Test.YtnddcnnangjgeaaMf
import Derived.Test.YtnddcnnangjgeaaAmRead
import Derived.Test.YtnddcnnangjgeaaAmRow
import Derived.Test.YtnddcnnangjgeaaRows
import Derived.KernelRfl
set_option linter.unusedSimpArgs false
set_option linter.unusedVariables false
namespace Go.Proofs.Ytnddcnnangjgeaa
open Go Go.Am Go.Pol
open Go.ChangeShapes Go.WideShapes Go.ChangeAt Go.WideElems Go.RowKit
theorem own : ownKnob Try.prog.godebug = none := by kernel_rfl
theorem glo (c : Cx) : RelG G0 c := fun n cs h => by cases h
/-! The arguments. -/
def stT : Ty := .struct (.cons (.slice (.int .i64)) (.cons (.slice (.int .i64)) (.cons (.slice (.int .i64)) (.cons (.slice (.int .i64)) (.cons (.slice (.int .i64)) (.cons (.slice (.int .i64)) .nil))))))
theorem map_of {α : Type} {f : α → List AV} {q : α → Prop} : ∀ {els : List (List AV)}, (∀ el ∈ els, ∃ c, el = f c ∧ q c) → ∃ l : List α, els = l.map f ∧ ∀ c ∈ l, q c
  | [], _ => ⟨[], rfl, fun c hc => by cases hc⟩
  | el :: els, h => by
    obtain ⟨c, rfl, hq⟩ := h el (List.mem_cons_self ..)
    obtain ⟨l, rfl, hl⟩ := map_of fun e he => h e (List.mem_cons_of_mem _ he)
    exact ⟨c :: l, rfl, fun d hd => (List.mem_cons.1 hd).elim (fun e => e ▸ hq) (hl d)⟩
theorem ints_of (l : List Int) : .isl (l.map fun x => [AV.int .i64 x]) = intsL l.length fun i => nth 0 l i := by
  unfold intsL
  congr 1
  refine List.ext_getElem (by simp) fun j h1 h2 => ?_
  have hj : j < l.length := by simpa using h1
  simp only [List.getElem_map, List.getElem_range]
  rw [nth_get hj]
theorem shp_ints {xs : List AV} (h : Shp (.slice (.int .i64)) xs) : ∃ (n : Nat) (F : Nat → Int), xs = [intsL n F] := by
  obtain ⟨els, rfl, hl, he⟩ := h
  obtain ⟨l, rfl, -⟩ := map_of (f := fun x : Int => [AV.int .i64 x]) (q := fun _ => True) fun el hel => by
    obtain ⟨x, rfl, -⟩ := he el hel
    exact ⟨x, rfl, trivial⟩
  exact ⟨l.length, fun i => nth 0 l i, by rw [ints_of]⟩
theorem shp_state {xs : List AV} (h : Shp stT xs) : ∃ a n b c m d V L N P A B, xs = [intsL a V, intsL n L, intsL b N, intsL c P, intsL m A, intsL d B] := by
  obtain ⟨x1, y1, rfl, h1, x2, y2, rfl, h2, x3, y3, rfl, h3, x4, y4, rfl, h4, x5, y5, rfl, h5, x6, y6, rfl, h6, rfl⟩ := h
  obtain ⟨a, V, rfl⟩ := shp_ints h1
  obtain ⟨n, L, rfl⟩ := shp_ints h2
  obtain ⟨b, N, rfl⟩ := shp_ints h3
  obtain ⟨c, P, rfl⟩ := shp_ints h4
  obtain ⟨m, A, rfl⟩ := shp_ints h5
  obtain ⟨d, B, rfl⟩ := shp_ints h6
  exact ⟨a, n, b, c, m, d, V, L, N, P, A, B, rfl⟩
theorem shp_one {T : Ty} : ∀ {xss : List (List AV)}, ShpAll [T] xss → ∃ xs, xss = [xs] ∧ Shp T xs
  | [xs], h => ⟨xs, rfl, h.1⟩
  | [], h => h.elim
  | _ :: _ :: _, h => h.2.elim
/-- The law, whatever the state. -/
theorem loads_all (a n b c m d : Nat) (V L N P A B : Nat → Int) : PureC Try.prog G0 4 [stateG a n b c m d V L N P A B] (.bool true) := by
  by_cases hf : (200 < n ∧ n ≤ 2000) ∨ 2100 < n ∨ 2100 < a ∨ 2100 < b ∨ 2100 < c ∨ 100 < m ∨ 100 < d
  · exact loads_far hf
  by_cases hz : n < 1 ∨ 2000 < n ∨ m < 1 ∨ 64 < m ∨ a ≠ n ∨ b ≠ n ∨ c ≠ n ∨ d ≠ m
  · exact loads_bad hf (k_check_no hz) (r_check_no hz)
  obtain ⟨rfl, rfl, rfl, rfl⟩ : a = n ∧ b = n ∧ c = n ∧ d = m := ⟨by omega, by omega, by omega, by omega⟩
  obtain ⟨s1, s2, s3, hs⟩ := stops c d L N P A B
  have k1 := k_check (V := V) hs (by omega) (by omega) (by omega) (by omega)
  have k2 := r_check (V := V) hs (by omega) (by omega) (by omega) (by omega)
  by_cases hok : s1 = c ∧ s2 = d ∧ s3 = c
  · obtain ⟨e1, e2, e3⟩ := hok
    have hfine : saysA c d s1 s2 s3 = fineA := by rw [saysA, if_neg (by omega), if_neg (by omega), if_neg (by omega)]
    rw [hfine] at k1 k2
    exact loads_good (st_of (fun j hj => hs.ok1 j (by omega)) (fun j hj => hs.ok2 j (by omega)) (fun j hj => hs.ok3 j (by omega))) (fun _ _ => rfl) (by omega) (by omega) (by omega) (by omega) k1 k2
  · have h1 := hs.le1
    have h2 := hs.le2
    have h3 := hs.le3
    have hw : ∃ w i, saysA c d s1 s2 s3 = wrongA w i := by
      unfold saysA
      by_cases e1 : s1 < c
      · exact ⟨_, _, if_pos e1⟩
      · rw [if_neg e1]
        by_cases e2 : s2 < d
        · exact ⟨_, _, if_pos e2⟩
        · rw [if_neg e2]
          exact ⟨_, _, if_pos (by omega)⟩
    obtain ⟨w, i, hw⟩ := hw
    rw [hw] at k1 k2
    exact loads_bad hf k1 k2
theorem args_ok : tysOk Try.prog [stT] [34] = true := by kernel_rfl
set_option maxRecDepth 100000 in
theorem law_true {W : World} {xss : List (List AV)} {vs : Array Value} (hs : ShpAll [stT] xss) (ha : argsR (baseCx W) (argVs [stT] xss) vs) : Calls Try.prog 4 vs W fun e w' => e = .returned (.bool true) ∧ Below W.heap.size W w' := by
  obtain ⟨xs, rfl, h1⟩ := shp_one hs
  obtain ⟨a, n, b, c, m, d, V, L, N, P, A, B, rfl⟩ := shp_state h1
  have hk := loads_all a n b c m d V L N P A B
  exact calls_true hk (glo _) ha
set_option maxRecDepth 100000 in
theorem lifted (os : Os) (started : os.Started) (H : Type) (enc : TypeId × Value → H) :
    ReturnsInHanded {} Try.checked os 4 .any (Rows.linksLoadsSpec.pre6 enc Try.prog Try.f4 Rows.linksLoadsRow.domain false) (Rows.linksLoadsSpec.post enc Try.prog Try.f4 false true false false) := by
  refine returnsInHanded_of_change (C := Try.checked) own started (by kernel_rfl) Try.func4
    (ChangeSpec.witness6 (enc := enc) (C := Try.checked) false ⟨#[], #[.agg #[.slice none 0 0, .slice none 0 0, .slice none 0 0, .slice none 0 0, .slice none 0 0, .slice none 0 0]], []⟩ 8 (by kernel_rfl) (by kernel_rfl) (by kernel_rfl) (by kernel_rfl)) ?_
  intro W base args ds gs before hval0 hW hcnd _
  have hval : ∀ (j : Nat) t v, Try.f4.params[j]? = some t → args[j]? = some v → Value.okWide Try.prog W .any base t v := hval0
  have hW' := hW
  obtain ⟨p, q, hA0, hV, rfl, hfz, hnd⟩ := hW
  have hA : DataW.TrodAll enc Try.prog W 0 (fun _ => true) true Try.f4.params.toList args.toList ds p := hA0
  have hlt : ∀ x ∈ p, x.block < W.heap.size := fun x hx => hW'.lt x (List.mem_append_left _ hx)
  have hA1 := hA
  rw [Try.params4] at hA hval
  obtain ⟨rfl, rfl⟩ := trodVars_none hV
  have hA2 : DataW.TrodAll enc Try.prog W 0 (fun _ => true) true [34] args.toList ds p := hA
  obtain ⟨v0, d0, rfl, rfl, h0⟩ := trodAll_one hA2
  obtain ⟨xss, s1, s2, s3⟩ := args_rr (Ts := [stT]) args_ok (fun j t v h h' => hval j t v (by simpa using h) (by simpa using h')) hA2
  clear hA0 hval0
  simp only [List.append_nil] at hW'
  refine (law_true s1 (W := W) (vs := #[v0]) ⟨by simpa using s2, fun j x hx => by simpa using s3 j x hx⟩).mono fun e W' ⟨he, hg⟩ => ?_
  subst he
  exact ⟨_, rfl, post_below (pa := p) (pv := []) hW' (fun _ _ _ => trodAll_mk1 (shut_bool Try.underlying4 _)) (fun sp hsp => args_stay (by kernel_rfl) hg (by
      rw [Try.params4]
      intro t ht
      have hall : ([34].all fun t => Try.prog.readableRec t && decide (t < Try.prog.types.size)) = true := by kernel_rfl
      have := List.all_eq_true.1 hall t (by simpa using ht)
      simp only [Bool.and_eq_true, decide_eq_true_eq] at this
      exact this) hA1 hlt hsp) (fun _ _ => rfl) (by simp)
    hg (ok_one (by kernel_rfl) rfl (okWide_bool_mk Try.underlying4 _))⟩
theorem linksLoads_holds : Rows.LinksLoadsSaid :=
  OpenClaim.holds_of_wide 4 Try.f4 rfl rfl rfl rfl rfl rfl rfl ⟨rfl, rfl, rfl, rfl, rfl⟩ rfl rfl rfl rfl rfl (by kernel_rfl) Try.func4 (by kernel_rfl)
    (of_decide_eq_true (by kernel_rfl)) (by unfold Func.isWrapper; first | (rw [if_pos (by decide +kernel)]; kernel_rfl) | (rw [if_neg (by decide +kernel)]; exact ⟨rfl, rfl⟩))
    (fun os started H enc _ => lifted os started H enc)
end Go.Proofs.Ytnddcnnangjgeaa
