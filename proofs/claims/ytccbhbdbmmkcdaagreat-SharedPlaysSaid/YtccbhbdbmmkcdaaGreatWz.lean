/-
 SharedPlays: whatever the input, the law returns true, and each argument reads behind the call as it read before. No condition.
-/
import Derived.Test.YtccbhbdbmmkcdaaGreatDs
import Derived.Test.YtccbhbdbmmkcdaaGreatVs
set_option linter.unusedSimpArgs false
set_option linter.unusedVariables false
namespace Go.Proofs.YtccbhbdbmmkcdaaGreat
open Go Go.Am Go.Pol
open Go.ChangeShapes Go.WideShapes Go.ChangeAt Go.WideElems Go.RowKit
def callT : Ty := .struct (.cons (.int .u8) (.cons vwT (.cons (.int .i64) (.cons (.int .i64) (.cons (.int .u8) .nil)))))
theorem shp_call {xs : List AV} (h : Shp callT xs) : ∃ x : Sh.Cl, xs = Sh.clE x ∧ 0 ≤ x.w := by
 obtain ⟨y1, z1, rfl, ⟨a, rfl, ha⟩, y2, z2, rfl, hv, y3, z3, rfl, ⟨c, rfl, hc⟩, y4, z4, rfl, ⟨d, rfl, hd⟩, y5, z5, rfl, ⟨e, rfl, he⟩, rfl⟩ := h
 obtain ⟨v, rfl, -⟩ := shp_vw hv
 obtain ⟨n, rfl, hn⟩ := wf_u8 ha
 exact ⟨⟨(n : Nat), v, c, d, e⟩, rfl, Int.natCast_nonneg n⟩
theorem args_ok : tysOk Tryz.prog [.slice (.int .i64), .slice callT] [22, 23] = true := by kernel_rfl
set_option maxRecDepth 100000 in
theorem law_true {W : World} {xss : List (List AV)} {vs : Array Value} (hs : ShpAll [.slice (.int .i64), .slice callT] xss) (ha : argsR (baseCx W) (argVs [.slice (.int .i64), .slice callT] xss) vs) : Calls Tryz.prog 3 vs W fun e w' => e = .returned (.bool true) ∧ Below W.heap.size W w' := by
 obtain ⟨xs, ys, rfl, h1, h2⟩ := shp_two hs
 obtain ⟨els, rfl, hl, he⟩ := h1
 obtain ⟨fs, rfl, -⟩ := map_of (f := Sh.int1) (q := fun _ => True) fun el hel => by
  obtain ⟨n, rfl, hn⟩ := he el hel
  exact ⟨n, rfl, trivial⟩
 obtain ⟨els2, rfl, hl2, he2⟩ := h2
 obtain ⟨cl, rfl, hw⟩ := map_of (f := Sh.clE) (q := fun x => 0 ≤ x.w) fun el hel => shp_call (he2 el hel)
 have hk : PureC Tryz.prog G0 3 [.isl (fs.map Sh.int1), .isl (cl.map Sh.clE)] (.bool true) := (Sh.k_plays hw).out
 exact calls_true hk (glo _) ha
set_option maxRecDepth 100000 in
theorem lifted (os : Os) (started : os.Started) (H : Type) (enc : TypeId × Value → H) :
  ReturnsInHanded {} Tryz.checked os 3 .any (Rows.sharedPlaysSpec.pre6 enc Tryz.prog Tryz.f3 Rows.sharedPlaysRow.domain false) (Rows.sharedPlaysSpec.post enc Tryz.prog Tryz.f3 false true false false) := by
 refine returnsInHanded_of_change (C := Tryz.checked) own started (by kernel_rfl) Tryz.func3
  (ChangeSpec.witness6 (enc := enc) (C := Tryz.checked) false ⟨#[], #[.slice none 0 0, .slice none 0 0], []⟩ 8 (by kernel_rfl) (by kernel_rfl) (by kernel_rfl) (by kernel_rfl)) ?_
 intro W base args ds gs before hval0 hW hcnd _
 have hval : ∀ (j : Nat) t v, Tryz.f3.params[j]? = some t → args[j]? = some v → Value.okWide Tryz.prog W .any base t v := hval0
 have hW' := hW
 obtain ⟨p, q, hA0, hV, rfl, hfz, hnd⟩ := hW
 have hA : DataW.TrodAll enc Tryz.prog W 0 (fun _ => true) true Tryz.f3.params.toList args.toList ds p := hA0
 have hlt : ∀ x ∈ p, x.block < W.heap.size := fun x hx => hW'.lt x (List.mem_append_left _ hx)
 have hA1 := hA
 rw [Tryz.params3] at hA hval
 obtain ⟨rfl, rfl⟩ := trodVars_none hV
 have hA2 : DataW.TrodAll enc Tryz.prog W 0 (fun _ => true) true [22, 23] args.toList ds p := hA
 obtain ⟨v0, v1, d0, d1, p0, p1, rfl, rfl, rfl, h0, h1⟩ := trodAll_two hA2
 obtain ⟨xss, s1, s2, s3⟩ := args_rr (Ts := [.slice (.int .i64), .slice callT]) args_ok (fun j t v h h' => hval j t v (by simpa using h) (by simpa using h')) hA2
 clear hA0 hval0
 simp only [List.append_nil] at hW'
 refine (law_true s1 (W := W) (vs := #[v0, v1]) ⟨by simpa using s2, fun j x hx => by simpa using s3 j x hx⟩).mono fun e W' ⟨he, hg⟩ => ?_
 subst he
 exact ⟨_, rfl, post_below (pa := (p0 ++ p1)) (pv := []) hW' (fun _ _ _ => trodAll_mk1 (shut_bool Tryz.underlying4 _)) (fun sp hsp => args_stay (by kernel_rfl) hg (by
   rw [Tryz.params3]
   intro t ht
   have hall : ([22, 23].all fun t => Tryz.prog.readableRec t && decide (t < Tryz.prog.types.size)) = true := by kernel_rfl
   have := List.all_eq_true.1 hall t (by simpa using ht)
   simp only [Bool.and_eq_true, decide_eq_true_eq] at this
   exact this) hA1 hlt hsp) (fun _ _ => rfl) (by simp)
  hg (ok_one (by kernel_rfl) rfl (okWide_bool_mk Tryz.underlying4 _))⟩
theorem sharedPlays_holds : Rows.SharedPlaysSaid :=
 OpenClaim.holds_of_wide 3 Tryz.f3 rfl rfl rfl rfl rfl rfl rfl ⟨rfl, rfl, rfl, rfl, rfl⟩ rfl rfl rfl rfl rfl (by kernel_rfl) Tryz.func3 (by kernel_rfl)
  (of_decide_eq_true (by kernel_rfl)) (by unfold Func.isWrapper; first | (rw [if_pos (by decide +kernel)]; kernel_rfl) | (rw [if_neg (by decide +kernel)]; exact ⟨rfl, rfl⟩))
  (fun os started H enc _ => lifted os started H enc)
end Go.Proofs.YtccbhbdbmmkcdaaGreat
