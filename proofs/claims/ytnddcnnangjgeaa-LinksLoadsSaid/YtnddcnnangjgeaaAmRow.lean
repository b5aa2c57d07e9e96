/-
  From a pure contract to a row: what a call reads, as abstract values; that it leaves everything as it was. No program in sight.
-/
import Derived.Test.YtnddcnnangjgeaaAmTab
import Derived.ProofKit
import Derived.OpenVars
set_option linter.unusedSimpArgs false
set_option linter.unusedVariables false
namespace Go.Am
open Go.ChangeShapes Go.WideShapes Go.ChangeAt Go.RowKit
section
variable {P : Program} {G : Gl}
/-- Nothing has a name, nothing is hidden: all that is there stays. -/
def baseCx (W : World) : Cx := { U := fun _ => False, at_ := fun _ => none, mu := fun _ => (0, 0), w := W, hid := fun _ => False }
theorem base_froz {W : World} {b : Nat} (h : b < W.heap.size) : (baseCx W).Froz b := ⟨h, fun _ _ h => (by cases h), fun h => h⟩
theorem calls_pure {f : Nat} {args : List AV} {r : AV} (hp : PureC P G f args r) {W : World} {vs : Array Value} (hG : RelG G (baseCx W)) (ha : argsR (baseCx W) args vs) : Calls P f vs W fun e w' => ∃ v c', e = .returned v ∧ c'.w = w' ∧ RR c' r v ∧ Below W.heap.size W w' := by
  have hR : Rel P (baseCx W) := ⟨fun _ _ h => (by cases h), fun _ _ _ _ h => (by cases h), fun _ _ h => (by cases h), ⟨0, fun _ h => h.elim⟩, fun _ _ h => (by cases h), fun _ h => h.elim⟩
  refine ((hp (fun _ => none) 0).2 (baseCx W) vs hR hG (fun h => h) (fun i hi => by cases hi) ha).mono ?_
  rintro e w' ⟨v, c', rfl, rfl, h1, _, h2, _⟩
  exact ⟨v, c', rfl, rfl, h1, h2.env.1, h2.env.2.1, h2.env.2.2, h2.size, fun k hk => (h2.froz k (base_froz hk)).2⟩
/-- A law: it returns true, and all that was there stays. -/
theorem calls_true {f : Nat} {args : List AV} (hp : PureC P G f args (.bool true)) {W : World} {vs : Array Value} (hG : RelG G (baseCx W)) (ha : argsR (baseCx W) args vs) : Calls P f vs W fun e w' => e = .returned (.bool true) ∧ Below W.heap.size W w' :=
  (calls_pure hp hG ha).mono fun e w' ⟨v, c', h1, _, h2, h3⟩ => ⟨by rw [h1, RR_bool.1 h2], h3⟩
variable {H : Type} {enc : TypeId × Value → H}
theorem post_below {f : Func} {s : ChangeSpec} {apart fresh handsOn again : Bool} {W W' : World} {args : Array Value} {v : Value} {ds gs : List (DataW H)} {before pa pv : List MemPlace}
    (hW : DataW.Whole enc P f.params.toList s.vars apart W args.toList ds gs before)
    (hres : ∀ (b : Nat) (sp : Nat → Bool) (hd : Bool), DataW.TrodAll enc P W' b sp hd f.resultTypes.toList (v.resultList f.resultTypes.size) (s.fn H (ds ++ gs)).results [])
    (hargs : ∀ sp : Nat → Bool, (∀ p ∈ before, sp p.block = true) → DataW.TrodAll enc P W' 0 sp true f.params.toList args.toList (s.fn H (ds ++ gs)).args pa)
    (hvars : ∀ sp : Nat → Bool, (∀ p ∈ before, sp p.block = true) → DataW.TrodVars enc P W' sp s.vars (s.fn H (ds ++ gs)).vars pv)
    (hps : before = pa ++ pv) (hb : Below W.heap.size W W')
    (hok : ∀ (j : Nat) (t : TypeId) (r : Value), f.resultTypes[j]? = some t → (v.resultList f.resultTypes.size)[j]? = some r → Value.okWide P W' .any 0 t r) :
    s.post enc P f apart fresh handsOn again W args v W' := by
  have hold : ∀ p ∈ before, (fun b => decide (b < W.heap.size)) p.block = true := fun p hp => by simpa using hW.lt p hp
  have hlt : ∀ p ∈ before, p.block < W.heap.size := hW.lt
  refine ⟨ds, gs, before, [], pa, pv, hW, hres _ _ _, hargs _ hold, hvars _ hold, hb.frame _, fun _ => ?_⟩
  obtain ⟨_, _, _, _, _, hz, hn⟩ := hW
  refine ⟨hok, _, _, ([] ++ pa) ++ pv, ⟨[] ++ pa, pv, trodAll_append (hargs _ (fun _ _ => rfl)) (hres _ _ _), hvars _ (fun _ _ => rfl), rfl, ?_, ?_⟩, ?_⟩
  · intro b off hp
    have hm : MemPlace.cell b off ∈ before := by rw [hps]; simpa using hp
    rw [hb.frozen (p := ⟨b, off, none⟩) (hlt _ hm)]
    exact hz b off hm
  · intro ha
    have := hn ha
    rw [hps] at this
    simpa using this
  · intro p hp _
    rw [hps]
    simpa using hp
end
end Go.Am
