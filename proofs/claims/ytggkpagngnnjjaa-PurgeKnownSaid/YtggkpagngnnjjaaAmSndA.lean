/-
  The abstract machine's operations stand for the model's: operations that neither read nor write memory. No program in sight.
-/
import Derived.Test.YtggkpagngnnjjaaAmOps
import Derived.WalkKit
import Derived.Laws.Append
set_option linter.unusedSimpArgs false
set_option linter.unusedVariables false
namespace Go.Am
/-- The model's operation came to what the abstract one gave. -/
def Done (P : Program) (c : Cx) (r : Result Next) (x : AV) (up : Up) (new : List Nat) : Prop :=
  ∃ c' : Cx, ((∃ val, r = .ok (.value val) c'.w ∧ RR c' x val) ∨ (r = .ok .skip c'.w ∧ x = .undef)) ∧ Rel P c' ∧ Ext c c' ∧ c'.at_ = upd c.at_ up ∧ (∀ i, c'.U i ↔ c.U i ∨ i ∈ new)
section
variable {P : Program} {c : Cx} {G : Gl} {fr : List AV} {a : Act}
theorem Done.pure {r : Result Next} {x : AV} {val : Value} (hR : Rel P c) (h : r = .ok (.value val) c.w) (hx : RR c x val) : Done P c r x [] [] :=
  ⟨c, .inl ⟨val, h, hx⟩, hR, Ext.refl c, rfl, fun i => by simp⟩
theorem pureR_some {o : Option AV} {v : AV} {up : Up} {rd : List Nat} (h : pureR o = some (v, up, rd)) : o = some v ∧ up = [] ∧ rd = [] := by
  unfold pureR at h
  split at h
  · rename_i u; cases h; exact ⟨rfl, rfl, rfl⟩
  · cases h
theorem ev1_some {o : Option AV} {f : AV → Option AV} {v : AV} {up : Up} {rd : List Nat} (h : ev1 o f = some (v, up, rd)) : ∃ u, o = some u ∧ f u = some v ∧ up = [] ∧ rd = [] := by
  unfold ev1 at h
  split at h
  · obtain ⟨h1, h2, h3⟩ := pureR_some h; exact ⟨_, rfl, h1, h2, h3⟩
  · cases h
theorem ev2_some {o p : Option AV} {f : AV → AV → Option AV} {v : AV} {up : Up} {rd : List Nat} (h : ev2 o p f = some (v, up, rd)) : ∃ u t, o = some u ∧ p = some t ∧ f u t = some v ∧ up = [] ∧ rd = [] := by
  unfold ev2 at h
  split at h
  · obtain ⟨h1, h2, h3⟩ := pureR_some h; exact ⟨_, _, rfl, rfl, h1, h2, h3⟩
  · cases h

theorem snd_bin {op : BinOp} {t : TypeId} {x y : AV} {u v : Value} {r : AV} (hx : RR c x u) (hy : RR c y v) (h : binV op x y = some r) : ∃ val, (binOp op t u v).run P c.w = .ok val c.w ∧ RR c r val := by
  unfold binV at h
  split at h
  · rename_i k a k' b
    simp only [RR_int] at hx hy
    subst hx; subst hy
    cases op <;> simp only at h <;> first
      | (split at h
         · rename_i hk
           cases h
           refine ⟨_, ?_, RR_int.2 rfl⟩
           first
             | (subst hk; simp [binOp, Op.intArith]; done)
             | (obtain ⟨rfl, hb⟩ := hk; simp [binOp, Op.intDiv, hb]; done)
             | (subst hk; simp [binOp, Op.intBits, bits]; done)
         · cases h)
      | (split at h
         · rename_i hk
           cases h
           refine ⟨_, ?_, RR_bool.2 rfl⟩
           subst hk; simp [binOp, Op.intCmp]; done
         · cases h)
      | (split at h
         · cases h
         · rename_i hk
           cases h
           refine ⟨_, ?_, RR_int.2 rfl⟩
           simp [binOp, Op.shift, hk]; done)
  · cases h
theorem snd_un {op : UnOp} {x : AV} {u : Value} {r : AV} (hx : RR c x u) (h : unV op x = some r) : ∃ val, (Op.unary op u).run P c.w = .ok val c.w ∧ RR c r val := by
  unfold unV at h
  split at h
  · simp only [RR_int] at hx
    subst hx
    split at h <;> first | cases h | skip
    · exact ⟨_, by simp [Op.unary, Op.intArith], RR_int.2 rfl⟩
    · exact ⟨_, by simp [Op.unary, Op.intBits, bits], RR_int.2 rfl⟩
  · simp only [RR_bool] at hx
    subst hx
    split at h <;> first | cases h | skip
    exact ⟨_, by simp [Op.unary], RR_bool.2 rfl⟩
  · cases h
theorem part_of {t : TypeId} {b : Bool} {n off : Nat} {cs : List AV} {vs : Array Value} {r : AV} (w : World) (hb : aggOf P t = some b) (hn : szOf P t = some n) (hs : vs.size = cs.length) (hr : RC1 (RR c) cs fun j => vs[j]?)
    (h : partV b off n cs = some r) : ∃ val, (part t vs off).run P w = .ok val w ∧ RR c r val ∧ (b = false → One val) := by
  unfold aggOf at hb
  simp only [Option.map_eq_some_iff] at hb
  obtain ⟨d, hd, hb⟩ := hb
  unfold szOf at hn
  simp only [Option.map_eq_some_iff] at hn
  obtain ⟨i, hi, hn⟩ := hn
  have hia : (isAgg t).run P w = .ok b w := by
    simp only [isAgg]
    subst hb
    simp [run_underlying hd]
    cases d <;> simp
  unfold partV at h
  cases b with
  | true =>
    simp only [if_true] at h
    split at h
    · rename_i hle
      cases h
      refine ⟨.agg (vs.extract off (off + n)), ?_, RR_agg.2 ⟨_, rfl, by simp; omega, fun j x hx => ?_⟩, fun h => by cases h⟩
      · simp [part, hia, sizeOf, typeInfo, hi, hn]
      · rw [List.getElem?_take] at hx
        split at hx
        · rename_i hj
          rw [List.getElem?_drop] at hx
          obtain ⟨u, hu, hxu⟩ := hr _ _ hx
          refine ⟨u, ?_, hxu⟩
          have hu' : vs[off + j]? = some u := hu
          show (vs.extract off (off + n))[j]? = some u
          rw [Array.getElem?_extract]
          have : j < min (off + n) vs.size - off := by omega
          simp [this, hu']
        · cases hx
    · cases h
  | false =>
    simp only [Bool.false_eq_true, if_false] at h
    obtain ⟨u, hu, hxu⟩ := hr _ _ h
    have hu' : vs[off]? = some u := hu
    exact ⟨u, by simp [part, hia, hu'], hxu.1, fun _ => hxu.2⟩
theorem vals_of {os : List Operand} {xs : List AX} {vs : List AV} (hF : FR c fr a.tmps) (hG : RelG G c) (hc : os.mapM cox = some xs) (hv : valsV (ax G fr) xs = some vs) :
    vs.length = os.length ∧ RCs (RR c) vs fun j => (os.map a.eval)[j]? := by
  induction os generalizing xs vs with
  | nil => simp at hc; subst hc; cases hv; exact ⟨rfl, fun j x hx => by simp at hx⟩
  | cons o os ih =>
    simp only [List.mapM_cons, Option.bind_eq_bind, Option.bind_eq_some_iff] at hc
    obtain ⟨x, hx, ys, hys, h2⟩ := hc
    cases h2
    simp only [valsV] at hv
    split at hv
    · rename_i v l hv1 hv2
      cases hv
      obtain ⟨h3, h4⟩ := ih hys hv2
      refine ⟨by simp [h3], fun j z hz => ?_⟩
      cases j with
      | zero => simp at hz; subst hz; exact ⟨_, rfl, cox_rr hF hG hx hv1⟩
      | succ j => obtain ⟨u, hu, hr⟩ := h4 j z (by simpa using hz); exact ⟨u, by simpa using hu, hr⟩
    · cases hv
end
end Go.Am
