/-
  Calls with what is only read, told of by relations: named blocks as values for the time of a call. No program in sight.
-/
import Derived.Test.YtnddcnnangjgeaaAmUp
set_option linter.unusedSimpArgs false
set_option linter.unusedVariables false
namespace Go.Am
section
variable {P : Program} {G : Gl}
def FrzTo (P : Program) (at_ : At) (rd : List Nat) (x y : AV) : Prop := ∀ c c', Frz c c' rd at_ → Rel P c → ∀ v, RR c x v → RR c' y v
def FrzL (P : Program) (at_ : At) (rd : List Nat) : List AV → List AV → Prop
  | [], [] => True
  | x :: xs, y :: ys => FrzTo P at_ rd x y ∧ FrzL P at_ rd xs ys
  | _, _ => False
theorem FrzL.spec {at_ : At} {rd : List Nat} : ∀ {xs ys : List AV}, FrzL P at_ rd xs ys → xs.length = ys.length ∧ ∀ (j : Nat) y, ys[j]? = some y → ∃ x, xs[j]? = some x ∧ FrzTo P at_ rd x y
  | [], [], _ => ⟨rfl, fun j y hy => by simp at hy⟩
  | x :: xs, y :: ys, hw => by
    obtain ⟨h1, h2⟩ := hw.2.spec
    refine ⟨by simp [h1], fun j z hz => ?_⟩
    cases j with
    | zero => simp at hz; subst hz; exact ⟨x, rfl, hw.1⟩
    | succ j => obtain ⟨u, hu, hr⟩ := h2 j z (by simpa using hz); exact ⟨u, by simpa using hu, hr⟩
  | [], _ :: _, hw => hw.elim
  | _ :: _, [], hw => hw.elim
theorem FrzL.rcs {at_ : At} {rd : List Nat} {c c' : Cx} {xs ys : List AV} {look : Nat → Option Value} (h : FrzL P at_ rd xs ys) (hf : Frz c c' rd at_) (hR : Rel P c) (hr : RCs (RR c) xs look) : RCs (RR c') ys look := fun j y hy => by
  obtain ⟨x, hx, hxy⟩ := h.spec.2 j y hy
  obtain ⟨u, hu, hxu⟩ := hr j x hx
  exact ⟨u, hu, hxy c c' hf hR u hxu⟩
theorem FrzL.rc1 {at_ : At} {rd : List Nat} {c c' : Cx} {xs ys : List AV} {look : Nat → Option Value} (h : FrzL P at_ rd xs ys) (hf : Frz c c' rd at_) (hR : Rel P c) (hr : RC1 (RR c) xs look) : RC1 (RR c') ys look := fun j y hy => by
  obtain ⟨x, hx, hxy⟩ := h.spec.2 j y hy
  obtain ⟨u, hu, hxu, h1⟩ := hr j x hx
  exact ⟨u, hu, hxy c c' hf hR u hxu, h1⟩
end
end Go.Am
