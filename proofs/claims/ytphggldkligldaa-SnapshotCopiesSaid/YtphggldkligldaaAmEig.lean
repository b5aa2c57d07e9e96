/-
 Calls with what is only read,told of by relations: named blocks as values for the time of a call. No program in sight.
 Slices that grow,without parting: nil or not. No program in sight.
 Calls that are walked into;ranges over functions that are walked into. No program in sight.
-/
import Derived.Test.YtphggldkligldaaAmSev
set_option linter.unusedSimpArgs false
set_option linter.unusedVariables false
namespace Go.Am
section
variable {P:Program} {G:Gl}
def FrzTo (P:Program) (at_:At) (rd:List Nat) (x y:AV):Prop:=∀ c c',Frz c c' rd at_→Rel P c→∀ v,RR c x v→RR c' y v
def FrzL (P:Program) (at_:At) (rd:List Nat):List AV→List AV→Prop
 | [],[]=>True
 | x::xs,y::ys=>FrzTo P at_ rd x y∧FrzL P at_ rd xs ys
 | _,_=>False
theorem FrzL.spec {at_:At} {rd:List Nat}:∀ {xs ys:List AV},FrzL P at_ rd xs ys→xs.length=ys.length∧∀ (j:Nat) y,ys[j]? = some y→∃ x,xs[j]? = some x∧FrzTo P at_ rd x y
 | [],[],_=>⟨rfl,fun j y hy=>by simp at hy⟩
 | x::xs,y::ys,hw=>by
  obtain ⟨h1,h2⟩:=hw.2.spec
  refine ⟨by simp [h1],fun j z hz=>?_⟩
  cases j with
  | zero=>simp at hz;subst hz;exact ⟨x,rfl,hw.1⟩
  | succ j=>obtain ⟨u,hu,hr⟩:=h2 j z (by simpa using hz);exact ⟨u,by simpa using hu,hr⟩
 | [],_::_,hw=>hw.elim
 | _::_,[],hw=>hw.elim
theorem FrzL.rcs {at_:At} {rd:List Nat} {c c':Cx} {xs ys:List AV} {look:Nat→Option Value} (h:FrzL P at_ rd xs ys) (hf:Frz c c' rd at_) (hR:Rel P c) (hr:RCs (RR c) xs look):RCs (RR c') ys look:=fun j y hy=>by
 obtain ⟨x,hx,hxy⟩:=h.spec.2 j y hy
 obtain ⟨u,hu,hxu⟩:=hr j x hx
 exact ⟨u,hu,hxy c c' hf hR u hxu⟩
theorem FrzL.rc1 {at_:At} {rd:List Nat} {c c':Cx} {xs ys:List AV} {look:Nat→Option Value} (h:FrzL P at_ rd xs ys) (hf:Frz c c' rd at_) (hR:Rel P c) (hr:RC1 (RR c) xs look):RC1 (RR c') ys look:=fun j y hy=>by
 obtain ⟨x,hx,hxy⟩:=h.spec.2 j y hy
 obtain ⟨u,hu,hxu,h1⟩:=hr j x hx
 exact ⟨u,hu,hxy c c' hf hR u hxu,h1⟩
end
end Go.Am
namespace Go.Am
section
variable {α:Type} {f:α→List AV} {l:List α} {i j:Nat} {o:AObj} {r:List (Nat × AObj)}
theorem lk_own (h:j ≠ i):lk (ownH i f l++r) j=lk r j:=by
 by_cases hz:l.length=0
 ·rw [ownH_z hz];rfl
 ·rw [ownH_s hz];simp [lk,h]
theorem lk_ownS (hz:l.length ≠ 0):lk (ownH i f l++r) i=some (.cells (flat f l)):=by rw [ownH_s hz];simp [lk]
theorem lk_ownE (hz:l.length ≠ 0):lk (ownH i f l) i=some (.cells (flat f l)):=by rw [ownH_s hz];simp [lk]
theorem len_own {sz n:Nat}:lenV (ownV i sz n)=some (.int .i64 n):=by
 by_cases hz:n=0
 ·subst hz;rfl
 ·rw [own_s hz];rfl
end
section
variable {P:Program} {G:Gl} {fr:List AV} {h:Hp} {α:Type} {f:α→List AV} {l l2:List α}
theorem wk_own {σ:Nat→Nat} {h h':Hp} {i j sz n:Nat} (e:σ i=j) (hi:i < h'.next):WkV P σ h h' (ownV j sz n) (ownV i sz n):=by
 by_cases hz:n=0
 ·subst hz;rw [own_z,own_z];exact fun c v hR hm hr=>RR_nils.2 (RR_nils.1 hr)
 ·rw [own_s hz,own_s hz];exact wk_sl e hi rfl (Nat.le_refl _) (Nat.le_refl _)
end
end Go.Am
namespace Go.Am
section
variable {P:Program} {G:Gl}
end
end Go.Am
