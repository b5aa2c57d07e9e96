/-
 Calls with a nil plan;acts.
-/
import Derived.Test.YtphggldkligldaaGreatVmC
set_option linter.unusedSimpArgs false
set_option linter.unusedVariables false
namespace Go.Am
section
variable {P:Program} {G:Gl}
theorem AY7.weak {f k:Nat} {args args':List AV} {l0:List (Nat × AObj)} {K:AV→Hp→Prop} (hc:AY7 P G f args l0 k K) (hw:∀ (c:Cx) (vs:Array Value),AL8 c args' vs→AL8 c args vs):AY7 P G f args' l0 k K :=
 ⟨hc.1,fun c vs hR hG hm ha=>hc.2 c vs hR hG hm (hw c vs ha)⟩
theorem Ah6.weak {f:Nat} {args args':List AV} {r:AV} (hc:Ah6 P G f args r) (hw:∀ (c:Cx) (vs:Array Value),AL8 c args' vs→AL8 c args vs):Ah6 P G f args' r :=
 fun at_ id=>⟨(hc at_ id).1,fun c vs hR hG hU hat ha=>(hc at_ id).2 c vs hR hG hU hat (hw c vs ha)⟩
def WkA (x y:AV):Prop:=∀ (c:Cx) (v:Value),RR c x v→RR c y v
def WkAs:List AV→List AV→Prop
 | [],[]=>True
 | x::xs,y::ys=>WkA x y∧WkAs xs ys
 | _,_=>False
theorem WkAs.len:∀ {xs ys:List AV},WkAs xs ys→xs.length=ys.length
 | [],[],_=>rfl
 | [],_::_,h=>h.elim
 | _::_,[],h=>h.elim
 | _::_,_::_,h=>by rw [List.length_cons,List.length_cons,WkAs.len h.2]
theorem WkAs.at:∀ {xs ys:List AV},WkAs xs ys→∀ {j:Nat} {y:AV},ys[j]? = some y→∃ x,xs[j]? = some x∧WkA x y
 | [],[],_,_,_,e=>by simp at e
 | [],_::_,h,_,_,_=>h.elim
 | _::_,[],h,_,_,_=>h.elim
 | x::_,y::_,h,0,z,e=>by cases e;exact ⟨x,rfl,h.1⟩
 | _::_,_::_,h,j+1,z,e=>WkAs.at (j:=j) h.2 (by simpa using e)
theorem WkAs.args {xs ys:List AV} (h:WkAs xs ys) (c:Cx) (vs:Array Value) (ha:AL8 c xs vs):AL8 c ys vs :=
 ⟨by rw [ha.1, h.len], fun j y hy => by
  obtain ⟨x,hx,hw⟩:=h.at hy
  obtain ⟨u,hu,hr⟩:=ha.2 j x hx
  exact ⟨u,hu,hw c u hr⟩⟩
theorem wkA_rfl {x:AV}:WkA x x:=fun _ _ h=>h
theorem wkA_nil:WkA .nils (.isl []):=fun c v h=>by
 obtain ⟨A,rfl⟩:=RR_nils.1 h
 exact AE4.2 ⟨A,0,rfl,Nat.le_refl _,Nat.zero_le _,fun hne=>absurd rfl hne⟩
theorem wkA_agg {xs ys:List AV} (h:WkAs xs ys):WkA (.agg xs) (.agg ys):=fun c v hv=>by
 obtain ⟨vs,rfl,hs,hc⟩:=AD3.1 hv
 refine AD3.2 ⟨vs,rfl,by rw [hs,h.len],fun j y hy=>?_⟩
 obtain ⟨x,hx,hw⟩:=h.at hy
 obtain ⟨u,hu,hr,ho⟩:=hc j x hx
 exact ⟨u,hu,hw c u hr,ho⟩
end
end Go.Am
namespace Go.Pol
open Go.Am
end Go.Pol
namespace Go.Proofs.YtphggldkligldaaGreat
open Go Go.Am Go.Pol
theorem wk_pl:WkA (.agg [.nils]) (.agg [.isl (([]:List Rl).map rlA)]):=wkA_agg ⟨wkA_nil,trivial⟩
theorem plain_npl:Plain (.agg [.nils]):=P5 (R6 AJ4)
theorem u7.weak {f:Nat} {avs avs' cs ds:List AV} {r:AV} (hc:u7 f avs cs r ds) (hw:WkAs avs' avs) (hp:∀ x ∈ avs',Plain x):u7 f avs' cs r ds :=
 u7.mk (hc.out.weak (WkAs.args (xs:=.ptr 0 0::avs') (ys:=.ptr 0 0::avs) ⟨wkA_rfl,hw⟩)) hc.pc hc.pd hp hc.pr
theorem LocN.weak {f:Nat} {avs avs' ds:List AV} {e:Int} (hc:LocN f avs e ds) (hw:WkAs avs' avs) (hp:∀ x ∈ avs',Plain x):LocN f avs' e ds :=
 LocN.mk (hc.out.weak (WkAs.args hw)) hc.pd hp
theorem n_new:LocN 40 [.agg [.nils]] 0 (Sy.new []).a:=(p_new (l:=[]) (i:=(AJ9 []).1) rfl).weak ⟨wk_pl,trivial⟩ (R6 plain_npl)
end Go.Proofs.YtphggldkligldaaGreat
