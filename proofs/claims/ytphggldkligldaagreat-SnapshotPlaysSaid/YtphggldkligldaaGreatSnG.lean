/-
 The arguments of the rows.
 The arguments of the rows: calls and plays.
-/
import Derived.Test.YtphggldkligldaaGreatAmRead
import Derived.Test.YtphggldkligldaaGreatRows
import Derived.KernelRfl
import Derived.Test.YtphggldkligldaaGreatSnJ
set_option linter.unusedSimpArgs false
set_option linter.unusedVariables false
namespace Go.Proofs.YtphggldkligldaaGreat
open Go Go.Am Go.Pol
open Go.ChangeShapes Go.WideShapes Go.ChangeAt Go.WideElems Go.RowKit
theorem own:ownKnob Tryz.prog.godebug=none:=by kernel_rfl
theorem glo (c:Cx):Aa1 G0 c:=fun n cs h=>by cases h
theorem map_of {α:Type} {f:α→List AV} {q:α→Prop}:∀ {els:List (List AV)},(∀ el ∈ els,∃ c,el=f c∧q c)→∃ l:List α,els=l.map f∧∀ c ∈ l,q c
 | [],_=>⟨[],rfl,fun c hc=>by cases hc⟩
 | el::els,h=>by
  obtain ⟨c,rfl,hq⟩:=h el (List.mem_cons_self ..)
  obtain ⟨l,rfl,hl⟩:=map_of fun e he=>h e (List.mem_cons_of_mem _ he)
  exact ⟨c::l,rfl,fun d hd=>(List.mem_cons.1 hd).elim (fun e=>e▸hq) (hl d)⟩
theorem wf_u8 {n:Int} (h:(Lit.int .u8 n).wf=true):∃ m:Nat,n=(m:Int)∧m < 256:=by
 simp [Lit.wf,IntKind.min,IntKind.max,IntKind.signed,IntKind.bits] at h
 exact ⟨n.toNat,by omega,by omega⟩
def i64 (n:Int):Prop:=-9223372036854775808≤n∧n≤9223372036854775807
theorem shp_one {T:Ty}:∀ {xss:List (List AV)},ShpAll [T] xss→∃ xs,xss=[xs]∧Shp T xs
 | [xs],h=>⟨xs,rfl,h.1⟩
 | [],h=>h.elim
 | _::_::_,h=>h.2.elim
end Go.Proofs.YtphggldkligldaaGreat
namespace Go.Proofs.YtphggldkligldaaGreat
open Go Go.Am Go.Pol
open Go.ChangeShapes Go.WideShapes Go.ChangeAt Go.WideElems Go.RowKit
def rlT:Ty:=.struct (.cons (.int .i64) (.cons (.int .i64) (.cons (.int .i64) (.cons (.int .i64) .nil))))
def planT:Ty:=.struct (.cons (.slice rlT) .nil)
def actT:Ty:=.struct (.cons (.int .u8) (.cons (.int .i64) (.cons (.int .i64) (.cons (.int .i64) (.cons (.int .u8) (.cons planT .nil))))))
def playT:Ty:=.struct (.cons (.int .i64) (.cons (.int .i64) (.cons planT (.cons (.slice actT) .nil))))
def okA (x:Ax):Prop:=0≤x.w∧0≤x.v∧x.v < 256
theorem shp_rl {xs:List AV} (h:Shp rlT xs):∃ x:Rl,xs=rlA x:=by
 obtain ⟨y1,z1,rfl,⟨a,rfl,-⟩,y2,z2,rfl,⟨b,rfl,-⟩,y3,z3,rfl,⟨c,rfl,-⟩,y4,z4,rfl,⟨d,rfl,-⟩,rfl⟩:=h
 exact ⟨⟨a,b,c,d⟩,rfl⟩
theorem shp_plan {xs:List AV} (h:Shp planT xs):∃ l:List Rl,xs=[AV.isl (l.map rlA)]:=by
 obtain ⟨y1,z1,rfl,⟨els,rfl,hl,he⟩,rfl⟩:=h
 obtain ⟨l,rfl,-⟩:=map_of (f:=rlA) (q:=fun _=>True) fun el hel=>(shp_rl (he el hel)).imp fun _ h=>⟨h,trivial⟩
 exact ⟨l,rfl⟩
theorem shp_act {xs:List AV} (h:Shp actT xs):∃ x:Ax,xs=acE x∧okA x:=by
 obtain ⟨y1,z1,rfl,⟨w,rfl,hw⟩,y2,z2,rfl,⟨p,rfl,-⟩,y3,z3,rfl,⟨n,rfl,-⟩,y4,z4,rfl,⟨t,rfl,-⟩,y5,z5,rfl,⟨b,rfl,hb⟩,y6,z6,rfl,h6,rfl⟩:=h
 obtain ⟨m,rfl,hm⟩:=wf_u8 hw
 obtain ⟨v,rfl,hv⟩:=wf_u8 hb
 obtain ⟨l,rfl⟩:=shp_plan h6
 exact ⟨⟨(m:Nat),p,n,t,(v:Nat),l⟩,rfl,Int.natCast_nonneg m,Int.natCast_nonneg v,by show ((v:Nat):Int) < 256;omega⟩
theorem shp_play {xs:List AV} (h:Shp playT xs):∃ p:Py,xs=pyE p∧p.X.length≤maxLen∧∀ x ∈ p.X,okA x:=by
 obtain ⟨y1,z1,rfl,⟨a,rfl,-⟩,y2,z2,rfl,⟨n,rfl,-⟩,y3,z3,rfl,h3,y4,z4,rfl,⟨els,rfl,hl,he⟩,rfl⟩:=h
 obtain ⟨l,rfl⟩:=shp_plan h3
 obtain ⟨X,rfl,hq⟩:=map_of (f:=acE) (q:=okA) fun el hel=>shp_act (he el hel)
 exact ⟨⟨a,n,l,X⟩,rfl,by rw [List.length_map] at hl;exact hl,hq⟩
end Go.Proofs.YtphggldkligldaaGreat
