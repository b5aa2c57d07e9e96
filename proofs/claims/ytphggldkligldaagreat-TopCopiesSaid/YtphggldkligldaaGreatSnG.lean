/-
 The arguments of the rows.
 The arguments of the rows: calls and plays.
-/
import Derived.Test.YtphggldkligldaaGreatAmRead
import Derived.Test.YtphggldkligldaaGreatRows
import Derived.KernelRfl
import Derived.Test.YtphggldkligldaaGreatSnJ
set_option linter.unusedSimpArgs false
set_option linter.unusedVariables false
namespace Go.Proofs.YtphggldkligldaaGreat
open Go Go.Am Go.Pol
open Go.ChangeShapes Go.WideShapes Go.ChangeAt Go.WideElems Go.RowKit
theorem own:ownKnob Tryz.prog.godebug=none:=by kernel_rfl
theorem glo (c:Cx):RelG G0 c:=fun n cs h=>by cases h
def vwT:Ty:=.struct (.cons (.int .i64) (.cons (.int .i64) (.cons (.int .i64) (.cons .bool .nil))))
def stT:Ty:=.struct (.cons (.slice vwT) .nil)
theorem map_of {α:Type} {f:α→List AV} {q:α→Prop}:∀ {els:List (List AV)},(∀ el ∈ els,∃ c,el=f c∧q c)→∃ l:List α,els=l.map f∧∀ c ∈ l,q c
 | [],_=>⟨[],rfl,fun c hc=>by cases hc⟩
 | el::els,h=>by
  obtain ⟨c,rfl,hq⟩:=h el (List.mem_cons_self ..)
  obtain ⟨l,rfl,hl⟩:=map_of fun e he=>h e (List.mem_cons_of_mem _ he)
  exact ⟨c::l,rfl,fun d hd=>(List.mem_cons.1 hd).elim (fun e=>e▸hq) (hl d)⟩
theorem wf_u8 {n:Int} (h:(Lit.int .u8 n).wf=true):∃ m:Nat,n=(m:Int)∧m < 256:=by
 simp [Lit.wf,IntKind.min,IntKind.max,IntKind.signed,IntKind.bits] at h
 exact ⟨n.toNat,by omega,by omega⟩
def i64 (n:Int):Prop:=-9223372036854775808≤n∧n≤9223372036854775807
theorem shp_two {T U:Ty}:∀ {xss:List (List AV)},ShpAll [T,U] xss→∃ xs ys,xss=[xs,ys]∧Shp T xs∧Shp U ys
 | [xs,ys],h=>⟨xs,ys,rfl,h.1,h.2.1⟩
 | [],h=>h.elim
 | [_],h=>h.2.elim
 | _::_::_::_,h=>h.2.2.elim
end Go.Proofs.YtphggldkligldaaGreat
namespace Go.Proofs.YtphggldkligldaaGreat
open Go Go.Am Go.Pol
open Go.ChangeShapes Go.WideShapes Go.ChangeAt Go.WideElems Go.RowKit
def rlT:Ty:=.struct (.cons (.int .i64) (.cons (.int .i64) (.cons (.int .i64) (.cons (.int .i64) .nil))))
def planT:Ty:=.struct (.cons (.slice rlT) .nil)
def actT:Ty:=.struct (.cons (.int .u8) (.cons (.int .i64) (.cons (.int .i64) (.cons (.int .i64) (.cons (.int .u8) (.cons planT .nil))))))
def playT:Ty:=.struct (.cons (.int .i64) (.cons (.int .i64) (.cons planT (.cons (.slice actT) .nil))))
def okA (x:Ax):Prop:=0≤x.w∧0≤x.v∧x.v < 256
end Go.Proofs.YtphggldkligldaaGreat
