/-
 The reference's Down puts marks down.
 The reference's marks of a page.
 The reference's with: a state in which a page has other bytes.
-/
import Derived.Test.YtkahmhmkhfllpaaDoorZrE
import Derived.Test.YtkahmhmkhfllpaaDoorAmEig
set_option linter.unusedSimpArgs false
set_option linter.unusedVariables false
namespace Go.Pol
end Go.Pol
namespace Go.Proofs.YtkahmhmkhfllpaaDoor
open Go Go.Am Go.Pol
def marksA (m:Nat→Bool):List AV:=(List.range 64).map fun i=>.bool (m i)
end Go.Proofs.YtkahmhmkhfllpaaDoor
namespace Go.Pol
def orCut (f:Nat→Bool) (c:Cut):Nat→Bool:=fun b=>f b || decide (c.1≤(b:Int)∧(b:Int) < c.1+c.2)
def marksP (f:Nat→Bool) (l:List Cut):Nat→Bool:=l.foldl orCut f
def marksS (s:List Page) (page:Int):Nat→Bool:=s.foldl (fun f p=>if p.1=page then marksP f p.2 else f) fun _=>false
def orPart (f:Nat→Bool) (a:Int) (j:Nat):Nat→Bool:=fun b=>f b || decide (a≤(b:Int)∧(b:Int) < a+j)
def updB (f:Nat→Bool) (i:Nat) (x:Bool):Nat→Bool:=fun j=>if j=i then x else f j
end Go.Pol
namespace Go.Proofs.YtkahmhmkhfllpaaDoor
open Go Go.Am Go.Pol
theorem plain_pagesI {s:List Page}:Plain (.isl (s.map pageA)):=plain_pages
end Go.Proofs.YtkahmhmkhfllpaaDoor
namespace Go.Pol
def wOne (x:Page) (r:List Page × Bool) (p:Page):List Page × Bool:=if r.2=false∧x.1≤p.1 then (r.1++[x],true) else r
def wTwo (x:Page) (r:List Page × Bool) (p:Page):List Page × Bool:=if p.1=x.1 then r else (r.1++[p],r.2)
def wFold (x:Page) (s:List Page):List Page × Bool:=s.foldl (fun r p=>wTwo x (wOne x r p) p) ([],decide (x.2.length=0))
def withS (s:List Page) (x:Page):List Page:=if (wFold x s).2 then (wFold x s).1 else (wFold x s).1++[x]
end Go.Pol
namespace Go.Proofs.YtkahmhmkhfllpaaDoor
open Go Go.Am Go.Pol
end Go.Proofs.YtkahmhmkhfllpaaDoor
