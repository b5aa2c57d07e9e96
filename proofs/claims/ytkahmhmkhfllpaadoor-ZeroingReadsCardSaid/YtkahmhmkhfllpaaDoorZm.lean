/-
 The reference's set.
-/
import Derived.Test.YtkahmhmkhfllpaaDoorZrC
set_option linter.unusedSimpArgs false
set_option linter.unusedVariables false
namespace Go.Pol
def goodP (p:Page):Prop:=p.2.length≤100∧∀ c ∈ p.2,badCut c=false
def setB (f:Nat→Bool) (p:Nat) (a n:Int) (is:Bool):Nat→Bool:=fun b=>if a≤64 * (p:Int)+b∧64 * (p:Int)+b < a+n then is else f b
def setBk (f:Nat→Bool) (p:Nat) (a n:Int) (is:Bool) (k:Nat):Nat→Bool:=fun b=>if b < k∧a≤64 * (p:Int)+b∧64 * (p:Int)+b < a+n then is else f b
def setOne (a n:Int) (is:Bool) (s:List Page) (p:Nat):List Page:=withS s (p,mergeL (runs (setBk (marksS s p) p a n is 64) 64))
def setN (a n:Int) (is:Bool) (p0:Nat) (s:List Page):Nat→List Page
 | 0=>s
 | j+1=>setOne a n is (setN a n is p0 s j) (p0+j)
end Go.Pol
namespace Go.Proofs.YtkahmhmkhfllpaaDoor
open Go Go.Am Go.Pol
def lastPg (a n:Int):Nat:=((a+n+63) / 64).toNat
def refSet (s:List Page) (a n:Int) (is:Bool):List Page:=setN a n is (a / 64).toNat s (lastPg a n - (a / 64).toNat)
end Go.Proofs.YtkahmhmkhfllpaaDoor
