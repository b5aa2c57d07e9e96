/-
 far,alone.
 The example.
-/
import Derived.Test.YtphggldkligldaaGreatSnJ
set_option linter.unusedSimpArgs false
set_option linter.unusedVariables false
namespace Go.Pol
open Go.Am
def Bk.al (q:Bk) (x:Ax):Int × Bk:=q.call (x.w.toNat % 14) x.a x.b x.t x.v x.l
def Py.ok (p:Py):Prop:=p.X.length≤40∧p.l.length≤60∧(p.n≤100∨1024 < p.n)
instance (p:Py):Decidable p.ok:=by unfold Py.ok;infer_instance
end Go.Pol
namespace Go.Proofs.YtphggldkligldaaGreat.Sh
open Go Go.Am Go.Pol
structure LocA (x:Ax) (q:Bk) (t:TS) (e:Int) (q':Bk) (t':TS):Prop where
 out:LocC Tryz.prog G0 14 [.ptr 7 0,.ptr 0 0,.agg (acE x)] (bkN q t 0 1 2 3 4 5 6 7) 8 fun y h1=>y = .int .i64 e∧h1=⟨bkN q' t' 0 1 2 3 4 5 6 7,8⟩
section
variable {q:Bk} {t:TS}
end
end Go.Proofs.YtphggldkligldaaGreat.Sh
namespace Go.Pol
open Go.Am
end Go.Pol
namespace Go.Proofs.YtphggldkligldaaGreat.Sh
open Go Go.Am Go.Pol
end Go.Proofs.YtphggldkligldaaGreat.Sh
