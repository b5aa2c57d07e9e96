/-
 The zero values of the two systems,by name.
-/
import Derived.Test.YtbhgfoikbkaohaaQaj
import Derived.Test.YtbhgfoikbkaohaaProg
import Derived.KernelRfl
set_option linter.unusedSimpArgs false
set_option linter.unusedVariables false
namespace Go.Pol
open Go.Am
def pg0:List AV:=.int .i64 0 :: .bool false::List.replicate 64 (.int .u8 0)
def sysZ:List AV:=.bool false::((List.replicate 1024 pg0).flatten++(.nils::List.replicate 14 (.int .i64 0)))
end Go.Pol
namespace Go.Proofs.Ytbhgfoikbkaohaa
open Go Go.Am Go.Pol
def Zs (P:Program) (t:TypeId):Option (List AV):=if t=88 then some sysZ else zeroOf P t
theorem zi_sys:Try.prog.info? 88=some Try.t88:=by kernel_rfl
theorem zs_sys:chkZ Try.t88 sysZ=true:=by kernel_rfl
theorem Zs_ok:ZOk (Zs Try.prog) Try.prog:=fun t z h=>by
 unfold Zs at h
 split at h
 ·rename_i e;subst e;rw [← Option.some.inj h];exact chkZ_ok zi_sys zs_sys
 ·exact h
end Go.Proofs.Ytbhgfoikbkaohaa
