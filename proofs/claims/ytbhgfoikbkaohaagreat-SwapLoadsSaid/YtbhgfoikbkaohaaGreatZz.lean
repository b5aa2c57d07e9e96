/-
 The zero values of the two systems and of the document's store,by name.
-/
import Derived.Test.YtbhgfoikbkaohaaGreatQaj
import Derived.Test.YtbhgfoikbkaohaaGreatProg
import Derived.KernelRfl
set_option linter.unusedSimpArgs false
set_option linter.unusedVariables false
namespace Go.Pol
open Go.Am
def pg0:List AV:=.int .i64 0 :: .bool false::List.replicate 64 (.int .u8 0)
def sysZ:List AV:=.bool false::((List.replicate 1024 pg0).flatten++(.nils::List.replicate 14 (.int .i64 0)))
def refZ:List AV:=List.replicate 1024 (.int .i64 0)++(List.replicate 64 (.bool false)++((List.replicate 1024 (List.replicate 64 (.int .u8 0))).flatten++(.nils::List.replicate 14 (.int .i64 0))))
def stoZ:List AV:=.nilp :: .int .i64 0 :: .int .i64 0 :: .int .i64 0 :: .int .i64 0::(List.replicate 768 (.int .i64 0)++(List.replicate 16384 (.int .u8 0)++[.int .i64 0,.int .i64 0]))
end Go.Pol
namespace Go.Proofs.YtbhgfoikbkaohaaGreat
open Go Go.Am Go.Pol
def Zs (P:Program) (t:TypeId):Option (List AV):=if t=95 then some sysZ else if t=78 then some refZ else if t=88 then some stoZ else zeroOf P t
theorem zi_sys:Tryz.prog.info? 95=some Tryz.t95:=by kernel_rfl
theorem zi_ref:Tryz.prog.info? 78=some Tryz.t78:=by kernel_rfl
theorem zi_sto:Tryz.prog.info? 88=some Tryz.t88:=by kernel_rfl
theorem zs_sys:chkZ Tryz.t95 sysZ=true:=by kernel_rfl
theorem zs_ref:chkZ Tryz.t78 refZ=true:=by kernel_rfl
theorem zs_sto:chkZ Tryz.t88 stoZ=true:=by kernel_rfl
theorem Zs_ok:ZOk (Zs Tryz.prog) Tryz.prog:=fun t z h=>by
 unfold Zs at h
 split at h
 ·rename_i e;subst e;rw [← Option.some.inj h];exact BO9 zi_sys zs_sys
 ·split at h
  ·rename_i e;subst e;rw [← Option.some.inj h];exact BO9 zi_ref zs_ref
  ·split at h
   ·rename_i e;subst e;rw [← Option.some.inj h];exact BO9 zi_sto zs_sto
   ·exact h
end Go.Proofs.YtbhgfoikbkaohaaGreat
