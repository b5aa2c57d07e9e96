/-
  Abstract code of functions, printed by a program, and that it is theirs.
-/
import Derived.Test.YtjlbfijjfjogiaaProg
import Derived.Test.YtjlbfijjfjogiaaCodeA
set_option linter.unusedSimpArgs false
set_option linter.unusedVariables false
namespace Go.Proofs.Ytjlbfijjfjogiaa
open Go.Am
def c64 : ACode :=
  .seq (.reg [⟨some 2, .new [(.int .i64 0), (.int .i64 0), (.int .i64 0), (.int .i64 0), (.int .i64 0)], none⟩])
  (.seq (.reg [⟨some 3, .new [(.int .i64 0), (.int .i64 0), (.int .i64 0), (.int .i64 0)], none⟩])
  (.seq (.seq (.reg [⟨some 4, .mv (.k (.int .i64 0)), none⟩])
  (.block 0 (.loop (.seq (.seq (.reg [⟨some 7, .mv (.t 4), none⟩,
      ⟨some 8, .bin .lss (.t 7) (.k (.int .i64 1024)), none⟩])
    (.cond (.t 8) (.skip)
      (.exit 0)))
    (.seq (.block 1 (.reg [⟨some 11, .mv (.t 0), none⟩,
       ⟨some 12, .mv (.t 4), none⟩,
       ⟨some 13, .nchk (.t 11), none⟩,
       ⟨some 14, .faddr 0 (.t 13), none⟩,
       ⟨some 15, .iaddrA 1024 1 (.t 14) (.t 12), none⟩,
       ⟨some 16, .load false 1 (.t 15), none⟩,
       ⟨some 17, .iaddrA 4 1 (.t 3) (.t 16), none⟩,
       ⟨some 18, .load false 1 (.t 17), none⟩,
       ⟨some 19, .bin .add (.t 18) (.k (.int .i64 1)), none⟩,
       ⟨some 20, .iaddrA 4 1 (.t 3) (.t 16), none⟩,
       ⟨none, .store 1 (.t 20) (.t 19), none⟩]))
    (.reg [⟨some 9, .mv (.t 4), none⟩,
      ⟨some 10, .bin .add (.t 9) (.k (.int .i64 1)), none⟩,
      ⟨some 4, .mv (.t 10), none⟩]))))))
  (.seq (.reg [⟨some 5, .mv (.k (.int .i64 0)), none⟩])
  (.seq (.seq (.reg [⟨some 6, .mv (.k (.int .i64 0)), none⟩])
  (.block 2 (.loop (.seq (.seq (.reg [⟨some 21, .mv (.t 6), none⟩,
      ⟨some 22, .bin .lss (.t 21) (.k (.int .i64 64)), none⟩])
    (.cond (.t 22) (.skip)
      (.exit 2)))
    (.seq (.block 3 (.seq (.reg [⟨some 25, .mv (.t 0), none⟩,
       ⟨some 26, .mv (.t 6), none⟩,
       ⟨some 27, .nchk (.t 25), none⟩,
       ⟨some 28, .faddr 1024 (.t 27), none⟩,
       ⟨some 29, .iaddrA 64 1 (.t 28) (.t 26), none⟩,
       ⟨some 30, .load false 1 (.t 29), none⟩])
     (.cond (.t 30) (.reg [⟨some 31, .mv (.t 5), none⟩,
         ⟨some 32, .bin .add (.t 31) (.k (.int .i64 1)), none⟩,
         ⟨some 5, .mv (.t 32), none⟩])
       (.skip))))
    (.reg [⟨some 23, .mv (.t 6), none⟩,
      ⟨some 24, .bin .add (.t 23) (.k (.int .i64 1)), none⟩,
      ⟨some 6, .mv (.t 24), none⟩]))))))
  (.seq (.reg [⟨some 33, .iaddrA 4 1 (.t 3) (.k (.int .i64 0)), none⟩,
    ⟨some 34, .load false 1 (.t 33), none⟩,
    ⟨some 35, .iaddrA 4 1 (.t 3) (.k (.int .i64 1)), none⟩,
    ⟨some 36, .load false 1 (.t 35), none⟩,
    ⟨some 37, .iaddrA 4 1 (.t 3) (.k (.int .i64 2)), none⟩,
    ⟨some 38, .load false 1 (.t 37), none⟩,
    ⟨some 39, .iaddrA 4 1 (.t 3) (.k (.int .i64 3)), none⟩,
    ⟨some 40, .load false 1 (.t 39), none⟩,
    ⟨some 41, .mv (.t 5), none⟩,
    ⟨some 42, .build [(.int .i64 0), (.int .i64 0), (.int .i64 0), (.int .i64 0), (.int .i64 0)] [(0, 1, (.t 34)), (1, 1, (.t 36)), (2, 1, (.t 38)), (3, 1, (.t 40)), (4, 1, (.t 41))], none⟩,
    ⟨none, .store 5 (.t 2) (.t 42), none⟩])
  (.ret))))))
def c65 : ACode :=
  .seq (.reg [⟨some 3, .box (.t 1), none⟩,
    ⟨some 4, .mv (.k (.int .i64 0)), none⟩])
  (.seq (.reg [⟨some 8, .load true 1 (.t 3), none⟩,
    ⟨some 9, .call (.k (.fn 53 [] [])) [(.t 8)], none⟩,
    ⟨some 7, .mv (.t 9), none⟩,
    ⟨some 10, .ext (.t 7) 0, none⟩,
    ⟨some 11, .ext (.t 7) 1, none⟩,
    ⟨some 5, .new [.nils, (.int .i64 0), (.int .i64 0), (.int .i64 0), (.int .i64 0), (.int .i64 0), (.int .i64 0), (.int .i64 0), (.int .i64 0), (.int .i64 0), (.int .i64 0), (.int .i64 0), (.int .i64 0), (.int .i64 0), (.int .i64 0)], none⟩,
    ⟨none, .store 15 (.t 5) (.t 10), none⟩,
    ⟨some 6, .mv (.t 11), none⟩])
  (.seq (.seq (.reg [⟨some 12, .mv (.t 6), none⟩,
    ⟨some 13, .bin .eql (.t 12) (.k (.int .i64 0)), none⟩])
  (.cond (.t 13) (.reg [⟨some 14, .mv (.t 0), none⟩,
      ⟨some 15, .load true 15 (.t 5), none⟩,
      ⟨some 16, .nchk (.t 14), none⟩,
      ⟨some 17, .faddr 66624 (.t 16), none⟩,
      ⟨none, .store 15 (.t 17) (.t 15), none⟩])
    (.skip)))
  (.seq (.reg [⟨some 18, .mv (.t 6), none⟩,
    ⟨some 4, .mv (.t 18), none⟩])
  (.ret))))
def c66 : ACode :=
  .seq (.reg [⟨some 7, .box (.t 3), none⟩,
    ⟨some 8, .mv (.k (.int .i64 0)), none⟩])
  (.seq (.block 0 (.seq (.reg [⟨some 10, .mv (.t 0), none⟩,
     ⟨some 11, .call (.k (.fn 47 [] [])) [(.t 10)], none⟩,
     ⟨some 12, .un .not (.t 11), none⟩,
     ⟨some 9, .mv (.t 12), none⟩])
   (.cond (.t 9) (.seq (.reg [⟨some 8, .mv (.k (.int .i64 1)), none⟩])
     (.ret))
     (.seq (.reg [⟨some 14, .mv (.t 2), none⟩,
       ⟨some 15, .bin .lss (.t 14) (.k (.int .i64 1)), none⟩,
       ⟨some 16, .mv (.t 15), none⟩,
       ⟨some 17, .mv (.t 1), some (16, false)⟩,
       ⟨some 18, .bin .lss (.t 17) (.k (.int .i64 0)), some (16, false)⟩,
       ⟨some 19, .pick (.t 16) (.k (.bool true)) (.t 18), none⟩,
       ⟨some 20, .mv (.t 19), none⟩,
       ⟨some 21, .mv (.t 1), some (20, false)⟩,
       ⟨some 22, .bin .geq (.t 21) (.k (.int .i64 1024)), some (20, false)⟩,
       ⟨some 23, .pick (.t 20) (.k (.bool true)) (.t 22), none⟩,
       ⟨some 24, .mv (.t 23), none⟩,
       ⟨some 25, .mv (.t 2), some (24, false)⟩,
       ⟨some 26, .mv (.t 1), some (24, false)⟩,
       ⟨some 27, .bin .sub (.k (.int .i64 1024)) (.t 26), some (24, false)⟩,
       ⟨some 28, .bin .gtr (.t 25) (.t 27), some (24, false)⟩,
       ⟨some 29, .pick (.t 24) (.k (.bool true)) (.t 28), none⟩,
       ⟨some 13, .mv (.t 29), none⟩])
     (.cond (.t 13) (.seq (.reg [⟨some 8, .mv (.k (.int .i64 7)), none⟩])
       (.ret))
       (.seq (.reg [⟨some 31, .mv (.t 0), none⟩,
         ⟨some 32, .mv (.t 1), none⟩,
         ⟨some 33, .mv (.t 2), none⟩,
         ⟨some 34, .faddr 1 (.t 7), none⟩,
         ⟨some 35, .load false 1 (.t 34), none⟩,
         ⟨some 36, .call (.k (.fn 40 [] [])) [(.t 31), (.t 32), (.t 33), (.t 35)], none⟩,
         ⟨some 37, .un .not (.t 36), none⟩,
         ⟨some 30, .mv (.t 37), none⟩])
       (.cond (.t 30) (.seq (.reg [⟨some 8, .mv (.k (.int .i64 9)), none⟩])
         (.ret))
         (.seq (.reg [⟨some 39, .mv (.t 0), none⟩,
           ⟨some 40, .faddr 0 (.t 7), none⟩,
           ⟨some 41, .load false 1 (.t 40), none⟩,
           ⟨some 42, .call (.k (.fn 84 [] [])) [(.t 39), (.t 41)], none⟩,
           ⟨some 38, .mv (.t 42), none⟩])
         (.cond (.t 38) (.seq (.reg [⟨some 8, .mv (.k (.int .i64 60)), none⟩])
           (.ret))
           (.skip))))))))))
  (.seq (.reg [⟨some 43, .mv (.t 0), none⟩,
    ⟨some 44, .mv (.t 1), none⟩,
    ⟨some 45, .mv (.t 2), none⟩,
    ⟨some 46, .faddr 2 (.t 7), none⟩,
    ⟨some 47, .load false 1 (.t 46), none⟩,
    ⟨some 48, .call (.k (.fn 42 [] [])) [(.t 43), (.t 44), (.t 45), (.t 47)], none⟩])
  (.seq (.reg [⟨some 8, .mv (.k (.int .i64 0)), none⟩])
  (.ret))))
theorem b66 : Body Try.prog 66 c66 [.tmp 8] 49 := ⟨by kernel_rfl, _, _, Try.func66, rfl, by kernel_rfl, by kernel_rfl, rfl⟩
def c67 : ACode :=
  .seq (.reg [⟨some 4, .box (.t 1), none⟩,
    ⟨some 5, .box (.t 2), none⟩,
    ⟨some 6, .new [(.int .i64 0), .nilf, .nilf], none⟩])
  (.seq (.reg [⟨some 7, .mv (.t 0), none⟩,
    ⟨some 8, .mkfn 85 [] [(.t 4)], none⟩,
    ⟨some 9, .mkfn 86 [] [(.t 5)], none⟩,
    ⟨some 10, .build [(.int .i64 0), .nilf, .nilf] [(0, 1, (.t 7)), (1, 1, (.t 8)), (2, 1, (.t 9))], none⟩,
    ⟨none, .store 3 (.t 6) (.t 10), none⟩])
  (.ret))
theorem b67 : Body Try.prog 67 c67 [.cell 6 true 3] 11 := ⟨by kernel_rfl, _, _, Try.func67, rfl, by kernel_rfl, by kernel_rfl, rfl⟩
def c68 : ACode :=
  .seq (.reg [⟨some 2, .box (.t 0), none⟩,
    ⟨some 3, .box (.t 1), none⟩,
    ⟨some 4, .mv (.k (.bool false)), none⟩])
  (.seq (.seq (.reg [⟨some 6, .faddr 0 (.t 2), none⟩,
    ⟨some 7, .load false 1 (.t 6), none⟩,
    ⟨some 8, .len (.t 7), none⟩,
    ⟨some 9, .faddr 0 (.t 3), none⟩,
    ⟨some 10, .load false 1 (.t 9), none⟩,
    ⟨some 11, .len (.t 10), none⟩,
    ⟨some 12, .bin .neq (.t 8) (.t 11), none⟩])
  (.cond (.t 12) (.seq (.reg [⟨some 4, .mv (.k (.bool false)), none⟩])
    (.ret))
    (.skip)))
  (.seq (.seq (.reg [⟨some 5, .mv (.k (.int .i64 0)), none⟩])
  (.block 0 (.loop (.seq (.seq (.reg [⟨some 13, .mv (.t 5), none⟩,
      ⟨some 14, .faddr 0 (.t 2), none⟩,
      ⟨some 15, .load false 1 (.t 14), none⟩,
      ⟨some 16, .len (.t 15), none⟩,
      ⟨some 17, .bin .lss (.t 13) (.t 16), none⟩])
    (.cond (.t 17) (.skip)
      (.exit 0)))
    (.seq (.block 1 (.seq (.regD [⟨some 20, .faddr 0 (.t 2), none⟩,
       ⟨some 21, .load false 1 (.t 20), none⟩,
       ⟨some 22, .mv (.t 5), none⟩,
       ⟨some 23, .iaddrS 4 (.t 21) (.t 22), none⟩,
       ⟨some 24, .load true 4 (.t 23), none⟩,
       ⟨some 25, .faddr 0 (.t 3), none⟩,
       ⟨some 26, .load false 1 (.t 25), none⟩,
       ⟨some 27, .mv (.t 5), none⟩,
       ⟨some 28, .iaddrS 4 (.t 26) (.t 27), none⟩,
       ⟨some 29, .load true 4 (.t 28), none⟩,
       ⟨some 30, .eqs true [0, 0, 0, 0] (.t 24) (.t 29), none⟩] [[], [0], [], [1, 2], [3], [], [5], [], [6, 7], [8], [4, 9]])
     (.cond (.t 30) (.seq (.reg [⟨some 4, .mv (.k (.bool false)), none⟩])
       (.ret))
       (.skip))))
    (.reg [⟨some 18, .mv (.t 5), none⟩,
      ⟨some 19, .bin .add (.t 18) (.k (.int .i64 1)), none⟩,
      ⟨some 5, .mv (.t 19), none⟩]))))))
  (.seq (.reg [⟨some 4, .mv (.k (.bool true)), none⟩])
  (.ret))))
theorem b68 : Body Try.prog 68 c68 [.tmp 4] 31 := ⟨by kernel_rfl, _, _, Try.func68, rfl, by kernel_rfl, by kernel_rfl, rfl⟩
def c69 : ACode :=
  .seq (.reg [⟨some 6, .mv (.k (.bool false)), none⟩])
  (.seq (.reg [⟨some 7, .mv (.t 0), none⟩,
    ⟨some 8, .mv (.t 1), none⟩,
    ⟨some 9, .bin .geq (.t 7) (.t 8), none⟩,
    ⟨some 10, .mv (.t 9), none⟩,
    ⟨some 11, .mv (.t 0), some (10, true)⟩,
    ⟨some 12, .mv (.t 2), some (10, true)⟩,
    ⟨some 13, .bin .leq (.t 11) (.t 12), some (10, true)⟩,
    ⟨some 14, .pick (.t 10) (.t 13) (.k (.bool false)), none⟩,
    ⟨some 6, .mv (.t 14), none⟩])
  (.ret))
theorem b69 : Body Try.prog 69 c69 [.tmp 6] 15 := ⟨by kernel_rfl, _, _, Try.func69, rfl, by kernel_rfl, by kernel_rfl, rfl⟩
def c70 : ACode :=
  .seq (.reg [⟨some 3, .box (.t 0), none⟩,
    ⟨some 6, .mv (.k (.bool false)), none⟩])
  (.seq (.seq (.reg [⟨some 7, .mv (.k (.int .i64 0)), none⟩])
  (.block 0 (.loop (.seq (.seq (.reg [⟨some 8, .mv (.t 7), none⟩,
      ⟨some 9, .faddr 0 (.t 3), none⟩,
      ⟨some 10, .load false 1 (.t 9), none⟩,
      ⟨some 11, .len (.t 10), none⟩,
      ⟨some 12, .bin .lss (.t 8) (.t 11), none⟩])
    (.cond (.t 12) (.skip)
      (.exit 0)))
    (.seq (.block 1 (.seq (.reg [⟨some 15, .faddr 0 (.t 3), none⟩,
       ⟨some 16, .load false 1 (.t 15), none⟩,
       ⟨some 17, .mv (.t 7), none⟩,
       ⟨some 18, .iaddrS 4 (.t 16) (.t 17), none⟩,
       ⟨some 19, .load true 4 (.t 18), none⟩,
       ⟨some 20, .mv (.t 1), none⟩,
       ⟨some 21, .mv (.t 2), none⟩,
       ⟨some 22, .call (.k (.fn 87 [] [])) [(.t 19), (.t 20), (.t 21)], none⟩])
     (.cond (.t 22) (.seq (.reg [⟨some 6, .mv (.k (.bool true)), none⟩])
       (.ret))
       (.skip))))
    (.reg [⟨some 13, .mv (.t 7), none⟩,
      ⟨some 14, .bin .add (.t 13) (.k (.int .i64 1)), none⟩,
      ⟨some 7, .mv (.t 14), none⟩]))))))
  (.seq (.reg [⟨some 6, .mv (.k (.bool false)), none⟩])
  (.ret)))
theorem b70 : Body Try.prog 70 c70 [.tmp 6] 23 := ⟨by kernel_rfl, _, _, Try.func70, rfl, by kernel_rfl, by kernel_rfl, rfl⟩
def c71 : ACode :=
  .seq (.reg [⟨some 2, .mv (.k (.bool false)), none⟩])
  (.seq (.reg [⟨some 3, .mv (.t 0), none⟩,
    ⟨some 4, .nchk (.t 3), none⟩,
    ⟨some 5, .faddr 1 (.t 4), none⟩,
    ⟨some 6, .load false 1 (.t 5), none⟩,
    ⟨some 2, .mv (.t 6), none⟩])
  (.ret))
def c72 : ACode :=
  .reg [⟨some 2, .mv (.t 0), none⟩,
    ⟨some 3, .nchk (.t 2), none⟩,
    ⟨some 4, .faddr 1 (.t 3), none⟩,
    ⟨none, .store 1 (.t 4) (.k (.bool false)), none⟩]
def c73 : ACode :=
  .seq (.reg [⟨some 1, .box (.t 0), none⟩,
    ⟨some 2, .mv (.k (.int .i64 0)), none⟩,
    ⟨some 3, .mv (.k (.int .i64 0)), none⟩])
  (.seq (.seq (.reg [⟨some 7, .faddr 0 (.t 1), none⟩,
    ⟨some 8, .load false 1 (.t 7), none⟩,
    ⟨some 9, .len (.t 8), none⟩,
    ⟨some 10, .bin .gtr (.t 9) (.k (.int .i64 50)), none⟩])
  (.cond (.t 10) (.seq (.reg [⟨some 2, .mv (.k (.int .i64 0)), none⟩,
      ⟨some 3, .mv (.k (.int .i64 3)), none⟩])
    (.ret))
    (.skip)))
  (.seq (.seq (.reg [⟨some 11, .faddr 0 (.t 1), none⟩,
    ⟨some 12, .load false 1 (.t 11), none⟩,
    ⟨some 13, .len (.t 12), none⟩,
    ⟨some 14, .mv (.k (.int .i64 0)), none⟩])
  (.block 0 (.loop (.seq (.reg [⟨some 15, .bin .lss (.t 14) (.t 13), none⟩])
    (.seq (.cond (.t 15) (.skip)
      (.exit 0))
    (.seq (.block 1 (.seq (.reg [⟨some 16, .mv (.t 14), none⟩,
       ⟨some 17, .iaddrS 4 (.t 12) (.t 14), none⟩,
       ⟨some 18, .load true 4 (.t 17), none⟩,
       ⟨some 5, .new [(.int .i64 0), (.int .i64 0), (.int .i64 0), (.int .i64 0)], none⟩,
       ⟨some 4, .mv (.t 16), none⟩,
       ⟨none, .store 4 (.t 5) (.t 18), none⟩])
     (.seq (.reg [⟨some 19, .load true 4 (.t 5), none⟩,
       ⟨some 20, .call (.k (.fn 88 [] [])) [(.t 19)], none⟩,
       ⟨some 6, .mv (.t 20), none⟩])
     (.seq (.reg [⟨some 21, .mv (.t 6), none⟩,
       ⟨some 22, .bin .neq (.t 21) (.k (.int .i64 0)), none⟩])
     (.cond (.t 22) (.seq (.reg [⟨some 23, .mv (.t 4), none⟩,
         ⟨some 24, .mv (.t 6), none⟩,
         ⟨some 2, .mv (.t 23), none⟩,
         ⟨some 3, .mv (.t 24), none⟩])
       (.ret))
       (.skip))))))
    (.reg [⟨some 25, .bin .add (.t 14) (.k (.int .i64 1)), none⟩,
      ⟨some 14, .mv (.t 25), none⟩])))))))
  (.seq (.reg [⟨some 2, .mv (.k (.int .i64 0)), none⟩,
    ⟨some 3, .mv (.k (.int .i64 0)), none⟩])
  (.ret))))
theorem b73 : Body Try.prog 73 c73 [.tmp 2, .tmp 3] 26 := ⟨by kernel_rfl, _, _, Try.func73, rfl, by kernel_rfl, by kernel_rfl, rfl⟩
def c74 : ACode :=
  .seq (.reg [⟨some 3, .box (.t 0), none⟩,
    ⟨some 6, .mv (.k (.int .i64 0)), none⟩])
  (.seq (.seq (.reg [⟨some 9, .load true 1 (.t 3), none⟩,
    ⟨some 10, .mv (.t 1), none⟩,
    ⟨some 11, .mv (.t 2), none⟩,
    ⟨some 12, .call (.k (.fn 89 [] [])) [(.t 9), (.t 10), (.t 11)], none⟩,
    ⟨some 13, .len (.t 12), none⟩,
    ⟨some 14, .mv (.k (.int .i64 0)), none⟩])
  (.block 0 (.loop (.seq (.reg [⟨some 15, .bin .lss (.t 14) (.t 13), none⟩])
    (.seq (.cond (.t 15) (.skip)
      (.exit 0))
    (.seq (.block 1 (.seq (.reg [⟨some 16, .iaddrS 1 (.t 12) (.t 14), none⟩,
       ⟨some 17, .load false 1 (.t 16), none⟩,
       ⟨some 8, .mv (.t 17), none⟩])
     (.seq (.reg [⟨some 18, .mv (.t 8), none⟩])
     (.cond (.t 18) (.reg [⟨some 19, .mv (.t 6), none⟩,
         ⟨some 20, .bin .add (.t 19) (.k (.int .i64 1)), none⟩,
         ⟨some 6, .mv (.t 20), none⟩])
       (.skip)))))
    (.reg [⟨some 21, .bin .add (.t 14) (.k (.int .i64 1)), none⟩,
      ⟨some 14, .mv (.t 21), none⟩])))))))
  (.seq (.reg [⟨some 22, .mv (.t 6), none⟩,
    ⟨some 6, .mv (.t 22), none⟩])
  (.ret)))
theorem b74 : Body Try.prog 74 c74 [.tmp 6] 23 := ⟨by kernel_rfl, _, _, Try.func74, rfl, by kernel_rfl, by kernel_rfl, rfl⟩
def c75 : ACode :=
  .seq (.reg [⟨some 1, .box (.t 0), none⟩,
    ⟨some 2, .mv (.k (.int .i64 0)), none⟩,
    ⟨some 3, .mv (.k (.int .i64 0)), none⟩])
  (.seq (.seq (.reg [⟨some 6, .faddr 0 (.t 1), none⟩,
    ⟨some 7, .load false 1 (.t 6), none⟩,
    ⟨some 8, .len (.t 7), none⟩,
    ⟨some 9, .bin .gtr (.t 8) (.k (.int .i64 50)), none⟩])
  (.cond (.t 9) (.seq (.reg [⟨some 2, .mv (.k (.int .i64 0)), none⟩,
      ⟨some 3, .mv (.k (.int .i64 3)), none⟩])
    (.ret))
    (.skip)))
  (.seq (.seq (.reg [⟨some 4, .mv (.k (.int .i64 0)), none⟩])
  (.block 0 (.loop (.seq (.seq (.reg [⟨some 10, .mv (.t 4), none⟩,
      ⟨some 11, .faddr 0 (.t 1), none⟩,
      ⟨some 12, .load false 1 (.t 11), none⟩,
      ⟨some 13, .len (.t 12), none⟩,
      ⟨some 14, .bin .lss (.t 10) (.t 13), none⟩])
    (.cond (.t 14) (.skip)
      (.exit 0)))
    (.seq (.block 1 (.seq (.reg [⟨some 17, .faddr 0 (.t 1), none⟩,
       ⟨some 18, .load false 1 (.t 17), none⟩,
       ⟨some 19, .mv (.t 4), none⟩,
       ⟨some 20, .iaddrS 4 (.t 18) (.t 19), none⟩,
       ⟨some 21, .load true 4 (.t 20), none⟩,
       ⟨some 22, .call (.k (.fn 90 [] [])) [(.t 21)], none⟩,
       ⟨some 5, .mv (.t 22), none⟩])
     (.seq (.reg [⟨some 23, .mv (.t 5), none⟩,
       ⟨some 24, .bin .neq (.t 23) (.k (.int .i64 0)), none⟩])
     (.cond (.t 24) (.seq (.reg [⟨some 25, .mv (.t 4), none⟩,
         ⟨some 26, .mv (.t 5), none⟩,
         ⟨some 2, .mv (.t 25), none⟩,
         ⟨some 3, .mv (.t 26), none⟩])
       (.ret))
       (.skip)))))
    (.reg [⟨some 15, .mv (.t 4), none⟩,
      ⟨some 16, .bin .add (.t 15) (.k (.int .i64 1)), none⟩,
      ⟨some 4, .mv (.t 16), none⟩]))))))
  (.seq (.reg [⟨some 2, .mv (.k (.int .i64 0)), none⟩,
    ⟨some 3, .mv (.k (.int .i64 0)), none⟩])
  (.ret))))
theorem b75 : Body Try.prog 75 c75 [.tmp 2, .tmp 3] 27 := ⟨by kernel_rfl, _, _, Try.func75, rfl, by kernel_rfl, by kernel_rfl, rfl⟩
def c76 : ACode :=
  .seq (.reg [⟨some 3, .box (.t 0), none⟩,
    ⟨some 6, .mv (.k (.int .i64 0)), none⟩])
  (.seq (.reg [⟨some 7, .mv (.k (.int .i64 0)), none⟩])
  (.seq (.seq (.reg [⟨some 8, .mv (.k (.int .i64 1)), none⟩])
  (.block 0 (.loop (.seq (.seq (.reg [⟨some 9, .mv (.t 8), none⟩,
      ⟨some 10, .mv (.t 2), none⟩,
      ⟨some 11, .bin .leq (.t 9) (.t 10), none⟩])
    (.cond (.t 11) (.skip)
      (.exit 0)))
    (.seq (.block 1 (.seq (.reg [⟨some 14, .load true 1 (.t 3), none⟩,
       ⟨some 15, .mv (.t 1), none⟩,
       ⟨some 16, .mv (.t 8), none⟩,
       ⟨some 17, .call (.k (.fn 70 [] [])) [(.t 14), (.t 15), (.t 16)], none⟩])
     (.cond (.t 17) (.reg [⟨some 18, .mv (.t 7), none⟩,
         ⟨some 19, .bin .add (.t 18) (.k (.int .i64 1)), none⟩,
         ⟨some 7, .mv (.t 19), none⟩])
       (.skip))))
    (.reg [⟨some 12, .mv (.t 8), none⟩,
      ⟨some 13, .bin .add (.t 12) (.k (.int .i64 1)), none⟩,
      ⟨some 8, .mv (.t 13), none⟩]))))))
  (.seq (.reg [⟨some 20, .mv (.t 7), none⟩,
    ⟨some 6, .mv (.t 20), none⟩])
  (.ret))))
theorem b76 : Body Try.prog 76 c76 [.tmp 6] 21 := ⟨by kernel_rfl, _, _, Try.func76, rfl, by kernel_rfl, by kernel_rfl, rfl⟩
def c77 : ACode :=
  .seq (.reg [⟨some 2, .box (.t 0), none⟩,
    ⟨some 4, .mv (.k .nils), none⟩])
  (.seq (.seq (.reg [⟨some 6, .mv (.t 1), none⟩])
  (.block 0 (.rangeF (.t 6) [7] (.reg [⟨some 5, .new [(.int .i64 0), (.int .i64 0), (.int .i64 0)], none⟩,
       ⟨none, .store 3 (.t 5) (.t 7), none⟩])
     (.block 1 (.reg [⟨some 8, .load false 1 (.t 2), none⟩,
        ⟨some 9, .load true 3 (.t 5), none⟩,
        ⟨some 10, .bslice 3 1 [(.int .i64 0), (.int .i64 0), (.int .i64 0)] [(0, 3, (.t 9))], none⟩,
        ⟨some 11, .append 3 24 (.t 8) (.t 10), none⟩,
        ⟨none, .store 1 (.t 2) (.t 11), none⟩])))))
  (.seq (.reg [⟨some 12, .load false 1 (.t 2), none⟩,
    ⟨some 4, .mv (.t 12), none⟩])
  (.ret)))
theorem b77 : Body Try.prog 77 c77 [.tmp 4] 13 := ⟨by kernel_rfl, _, _, Try.func77, rfl, by kernel_rfl, by kernel_rfl, rfl⟩
def c78 : ACode :=
  .seq (.reg [⟨some 3, .mv (.k (.int .i64 0)), none⟩])
  (.block 0 (.loop (.seq (.seq (.reg [⟨some 5, .mv (.t 3), none⟩,
      ⟨some 6, .bin .lss (.t 5) (.k (.int .i64 1024)), none⟩])
    (.cond (.t 6) (.skip)
      (.exit 0)))
    (.block 1 (.seq (.reg [⟨some 7, .mv (.t 3), none⟩,
       ⟨some 8, .load false 1 (.t 1), none⟩,
       ⟨some 9, .mv (.t 3), none⟩,
       ⟨some 10, .nchk (.t 8), none⟩,
       ⟨some 11, .faddr 1 (.t 10), none⟩,
       ⟨some 12, .iaddrA 1024 66 (.t 11) (.t 9), none⟩,
       ⟨some 13, .faddr 0 (.t 12), none⟩,
       ⟨some 14, .load false 1 (.t 13), none⟩,
       ⟨some 15, .build [(.int .i64 0), (.int .i64 0), (.int .i64 0)] [(0, 1, (.t 7)), (2, 1, (.t 14))], none⟩,
       ⟨some 4, .new [(.int .i64 0), (.int .i64 0), (.int .i64 0)], none⟩,
       ⟨none, .store 3 (.t 4) (.t 15), none⟩])
     (.seq (.block 2 (.loop (.seq (.seq (.regD [⟨some 16, .mv (.t 3), none⟩,
         ⟨some 17, .bin .lss (.t 16) (.k (.int .i64 1024)), none⟩,
         ⟨some 18, .mv (.t 17), none⟩,
         ⟨some 19, .load false 1 (.t 1), some (18, true)⟩,
         ⟨some 20, .mv (.t 3), some (18, true)⟩,
         ⟨some 21, .nchk (.t 19), some (18, true)⟩,
         ⟨some 22, .faddr 1 (.t 21), some (18, true)⟩,
         ⟨some 23, .iaddrA 1024 66 (.t 22) (.t 20), some (18, true)⟩,
         ⟨some 24, .faddr 0 (.t 23), some (18, true)⟩,
         ⟨some 25, .load false 1 (.t 24), some (18, true)⟩,
         ⟨some 26, .faddr 2 (.t 4), some (18, true)⟩,
         ⟨some 27, .load false 1 (.t 26), some (18, true)⟩,
         ⟨some 28, .bin .eql (.t 25) (.t 27), some (18, true)⟩,
         ⟨some 29, .pick (.t 18) (.t 28) (.k (.bool false)), none⟩] [[], [0], [1], [2], [2], [3, 2], [5, 2], [6, 4, 2], [7, 2], [8, 2], [2], [10, 2], [9, 11, 2], [2, 12]])
       (.cond (.t 29) (.skip)
         (.exit 2)))
       (.block 3 (.seq (.reg [⟨some 30, .mv (.t 3), none⟩,
          ⟨some 31, .bin .add (.t 30) (.k (.int .i64 1)), none⟩,
          ⟨some 3, .mv (.t 31), none⟩])
        (.reg [⟨some 32, .faddr 1 (.t 4), none⟩,
          ⟨some 33, .load false 1 (.t 32), none⟩,
          ⟨some 34, .bin .add (.t 33) (.k (.int .i64 1)), none⟩,
          ⟨some 35, .faddr 1 (.t 4), none⟩,
          ⟨none, .store 1 (.t 35) (.t 34), none⟩]))))))
     (.seq (.reg [⟨some 36, .faddr 2 (.t 4), none⟩,
       ⟨some 37, .load false 1 (.t 36), none⟩,
       ⟨some 38, .bin .neq (.t 37) (.k (.int .i64 0)), none⟩,
       ⟨some 39, .mv (.t 38), none⟩,
       ⟨some 40, .mv (.t 0), some (39, true)⟩,
       ⟨some 41, .load true 3 (.t 4), some (39, true)⟩,
       ⟨some 42, .call (.t 40) [(.t 41)], some (39, true)⟩,
       ⟨some 43, .un .not (.t 42), some (39, true)⟩,
       ⟨some 44, .pick (.t 39) (.t 43) (.k (.bool false)), none⟩])
     (.cond (.t 44) (.ret)
       (.skip)))))))))
theorem b78 : Body Try.prog 78 c78 [] 45 := ⟨by kernel_rfl, _, _, Try.func78, rfl, by kernel_rfl, by kernel_rfl, rfl⟩
def c79 : ACode :=
  .seq (.reg [⟨some 2, .mv (.k (.bool false)), none⟩])
  (.seq (.reg [⟨some 3, .mv (.t 0), none⟩,
    ⟨some 4, .nchk (.t 3), none⟩,
    ⟨some 5, .faddr 0 (.t 4), none⟩,
    ⟨some 6, .load false 1 (.t 5), none⟩,
    ⟨some 7, .bin .eql (.t 6) (.k (.int .i64 2)), none⟩,
    ⟨some 2, .mv (.t 7), none⟩])
  (.ret))
def c80 : ACode :=
  .reg [⟨some 2, .mv (.t 0), none⟩,
    ⟨some 3, .nchk (.t 2), none⟩,
    ⟨some 4, .faddr 1 (.t 3), none⟩,
    ⟨none, .store 1 (.t 4) (.k (.bool true)), none⟩]
def c81 : ACode :=
  .seq (.reg [⟨some 12, .mv (.k (.int .i64 0)), none⟩])
  (.seq (.seq (.reg [⟨some 14, .mv (.t 2), none⟩,
    ⟨some 15, .bin .lss (.t 14) (.k (.int .i64 1)), none⟩,
    ⟨some 16, .mv (.t 15), none⟩,
    ⟨some 17, .mv (.t 1), some (16, false)⟩,
    ⟨some 18, .call (.k (.fn 45 [] [])) [(.t 17)], some (16, false)⟩,
    ⟨some 19, .un .not (.t 18), some (16, false)⟩,
    ⟨some 20, .pick (.t 16) (.k (.bool true)) (.t 19), none⟩,
    ⟨some 21, .mv (.t 20), none⟩,
    ⟨some 22, .mv (.t 2), some (21, false)⟩,
    ⟨some 23, .mv (.t 1), some (21, false)⟩,
    ⟨some 24, .bin .sub (.k (.int .i64 1024)) (.t 23), some (21, false)⟩,
    ⟨some 25, .bin .gtr (.t 22) (.t 24), some (21, false)⟩,
    ⟨some 26, .pick (.t 21) (.k (.bool true)) (.t 25), none⟩])
  (.cond (.t 26) (.seq (.reg [⟨some 12, .mv (.k (.int .i64 7)), none⟩])
    (.ret))
    (.skip)))
  (.seq (.seq (.reg [⟨some 27, .mv (.t 0), none⟩,
    ⟨some 28, .mv (.t 1), none⟩,
    ⟨some 29, .mv (.t 2), none⟩,
    ⟨some 30, .mv (.t 3), none⟩,
    ⟨some 31, .call (.k (.fn 46 [] [])) [(.t 27), (.t 28), (.t 29), (.t 30)], none⟩,
    ⟨some 32, .un .not (.t 31), none⟩])
  (.cond (.t 32) (.seq (.reg [⟨some 12, .mv (.k (.int .i64 9)), none⟩])
    (.ret))
    (.skip)))
  (.seq (.seq (.reg [⟨some 33, .mv (.t 1), none⟩,
    ⟨some 13, .mv (.t 33), none⟩])
  (.block 0 (.loop (.seq (.seq (.reg [⟨some 34, .mv (.t 13), none⟩,
      ⟨some 35, .mv (.t 1), none⟩,
      ⟨some 36, .mv (.t 2), none⟩,
      ⟨some 37, .bin .add (.t 35) (.t 36), none⟩,
      ⟨some 38, .bin .lss (.t 34) (.t 37), none⟩])
    (.cond (.t 38) (.skip)
      (.exit 0)))
    (.seq (.block 1 (.seq (.reg [⟨some 41, .mv (.t 0), none⟩,
       ⟨some 42, .mv (.t 13), none⟩,
       ⟨some 43, .bin .quo (.t 42) (.k (.int .i64 16)), none⟩,
       ⟨some 44, .nchk (.t 41), none⟩,
       ⟨some 45, .faddr 1024 (.t 44), none⟩,
       ⟨some 46, .iaddrA 64 1 (.t 45) (.t 43), none⟩,
       ⟨some 47, .load false 1 (.t 46), none⟩])
     (.cond (.t 47) (.seq (.reg [⟨some 12, .mv (.k (.int .i64 9)), none⟩])
       (.ret))
       (.skip))))
    (.reg [⟨some 39, .mv (.t 13), none⟩,
      ⟨some 40, .bin .add (.t 39) (.k (.int .i64 1)), none⟩,
      ⟨some 13, .mv (.t 40), none⟩]))))))
  (.seq (.seq (.reg [⟨some 48, .mv (.t 0), none⟩,
    ⟨some 49, .mv (.t 5), none⟩,
    ⟨some 50, .call (.k (.fn 82 [] [])) [(.t 48), (.t 49)], none⟩])
  (.cond (.t 50) (.seq (.reg [⟨some 12, .mv (.k (.int .i64 60)), none⟩])
    (.ret))
    (.skip)))
  (.seq (.reg [⟨some 51, .mv (.t 0), none⟩,
    ⟨some 52, .mv (.t 1), none⟩,
    ⟨some 53, .mv (.t 2), none⟩,
    ⟨some 54, .mv (.t 4), none⟩,
    ⟨some 55, .call (.k (.fn 91 [] [])) [(.t 51), (.t 52), (.t 53), (.t 54)], none⟩])
  (.seq (.reg [⟨some 12, .mv (.k (.int .i64 0)), none⟩])
  (.ret)))))))
def c82 : ACode :=
  .seq (.reg [⟨some 4, .mv (.k (.bool false)), none⟩])
  (.seq (.reg [⟨some 9, .mv (.t 0), none⟩,
    ⟨some 10, .nchk (.t 9), none⟩,
    ⟨some 11, .faddr 66624 (.t 10), none⟩,
    ⟨some 12, .load true 15 (.t 11), none⟩,
    ⟨some 13, .mv (.t 1), none⟩,
    ⟨some 14, .call (.k (.fn 32 [] [])) [(.t 12), (.t 13)], none⟩,
    ⟨some 8, .mv (.t 14), none⟩,
    ⟨some 15, .ext (.t 8) 0, none⟩,
    ⟨some 16, .ext (.t 8) 1, none⟩,
    ⟨some 17, .ext (.t 8) 2, none⟩,
    ⟨some 5, .new [.nils, (.int .i64 0), (.int .i64 0), (.int .i64 0), (.int .i64 0), (.int .i64 0), (.int .i64 0), (.int .i64 0), (.int .i64 0), (.int .i64 0), (.int .i64 0), (.int .i64 0), (.int .i64 0), (.int .i64 0), (.int .i64 0)], none⟩,
    ⟨none, .store 15 (.t 5) (.t 15), none⟩,
    ⟨some 6, .mv (.t 16), none⟩,
    ⟨some 7, .mv (.t 17), none⟩])
  (.seq (.seq (.reg [⟨some 18, .mv (.t 7), none⟩,
    ⟨some 19, .bin .neq (.t 18) (.k (.int .i64 0)), none⟩])
  (.cond (.t 19) (.seq (.reg [⟨some 4, .mv (.k (.bool false)), none⟩])
    (.ret))
    (.skip)))
  (.seq (.reg [⟨some 20, .mv (.t 0), none⟩,
    ⟨some 21, .load true 15 (.t 5), none⟩,
    ⟨some 22, .nchk (.t 20), none⟩,
    ⟨some 23, .faddr 66624 (.t 22), none⟩,
    ⟨none, .store 15 (.t 23) (.t 21), none⟩])
  (.seq (.reg [⟨some 24, .mv (.t 6), none⟩,
    ⟨some 4, .mv (.t 24), none⟩])
  (.ret)))))
def c83 : ACode :=
  .seq (.reg [⟨some 4, .mv (.k (.int .i64 0)), none⟩,
    ⟨some 5, .mv (.k (.int .i64 0)), none⟩,
    ⟨some 6, .mv (.k (.int .i64 0)), none⟩])
  (.seq (.seq (.reg [⟨some 8, .mv (.t 1), none⟩,
    ⟨some 9, .bin .lss (.t 8) (.k (.int .i64 0)), none⟩,
    ⟨some 10, .mv (.t 9), none⟩,
    ⟨some 11, .mv (.t 1), some (10, false)⟩,
    ⟨some 12, .bin .geq (.t 11) (.k (.int .i64 65536)), some (10, false)⟩,
    ⟨some 13, .pick (.t 10) (.k (.bool true)) (.t 12), none⟩])
  (.cond (.t 13) (.seq (.reg [⟨some 4, .mv (.k (.int .i64 0)), none⟩,
      ⟨some 5, .mv (.k (.int .i64 0)), none⟩,
      ⟨some 6, .mv (.k (.int .i64 7)), none⟩])
    (.ret))
    (.skip)))
  (.seq (.reg [⟨some 14, .mv (.t 1), none⟩,
    ⟨some 15, .bin .quo (.t 14) (.k (.int .i64 64)), none⟩,
    ⟨some 7, .mv (.t 15), none⟩])
  (.seq (.seq (.reg [⟨some 16, .mv (.t 0), none⟩,
    ⟨some 17, .mv (.t 7), none⟩,
    ⟨some 18, .nchk (.t 16), none⟩,
    ⟨some 19, .faddr 0 (.t 18), none⟩,
    ⟨some 20, .iaddrA 1024 1 (.t 19) (.t 17), none⟩,
    ⟨some 21, .load false 1 (.t 20), none⟩,
    ⟨some 22, .bin .neq (.t 21) (.k (.int .i64 2)), none⟩])
  (.cond (.t 22) (.seq (.reg [⟨some 4, .mv (.k (.int .i64 0)), none⟩,
      ⟨some 5, .mv (.k (.int .i64 0)), none⟩,
      ⟨some 6, .mv (.k (.int .i64 61)), none⟩])
    (.ret))
    (.skip)))
  (.seq (.reg [⟨some 23, .mv (.t 7), none⟩,
    ⟨some 24, .mv (.t 1), none⟩,
    ⟨some 25, .bin .rem (.t 24) (.k (.int .i64 64)), none⟩,
    ⟨some 4, .mv (.t 23), none⟩,
    ⟨some 5, .mv (.t 25), none⟩,
    ⟨some 6, .mv (.k (.int .i64 0)), none⟩])
  (.ret)))))
theorem b83 : Body Try.prog 83 c83 [.tmp 4, .tmp 5, .tmp 6] 26 := ⟨by kernel_rfl, _, _, Try.func83, rfl, by kernel_rfl, by kernel_rfl, rfl⟩
def c84 : ACode :=
  .seq (.reg [⟨some 4, .mv (.k (.bool false)), none⟩])
  (.seq (.reg [⟨some 9, .mv (.t 0), none⟩,
    ⟨some 10, .nchk (.t 9), none⟩,
    ⟨some 11, .faddr 67585 (.t 10), none⟩,
    ⟨some 12, .load true 15 (.t 11), none⟩,
    ⟨some 13, .mv (.t 1), none⟩,
    ⟨some 14, .call (.k (.fn 92 [] [])) [(.t 12), (.t 13)], none⟩,
    ⟨some 8, .mv (.t 14), none⟩,
    ⟨some 15, .ext (.t 8) 0, none⟩,
    ⟨some 16, .ext (.t 8) 1, none⟩,
    ⟨some 17, .ext (.t 8) 2, none⟩,
    ⟨some 5, .new [.nils, (.int .i64 0), (.int .i64 0), (.int .i64 0), (.int .i64 0), (.int .i64 0), (.int .i64 0), (.int .i64 0), (.int .i64 0), (.int .i64 0), (.int .i64 0), (.int .i64 0), (.int .i64 0), (.int .i64 0), (.int .i64 0)], none⟩,
    ⟨none, .store 15 (.t 5) (.t 15), none⟩,
    ⟨some 6, .mv (.t 16), none⟩,
    ⟨some 7, .mv (.t 17), none⟩])
  (.seq (.seq (.reg [⟨some 18, .mv (.t 7), none⟩,
    ⟨some 19, .bin .eql (.t 18) (.k (.int .i64 0)), none⟩])
  (.cond (.t 19) (.reg [⟨some 20, .mv (.t 0), none⟩,
      ⟨some 21, .load true 15 (.t 5), none⟩,
      ⟨some 22, .nchk (.t 20), none⟩,
      ⟨some 23, .faddr 67585 (.t 22), none⟩,
      ⟨none, .store 15 (.t 23) (.t 21), none⟩])
    (.skip)))
  (.seq (.reg [⟨some 24, .mv (.t 6), none⟩,
    ⟨some 25, .mv (.t 24), none⟩,
    ⟨some 26, .mv (.t 7), some (25, true)⟩,
    ⟨some 27, .bin .eql (.t 26) (.k (.int .i64 0)), some (25, true)⟩,
    ⟨some 28, .pick (.t 25) (.t 27) (.k (.bool false)), none⟩,
    ⟨some 4, .mv (.t 28), none⟩])
  (.ret))))
theorem b84 : Body Try.prog 84 c84 [.tmp 4] 29 := ⟨by kernel_rfl, _, _, Try.func84, rfl, by kernel_rfl, by kernel_rfl, rfl⟩
def c85 : ACode :=
  .seq (.reg [⟨some 3, .mv (.k (.bool false)), none⟩])
  (.seq (.regD [⟨some 4, .mv (.t 0), none⟩,
    ⟨some 5, .nchk (.t 4), none⟩,
    ⟨some 6, .faddr 0 (.t 5), none⟩,
    ⟨some 7, .load false 1 (.t 6), none⟩,
    ⟨some 8, .load false 1 (.t 1), none⟩,
    ⟨some 9, .bin .eql (.t 7) (.t 8), none⟩,
    ⟨some 10, .mv (.t 9), none⟩,
    ⟨some 11, .mv (.t 0), some (10, true)⟩,
    ⟨some 12, .nchk (.t 11), some (10, true)⟩,
    ⟨some 13, .faddr 1 (.t 12), some (10, true)⟩,
    ⟨some 14, .load false 1 (.t 13), some (10, true)⟩,
    ⟨some 15, .un .not (.t 14), some (10, true)⟩,
    ⟨some 16, .pick (.t 10) (.t 15) (.k (.bool false)), none⟩,
    ⟨some 3, .mv (.t 16), none⟩] [[], [0], [1], [2], [], [3, 4], [5], [6], [7, 6], [8, 6], [9, 6], [10, 6], [6, 11], [12, 6, 0, 1, 2, 3, 4, 5, 6, 7, 8, 9, 10, 11, 12]])
  (.ret))
theorem b85 : Body Try.prog 85 c85 [.tmp 3] 17 := ⟨by kernel_rfl, _, _, Try.func85, rfl, by kernel_rfl, by kernel_rfl, rfl⟩
def c86 : ACode :=
  .reg [⟨some 3, .mv (.t 0), none⟩,
    ⟨some 4, .load false 1 (.t 1), none⟩,
    ⟨some 5, .build [(.int .i64 0), (.bool false), (.int .u8 0), (.int .u8 0), (.int .u8 0), (.int .u8 0), (.int .u8 0), (.int .u8 0), (.int .u8 0), (.int .u8 0), (.int .u8 0), (.int .u8 0), (.int .u8 0), (.int .u8 0), (.int .u8 0), (.int .u8 0), (.int .u8 0), (.int .u8 0), (.int .u8 0), (.int .u8 0), (.int .u8 0), (.int .u8 0), (.int .u8 0), (.int .u8 0), (.int .u8 0), (.int .u8 0), (.int .u8 0), (.int .u8 0), (.int .u8 0), (.int .u8 0), (.int .u8 0), (.int .u8 0), (.int .u8 0), (.int .u8 0), (.int .u8 0), (.int .u8 0), (.int .u8 0), (.int .u8 0), (.int .u8 0), (.int .u8 0), (.int .u8 0), (.int .u8 0), (.int .u8 0), (.int .u8 0), (.int .u8 0), (.int .u8 0), (.int .u8 0), (.int .u8 0), (.int .u8 0), (.int .u8 0), (.int .u8 0), (.int .u8 0), (.int .u8 0), (.int .u8 0), (.int .u8 0), (.int .u8 0), (.int .u8 0), (.int .u8 0), (.int .u8 0), (.int .u8 0), (.int .u8 0), (.int .u8 0), (.int .u8 0), (.int .u8 0), (.int .u8 0), (.int .u8 0)] [(0, 1, (.t 4))], none⟩,
    ⟨some 6, .nchk (.t 3), none⟩,
    ⟨none, .store 66 (.t 6) (.t 5), none⟩]
theorem b86 : Body Try.prog 86 c86 [] 7 := ⟨by kernel_rfl, _, _, Try.func86, rfl, by kernel_rfl, by kernel_rfl, rfl⟩
def c87 : ACode :=
  .seq (.reg [⟨some 3, .box (.t 0), none⟩,
    ⟨some 6, .mv (.k (.bool false)), none⟩])
  (.seq (.seq (.reg [⟨some 8, .faddr 0 (.t 3), none⟩,
    ⟨some 9, .load false 1 (.t 8), none⟩,
    ⟨some 10, .mv (.t 1), none⟩,
    ⟨some 11, .bin .neq (.t 9) (.t 10), none⟩,
    ⟨some 12, .mv (.t 11), none⟩,
    ⟨some 13, .mv (.t 2), some (12, false)⟩,
    ⟨some 14, .faddr 1 (.t 3), some (12, false)⟩,
    ⟨some 15, .load false 1 (.t 14), some (12, false)⟩,
    ⟨some 16, .bin .lss (.t 13) (.t 15), some (12, false)⟩,
    ⟨some 17, .pick (.t 12) (.k (.bool true)) (.t 16), none⟩])
  (.cond (.t 17) (.seq (.reg [⟨some 6, .mv (.k (.bool false)), none⟩])
    (.ret))
    (.skip)))
  (.seq (.seq (.reg [⟨some 18, .faddr 2 (.t 3), none⟩,
    ⟨some 19, .load false 1 (.t 18), none⟩,
    ⟨some 20, .bin .eql (.t 19) (.k (.int .i64 0)), none⟩])
  (.cond (.t 20) (.seq (.reg [⟨some 21, .mv (.t 2), none⟩,
      ⟨some 22, .faddr 1 (.t 3), none⟩,
      ⟨some 23, .load false 1 (.t 22), none⟩,
      ⟨some 24, .bin .eql (.t 21) (.t 23), none⟩,
      ⟨some 6, .mv (.t 24), none⟩])
    (.ret))
    (.skip)))
  (.seq (.reg [⟨some 25, .mv (.t 2), none⟩,
    ⟨some 26, .faddr 1 (.t 3), none⟩,
    ⟨some 27, .load false 1 (.t 26), none⟩,
    ⟨some 28, .bin .sub (.t 25) (.t 27), none⟩,
    ⟨some 29, .faddr 2 (.t 3), none⟩,
    ⟨some 30, .load false 1 (.t 29), none⟩,
    ⟨some 31, .bin .quo (.t 28) (.t 30), none⟩,
    ⟨some 7, .mv (.t 31), none⟩])
  (.seq (.reg [⟨some 32, .faddr 1 (.t 3), none⟩,
    ⟨some 33, .load false 1 (.t 32), none⟩,
    ⟨some 34, .mv (.t 7), none⟩,
    ⟨some 35, .faddr 2 (.t 3), none⟩,
    ⟨some 36, .load false 1 (.t 35), none⟩,
    ⟨some 37, .bin .mul (.t 34) (.t 36), none⟩,
    ⟨some 38, .bin .add (.t 33) (.t 37), none⟩,
    ⟨some 39, .mv (.t 2), none⟩,
    ⟨some 40, .bin .eql (.t 38) (.t 39), none⟩,
    ⟨some 41, .mv (.t 40), none⟩,
    ⟨some 42, .faddr 3 (.t 3), some (41, true)⟩,
    ⟨some 43, .load false 1 (.t 42), some (41, true)⟩,
    ⟨some 44, .bin .eql (.t 43) (.k (.int .i64 0)), some (41, true)⟩,
    ⟨some 45, .mv (.t 44), some (41, true)⟩,
    ⟨some 46, .mv (.t 7), some (45, false)⟩,
    ⟨some 47, .faddr 3 (.t 3), some (45, false)⟩,
    ⟨some 48, .load false 1 (.t 47), some (45, false)⟩,
    ⟨some 49, .bin .lss (.t 46) (.t 48), some (45, false)⟩,
    ⟨some 50, .pick (.t 45) (.k (.bool true)) (.t 49), some (41, true)⟩,
    ⟨some 51, .pick (.t 41) (.t 50) (.k (.bool false)), none⟩,
    ⟨some 6, .mv (.t 51), none⟩])
  (.ret)))))
theorem b87 : Body Try.prog 87 c87 [.tmp 6] 52 := ⟨by kernel_rfl, _, _, Try.func87, rfl, by kernel_rfl, by kernel_rfl, rfl⟩
def c88 : ACode :=
  .seq (.reg [⟨some 1, .box (.t 0), none⟩,
    ⟨some 2, .mv (.k (.int .i64 0)), none⟩])
  (.seq (.block 0 (.seq (.reg [⟨some 4, .faddr 0 (.t 1), none⟩,
     ⟨some 5, .load false 1 (.t 4), none⟩,
     ⟨some 6, .bin .lss (.t 5) (.k (.int .i64 0)), none⟩,
     ⟨some 7, .mv (.t 6), none⟩,
     ⟨some 8, .faddr 0 (.t 1), some (7, false)⟩,
     ⟨some 9, .load false 1 (.t 8), some (7, false)⟩,
     ⟨some 10, .bin .geq (.t 9) (.k (.int .i64 7)), some (7, false)⟩,
     ⟨some 11, .pick (.t 7) (.k (.bool true)) (.t 10), none⟩,
     ⟨some 3, .mv (.t 11), none⟩])
   (.cond (.t 3) (.seq (.reg [⟨some 2, .mv (.k (.int .i64 2)), none⟩])
     (.ret))
     (.seq (.reg [⟨some 13, .faddr 1 (.t 1), none⟩,
       ⟨some 14, .load false 1 (.t 13), none⟩,
       ⟨some 15, .bin .lss (.t 14) (.k (.int .i64 1)), none⟩,
       ⟨some 16, .mv (.t 15), none⟩,
       ⟨some 17, .faddr 1 (.t 1), some (16, false)⟩,
       ⟨some 18, .load false 1 (.t 17), some (16, false)⟩,
       ⟨some 19, .bin .gtr (.t 18) (.k (.int .i64 10000)), some (16, false)⟩,
       ⟨some 20, .pick (.t 16) (.k (.bool true)) (.t 19), none⟩,
       ⟨some 21, .mv (.t 20), none⟩,
       ⟨some 22, .faddr 2 (.t 1), some (21, false)⟩,
       ⟨some 23, .load false 1 (.t 22), some (21, false)⟩,
       ⟨some 24, .bin .lss (.t 23) (.k (.int .i64 0)), some (21, false)⟩,
       ⟨some 25, .pick (.t 21) (.k (.bool true)) (.t 24), none⟩,
       ⟨some 26, .mv (.t 25), none⟩,
       ⟨some 27, .faddr 2 (.t 1), some (26, false)⟩,
       ⟨some 28, .load false 1 (.t 27), some (26, false)⟩,
       ⟨some 29, .bin .gtr (.t 28) (.k (.int .i64 12)), some (26, false)⟩,
       ⟨some 30, .pick (.t 26) (.k (.bool true)) (.t 29), none⟩,
       ⟨some 31, .mv (.t 30), none⟩,
       ⟨some 32, .faddr 3 (.t 1), some (31, false)⟩,
       ⟨some 33, .load false 1 (.t 32), some (31, false)⟩,
       ⟨some 34, .bin .lss (.t 33) (.k (.int .i64 0)), some (31, false)⟩,
       ⟨some 35, .pick (.t 31) (.k (.bool true)) (.t 34), none⟩,
       ⟨some 36, .mv (.t 35), none⟩,
       ⟨some 37, .faddr 3 (.t 1), some (36, false)⟩,
       ⟨some 38, .load false 1 (.t 37), some (36, false)⟩,
       ⟨some 39, .bin .gtr (.t 38) (.k (.int .i64 1000)), some (36, false)⟩,
       ⟨some 40, .pick (.t 36) (.k (.bool true)) (.t 39), none⟩,
       ⟨some 12, .mv (.t 40), none⟩])
     (.cond (.t 12) (.seq (.reg [⟨some 2, .mv (.k (.int .i64 7)), none⟩])
       (.ret))
       (.seq (.reg [⟨some 42, .faddr 2 (.t 1), none⟩,
         ⟨some 43, .load false 1 (.t 42), none⟩,
         ⟨some 44, .bin .eql (.t 43) (.k (.int .i64 0)), none⟩,
         ⟨some 45, .mv (.t 44), none⟩,
         ⟨some 46, .faddr 3 (.t 1), some (45, true)⟩,
         ⟨some 47, .load false 1 (.t 46), some (45, true)⟩,
         ⟨some 48, .bin .neq (.t 47) (.k (.int .i64 1)), some (45, true)⟩,
         ⟨some 49, .pick (.t 45) (.t 48) (.k (.bool false)), none⟩,
         ⟨some 41, .mv (.t 49), none⟩])
       (.cond (.t 41) (.seq (.reg [⟨some 2, .mv (.k (.int .i64 6)), none⟩])
         (.ret))
         (.skip))))))))
  (.seq (.reg [⟨some 2, .mv (.k (.int .i64 0)), none⟩])
  (.ret)))
theorem b88 : Body Try.prog 88 c88 [.tmp 2] 50 := ⟨by kernel_rfl, _, _, Try.func88, rfl, by kernel_rfl, by kernel_rfl, rfl⟩
def c89 : ACode :=
  .seq (.reg [⟨some 3, .box (.t 0), none⟩,
    ⟨some 6, .mv (.k .nils), none⟩])
  (.seq (.reg [⟨some 11, .mv (.t 2), none⟩,
    ⟨some 12, .bin .add (.t 11) (.k (.int .i64 1)), none⟩,
    ⟨some 13, .mks 1 1 [(.bool false)] (.t 12) (.t 12), none⟩,
    ⟨some 7, .new [.nils], none⟩,
    ⟨none, .store 1 (.t 7) (.t 13), none⟩])
  (.seq (.seq (.reg [⟨some 14, .faddr 0 (.t 3), none⟩,
    ⟨some 15, .load false 1 (.t 14), none⟩,
    ⟨some 16, .len (.t 15), none⟩,
    ⟨some 17, .mv (.k (.int .i64 0)), none⟩])
  (.block 0 (.loop (.seq (.reg [⟨some 18, .bin .lss (.t 17) (.t 16), none⟩])
    (.seq (.cond (.t 18) (.skip)
      (.exit 0))
    (.seq (.block 1 (.seq (.reg [⟨some 19, .iaddrS 4 (.t 15) (.t 17), none⟩,
       ⟨some 20, .load true 4 (.t 19), none⟩,
       ⟨some 9, .new [(.int .i64 0), (.int .i64 0), (.int .i64 0), (.int .i64 0)], none⟩,
       ⟨none, .store 4 (.t 9) (.t 20), none⟩])
     (.seq (.seq (.reg [⟨some 21, .faddr 0 (.t 9), none⟩,
       ⟨some 22, .load false 1 (.t 21), none⟩,
       ⟨some 23, .mv (.t 1), none⟩,
       ⟨some 24, .bin .neq (.t 22) (.t 23), none⟩])
     (.cond (.t 24) (.exit 1)
       (.skip)))
     (.seq (.reg [⟨some 25, .load true 4 (.t 9), none⟩,
       ⟨some 26, .mv (.t 2), none⟩,
       ⟨some 27, .call (.k (.fn 93 [] [])) [(.t 25), (.t 26)], none⟩])
     (.block 2 (.rangeF (.t 27) [28] (.reg [⟨some 10, .mv (.t 28), none⟩])
        (.block 3 (.reg [⟨some 29, .load false 1 (.t 7), none⟩,
           ⟨some 30, .mv (.t 10), none⟩,
           ⟨some 31, .iaddrS 1 (.t 29) (.t 30), none⟩,
           ⟨none, .store 1 (.t 31) (.k (.bool true)), none⟩]))))))))
    (.reg [⟨some 32, .bin .add (.t 17) (.k (.int .i64 1)), none⟩,
      ⟨some 17, .mv (.t 32), none⟩])))))))
  (.seq (.reg [⟨some 33, .load false 1 (.t 7), none⟩,
    ⟨some 6, .mv (.t 33), none⟩])
  (.ret))))
theorem b89 : Body Try.prog 89 c89 [.tmp 6] 34 := ⟨by kernel_rfl, _, _, Try.func89, rfl, by kernel_rfl, by kernel_rfl, rfl⟩
def c90 : ACode :=
  .seq (.reg [⟨some 1, .box (.t 0), none⟩,
    ⟨some 2, .mv (.k (.int .i64 0)), none⟩])
  (.seq (.seq (.reg [⟨some 3, .faddr 0 (.t 1), none⟩,
    ⟨some 4, .load false 1 (.t 3), none⟩,
    ⟨some 5, .call (.k (.fn 69 [] [])) [(.t 4), (.k (.int .i64 0)), (.k (.int .i64 6))], none⟩,
    ⟨some 6, .un .not (.t 5), none⟩])
  (.cond (.t 6) (.seq (.reg [⟨some 2, .mv (.k (.int .i64 2)), none⟩])
    (.ret))
    (.skip)))
  (.seq (.seq (.reg [⟨some 7, .faddr 1 (.t 1), none⟩,
    ⟨some 8, .load false 1 (.t 7), none⟩,
    ⟨some 9, .call (.k (.fn 69 [] [])) [(.t 8), (.k (.int .i64 1)), (.k (.int .i64 10000))], none⟩,
    ⟨some 10, .un .not (.t 9), none⟩,
    ⟨some 11, .mv (.t 10), none⟩,
    ⟨some 12, .faddr 2 (.t 1), some (11, false)⟩,
    ⟨some 13, .load false 1 (.t 12), some (11, false)⟩,
    ⟨some 14, .call (.k (.fn 69 [] [])) [(.t 13), (.k (.int .i64 0)), (.k (.int .i64 12))], some (11, false)⟩,
    ⟨some 15, .un .not (.t 14), some (11, false)⟩,
    ⟨some 16, .pick (.t 11) (.k (.bool true)) (.t 15), none⟩,
    ⟨some 17, .mv (.t 16), none⟩,
    ⟨some 18, .faddr 3 (.t 1), some (17, false)⟩,
    ⟨some 19, .load false 1 (.t 18), some (17, false)⟩,
    ⟨some 20, .call (.k (.fn 69 [] [])) [(.t 19), (.k (.int .i64 0)), (.k (.int .i64 1000))], some (17, false)⟩,
    ⟨some 21, .un .not (.t 20), some (17, false)⟩,
    ⟨some 22, .pick (.t 17) (.k (.bool true)) (.t 21), none⟩])
  (.cond (.t 22) (.seq (.reg [⟨some 2, .mv (.k (.int .i64 7)), none⟩])
    (.ret))
    (.skip)))
  (.seq (.seq (.reg [⟨some 23, .faddr 2 (.t 1), none⟩,
    ⟨some 24, .load false 1 (.t 23), none⟩,
    ⟨some 25, .bin .eql (.t 24) (.k (.int .i64 0)), none⟩,
    ⟨some 26, .mv (.t 25), none⟩,
    ⟨some 27, .faddr 3 (.t 1), some (26, true)⟩,
    ⟨some 28, .load false 1 (.t 27), some (26, true)⟩,
    ⟨some 29, .bin .neq (.t 28) (.k (.int .i64 1)), some (26, true)⟩,
    ⟨some 30, .pick (.t 26) (.t 29) (.k (.bool false)), none⟩])
  (.cond (.t 30) (.seq (.reg [⟨some 2, .mv (.k (.int .i64 6)), none⟩])
    (.ret))
    (.skip)))
  (.seq (.reg [⟨some 2, .mv (.k (.int .i64 0)), none⟩])
  (.ret)))))
theorem b90 : Body Try.prog 90 c90 [.tmp 2] 31 := ⟨by kernel_rfl, _, _, Try.func90, rfl, by kernel_rfl, by kernel_rfl, rfl⟩
def c91 : ACode :=
  .seq (.reg [⟨some 9, .mv (.t 1), none⟩,
    ⟨some 8, .mv (.t 9), none⟩])
  (.block 0 (.loop (.seq (.seq (.reg [⟨some 10, .mv (.t 8), none⟩,
      ⟨some 11, .mv (.t 1), none⟩,
      ⟨some 12, .mv (.t 2), none⟩,
      ⟨some 13, .bin .add (.t 11) (.t 12), none⟩,
      ⟨some 14, .bin .lss (.t 10) (.t 13), none⟩])
    (.cond (.t 14) (.skip)
      (.exit 0)))
    (.seq (.block 1 (.seq (.reg [⟨some 17, .mv (.t 0), none⟩,
       ⟨some 18, .mv (.t 8), none⟩,
       ⟨some 19, .mv (.t 3), none⟩,
       ⟨some 20, .nchk (.t 17), none⟩,
       ⟨some 21, .faddr 0 (.t 20), none⟩,
       ⟨some 22, .iaddrA 1024 1 (.t 21) (.t 18), none⟩,
       ⟨none, .store 1 (.t 22) (.t 19), none⟩])
     (.reg [⟨some 23, .mv (.t 0), none⟩,
       ⟨some 24, .mv (.t 8), none⟩,
       ⟨some 25, .build (List.replicate 64 (.int .u8 0)) [], none⟩,
       ⟨some 26, .nchk (.t 23), none⟩,
       ⟨some 27, .faddr 1088 (.t 26), none⟩,
       ⟨some 28, .iaddrA 1024 64 (.t 27) (.t 24), none⟩,
       ⟨none, .store 64 (.t 28) (.t 25), none⟩])))
    (.reg [⟨some 15, .mv (.t 8), none⟩,
      ⟨some 16, .bin .add (.t 15) (.k (.int .i64 1)), none⟩,
      ⟨some 8, .mv (.t 16), none⟩])))))
def c92 : ACode :=
  .seq (.reg [⟨some 2, .box (.t 0), none⟩,
    ⟨some 4, .new [.nils, (.int .i64 0), (.int .i64 0), (.int .i64 0), (.int .i64 0), (.int .i64 0), (.int .i64 0), (.int .i64 0), (.int .i64 0), (.int .i64 0), (.int .i64 0), (.int .i64 0), (.int .i64 0), (.int .i64 0), (.int .i64 0)], none⟩,
    ⟨some 5, .mv (.k (.bool false)), none⟩,
    ⟨some 6, .mv (.k (.int .i64 0)), none⟩])
  (.seq (.seq (.reg [⟨some 9, .load true 15 (.t 2), none⟩,
    ⟨some 10, .call (.k (.fn 37 [] [])) [(.t 9)], none⟩,
    ⟨some 7, .mv (.t 10), none⟩])
  (.seq (.reg [⟨some 11, .mv (.t 7), none⟩,
    ⟨some 12, .bin .neq (.t 11) (.k (.int .i64 0)), none⟩])
  (.cond (.t 12) (.seq (.reg [⟨some 13, .build [.nils, (.int .i64 0), (.int .i64 0), (.int .i64 0), (.int .i64 0), (.int .i64 0), (.int .i64 0), (.int .i64 0), (.int .i64 0), (.int .i64 0), (.int .i64 0), (.int .i64 0), (.int .i64 0), (.int .i64 0), (.int .i64 0)] [], none⟩,
      ⟨some 14, .mv (.t 7), none⟩,
      ⟨none, .store 15 (.t 4) (.t 13), none⟩,
      ⟨some 5, .mv (.k (.bool false)), none⟩,
      ⟨some 6, .mv (.t 14), none⟩])
    (.ret))
    (.skip))))
  (.seq (.block 0 (.seq (.reg [⟨some 16, .mv (.t 1), none⟩,
     ⟨some 17, .bin .lss (.t 16) (.k (.int .i64 0)), none⟩,
     ⟨some 18, .mv (.t 17), none⟩,
     ⟨some 19, .mv (.t 1), some (18, false)⟩,
     ⟨some 20, .bin .geq (.t 19) (.k (.int .i64 7)), some (18, false)⟩,
     ⟨some 21, .pick (.t 18) (.k (.bool true)) (.t 20), none⟩,
     ⟨some 15, .mv (.t 21), none⟩])
   (.cond (.t 15) (.seq (.reg [⟨some 22, .build [.nils, (.int .i64 0), (.int .i64 0), (.int .i64 0), (.int .i64 0), (.int .i64 0), (.int .i64 0), (.int .i64 0), (.int .i64 0), (.int .i64 0), (.int .i64 0), (.int .i64 0), (.int .i64 0), (.int .i64 0), (.int .i64 0)] [], none⟩,
       ⟨none, .store 15 (.t 4) (.t 22), none⟩,
       ⟨some 5, .mv (.k (.bool false)), none⟩,
       ⟨some 6, .mv (.k (.int .i64 2)), none⟩])
     (.ret))
     (.seq (.reg [⟨some 24, .mv (.t 1), none⟩,
       ⟨some 25, .faddr 1 (.t 2), none⟩,
       ⟨some 26, .iaddrA 7 1 (.t 25) (.t 24), none⟩,
       ⟨some 27, .load false 1 (.t 26), none⟩,
       ⟨some 28, .bin .eql (.t 27) (.k (.int .i64 1000000)), none⟩,
       ⟨some 23, .mv (.t 28), none⟩])
     (.cond (.t 23) (.seq (.reg [⟨some 29, .build [.nils, (.int .i64 0), (.int .i64 0), (.int .i64 0), (.int .i64 0), (.int .i64 0), (.int .i64 0), (.int .i64 0), (.int .i64 0), (.int .i64 0), (.int .i64 0), (.int .i64 0), (.int .i64 0), (.int .i64 0), (.int .i64 0)] [], none⟩,
         ⟨none, .store 15 (.t 4) (.t 29), none⟩,
         ⟨some 5, .mv (.k (.bool false)), none⟩,
         ⟨some 6, .mv (.k (.int .i64 3)), none⟩])
       (.ret))
       (.skip))))))
  (.seq (.reg [⟨some 30, .faddr 0 (.t 2), none⟩,
    ⟨some 31, .faddr 0 (.t 30), none⟩,
    ⟨some 32, .load false 1 (.t 31), none⟩,
    ⟨some 33, .call (.k (.fn 38 [] [])) [(.t 32)], none⟩,
    ⟨some 34, .faddr 0 (.t 2), none⟩,
    ⟨some 35, .faddr 0 (.t 34), none⟩,
    ⟨none, .store 1 (.t 35) (.t 33), none⟩])
  (.seq (.reg [⟨some 36, .mv (.t 1), none⟩,
    ⟨some 37, .faddr 1 (.t 2), none⟩,
    ⟨some 38, .iaddrA 7 1 (.t 37) (.t 36), none⟩,
    ⟨some 39, .load false 1 (.t 38), none⟩,
    ⟨some 40, .bin .add (.t 39) (.k (.int .i64 1)), none⟩,
    ⟨some 41, .faddr 1 (.t 2), none⟩,
    ⟨some 42, .iaddrA 7 1 (.t 41) (.t 36), none⟩,
    ⟨none, .store 1 (.t 42) (.t 40), none⟩])
  (.seq (.regD [⟨some 43, .faddr 0 (.t 2), none⟩,
    ⟨some 44, .load true 1 (.t 43), none⟩,
    ⟨some 45, .mv (.t 1), none⟩,
    ⟨some 46, .mv (.t 1), none⟩,
    ⟨some 47, .faddr 1 (.t 2), none⟩,
    ⟨some 48, .iaddrA 7 1 (.t 47) (.t 46), none⟩,
    ⟨some 49, .load false 1 (.t 48), none⟩,
    ⟨some 50, .call (.k (.fn 94 [] [])) [(.t 44), (.t 45), (.t 49)], none⟩,
    ⟨some 8, .mv (.t 50), none⟩] [[], [0], [], [], [], [4, 3], [5], [1, 2, 6], [7, 7, 0, 1, 2, 3, 4, 5, 6, 7]])
  (.seq (.seq (.reg [⟨some 51, .mv (.t 8), none⟩])
  (.cond (.t 51) (.reg [⟨some 52, .mv (.t 1), none⟩,
      ⟨some 53, .faddr 8 (.t 2), none⟩,
      ⟨some 54, .iaddrA 7 1 (.t 53) (.t 52), none⟩,
      ⟨some 55, .load false 1 (.t 54), none⟩,
      ⟨some 56, .bin .add (.t 55) (.k (.int .i64 1)), none⟩,
      ⟨some 57, .faddr 8 (.t 2), none⟩,
      ⟨some 58, .iaddrA 7 1 (.t 57) (.t 52), none⟩,
      ⟨none, .store 1 (.t 58) (.t 56), none⟩])
    (.skip)))
  (.seq (.reg [⟨some 59, .load true 15 (.t 2), none⟩,
    ⟨some 60, .mv (.t 8), none⟩,
    ⟨none, .store 15 (.t 4) (.t 59), none⟩,
    ⟨some 5, .mv (.t 60), none⟩,
    ⟨some 6, .mv (.k (.int .i64 0)), none⟩])
  (.ret))))))))
theorem b92 : Body Try.prog 92 c92 [.cell 4 true 15, .tmp 5, .tmp 6] 61 := ⟨by kernel_rfl, _, _, Try.func92, rfl, by kernel_rfl, by kernel_rfl, rfl⟩
def c93 : ACode :=
  .seq (.reg [⟨some 2, .box (.t 0), none⟩,
    ⟨some 3, .box (.t 1), none⟩,
    ⟨some 4, .mv (.k .nilf), none⟩])
  (.seq (.reg [⟨some 5, .mkfn 95 [] [(.t 2), (.t 3)], none⟩,
    ⟨some 4, .mv (.t 5), none⟩])
  (.ret))
theorem b93 : Body Try.prog 93 c93 [.tmp 4] 6 := ⟨by kernel_rfl, _, _, Try.func93, rfl, by kernel_rfl, by kernel_rfl, rfl⟩
def c94 : ACode :=
  .seq (.reg [⟨some 3, .box (.t 0), none⟩,
    ⟨some 4, .box (.t 1), none⟩,
    ⟨some 5, .box (.t 2), none⟩,
    ⟨some 6, .mv (.k (.bool false)), none⟩])
  (.seq (.reg [⟨some 7, .faddr 0 (.t 3), none⟩,
    ⟨some 8, .load false 1 (.t 7), none⟩,
    ⟨some 9, .mkfn 97 [] [(.t 4), (.t 5)], none⟩,
    ⟨some 10, .call (.k (.fn 96 [] [])) [(.t 8), (.t 9)], none⟩,
    ⟨some 6, .mv (.t 10), none⟩])
  (.ret))
theorem b94 : Body Try.prog 94 c94 [.tmp 6] 11 := ⟨by kernel_rfl, _, _, Try.func94, rfl, by kernel_rfl, by kernel_rfl, rfl⟩
def c95 : ACode :=
  .seq (.reg [⟨some 6, .faddr 1 (.t 1), none⟩,
    ⟨some 7, .load false 1 (.t 6), none⟩,
    ⟨some 4, .mv (.t 7), none⟩])
  (.seq (.reg [⟨some 5, .mv (.k (.int .i64 0)), none⟩])
  (.block 0 (.loop (.seq (.seq (.reg [⟨some 8, .mv (.t 4), none⟩,
      ⟨some 9, .load false 1 (.t 2), none⟩,
      ⟨some 10, .bin .leq (.t 8) (.t 9), none⟩,
      ⟨some 11, .mv (.t 10), none⟩,
      ⟨some 12, .faddr 3 (.t 1), some (11, true)⟩,
      ⟨some 13, .load false 1 (.t 12), some (11, true)⟩,
      ⟨some 14, .bin .eql (.t 13) (.k (.int .i64 0)), some (11, true)⟩,
      ⟨some 15, .mv (.t 14), some (11, true)⟩,
      ⟨some 16, .mv (.t 5), some (15, false)⟩,
      ⟨some 17, .faddr 3 (.t 1), some (15, false)⟩,
      ⟨some 18, .load false 1 (.t 17), some (15, false)⟩,
      ⟨some 19, .bin .lss (.t 16) (.t 18), some (15, false)⟩,
      ⟨some 20, .pick (.t 15) (.k (.bool true)) (.t 19), some (11, true)⟩,
      ⟨some 21, .pick (.t 11) (.t 20) (.k (.bool false)), none⟩])
    (.cond (.t 21) (.skip)
      (.exit 0)))
    (.seq (.block 1 (.seq (.seq (.reg [⟨some 24, .mv (.t 0), none⟩,
       ⟨some 25, .mv (.t 4), none⟩,
       ⟨some 26, .call (.t 24) [(.t 25)], none⟩,
       ⟨some 27, .un .not (.t 26), none⟩])
     (.cond (.t 27) (.ret)
       (.skip)))
     (.reg [⟨some 28, .mv (.t 4), none⟩,
       ⟨some 29, .faddr 2 (.t 1), none⟩,
       ⟨some 30, .load false 1 (.t 29), none⟩,
       ⟨some 31, .bin .add (.t 28) (.t 30), none⟩,
       ⟨some 4, .mv (.t 31), none⟩])))
    (.reg [⟨some 22, .mv (.t 5), none⟩,
      ⟨some 23, .bin .add (.t 22) (.k (.int .i64 1)), none⟩,
      ⟨some 5, .mv (.t 23), none⟩]))))))
theorem b95 : Body Try.prog 95 c95 [] 32 := ⟨by kernel_rfl, _, _, Try.func95, rfl, by kernel_rfl, by kernel_rfl, rfl⟩
def c96 : ACode :=
  .seq (.reg [⟨some 4, .mv (.k (.bool false)), none⟩])
  (.seq (.reg [⟨some 5, .mv (.t 0), none⟩,
    ⟨some 6, .mv (.t 1), none⟩,
    ⟨some 7, .call (.k (.fn 99 [] [])) [(.t 5), (.t 6)], none⟩,
    ⟨some 8, .bin .geq (.t 7) (.k (.int .i64 0)), none⟩,
    ⟨some 4, .mv (.t 8), none⟩])
  (.ret))
theorem b96 : Body Try.prog 96 c96 [.tmp 4] 9 := ⟨by kernel_rfl, _, _, Try.func96, rfl, by kernel_rfl, by kernel_rfl, rfl⟩
def c97 : ACode :=
  .seq (.reg [⟨some 3, .box (.t 0), none⟩,
    ⟨some 4, .mv (.k (.bool false)), none⟩])
  (.seq (.regD [⟨some 5, .faddr 0 (.t 3), none⟩,
    ⟨some 6, .load false 1 (.t 5), none⟩,
    ⟨some 7, .load false 1 (.t 1), none⟩,
    ⟨some 8, .bin .eql (.t 6) (.t 7), none⟩,
    ⟨some 9, .mv (.t 8), none⟩,
    ⟨some 10, .load true 4 (.t 3), some (9, true)⟩,
    ⟨some 11, .load false 1 (.t 2), some (9, true)⟩,
    ⟨some 12, .bin .sub (.t 11) (.k (.int .i64 1)), some (9, true)⟩,
    ⟨some 13, .call (.k (.fn 98 [] [])) [(.t 10), (.t 12)], some (9, true)⟩,
    ⟨some 14, .load false 1 (.t 2), some (9, true)⟩,
    ⟨some 15, .bin .eql (.t 13) (.t 14), some (9, true)⟩,
    ⟨some 16, .pick (.t 9) (.t 15) (.k (.bool false)), none⟩,
    ⟨some 4, .mv (.t 16), none⟩] [[], [0], [], [1, 2], [3], [4], [4], [6, 4], [5, 7, 4, 4], [4], [8, 9, 4], [4, 10], [11, 8, 0, 1, 2, 3, 4, 5, 6, 7, 8, 9, 10, 11]])
  (.ret))
theorem b97 : Body Try.prog 97 c97 [.tmp 4] 17 := ⟨by kernel_rfl, _, _, Try.func97, rfl, by kernel_rfl, by kernel_rfl, rfl⟩
def c98 : ACode :=
  .seq (.reg [⟨some 2, .box (.t 0), none⟩,
    ⟨some 4, .mv (.k (.int .i64 0)), none⟩])
  (.seq (.seq (.reg [⟨some 6, .mv (.t 1), none⟩,
    ⟨some 7, .faddr 1 (.t 2), none⟩,
    ⟨some 8, .load false 1 (.t 7), none⟩,
    ⟨some 9, .bin .lss (.t 6) (.t 8), none⟩])
  (.cond (.t 9) (.seq (.reg [⟨some 10, .faddr 1 (.t 2), none⟩,
      ⟨some 11, .load false 1 (.t 10), none⟩,
      ⟨some 4, .mv (.t 11), none⟩])
    (.ret))
    (.skip)))
  (.seq (.seq (.reg [⟨some 12, .faddr 2 (.t 2), none⟩,
    ⟨some 13, .load false 1 (.t 12), none⟩,
    ⟨some 14, .bin .eql (.t 13) (.k (.int .i64 0)), none⟩])
  (.cond (.t 14) (.seq (.reg [⟨some 4, .mv (.k (.int .i64 0)), none⟩])
    (.ret))
    (.skip)))
  (.seq (.reg [⟨some 15, .mv (.t 1), none⟩,
    ⟨some 16, .faddr 1 (.t 2), none⟩,
    ⟨some 17, .load false 1 (.t 16), none⟩,
    ⟨some 18, .bin .sub (.t 15) (.t 17), none⟩,
    ⟨some 19, .faddr 2 (.t 2), none⟩,
    ⟨some 20, .load false 1 (.t 19), none⟩,
    ⟨some 21, .bin .quo (.t 18) (.t 20), none⟩,
    ⟨some 22, .bin .add (.t 21) (.k (.int .i64 1)), none⟩,
    ⟨some 5, .mv (.t 22), none⟩])
  (.seq (.seq (.reg [⟨some 23, .faddr 3 (.t 2), none⟩,
    ⟨some 24, .load false 1 (.t 23), none⟩,
    ⟨some 25, .bin .gtr (.t 24) (.k (.int .i64 0)), none⟩,
    ⟨some 26, .mv (.t 25), none⟩,
    ⟨some 27, .mv (.t 5), some (26, true)⟩,
    ⟨some 28, .faddr 3 (.t 2), some (26, true)⟩,
    ⟨some 29, .load false 1 (.t 28), some (26, true)⟩,
    ⟨some 30, .bin .geq (.t 27) (.t 29), some (26, true)⟩,
    ⟨some 31, .pick (.t 26) (.t 30) (.k (.bool false)), none⟩])
  (.cond (.t 31) (.seq (.reg [⟨some 4, .mv (.k (.int .i64 0)), none⟩])
    (.ret))
    (.skip)))
  (.seq (.reg [⟨some 32, .faddr 1 (.t 2), none⟩,
    ⟨some 33, .load false 1 (.t 32), none⟩,
    ⟨some 34, .mv (.t 5), none⟩,
    ⟨some 35, .faddr 2 (.t 2), none⟩,
    ⟨some 36, .load false 1 (.t 35), none⟩,
    ⟨some 37, .bin .mul (.t 34) (.t 36), none⟩,
    ⟨some 38, .bin .add (.t 33) (.t 37), none⟩,
    ⟨some 4, .mv (.t 38), none⟩])
  (.ret))))))
theorem b98 : Body Try.prog 98 c98 [.tmp 4] 39 := ⟨by kernel_rfl, _, _, Try.func98, rfl, by kernel_rfl, by kernel_rfl, rfl⟩
def c99 : ACode :=
  .seq (.reg [⟨some 4, .mv (.k (.int .i64 0)), none⟩])
  (.seq (.seq (.reg [⟨some 6, .mv (.t 0), none⟩,
    ⟨some 7, .len (.t 6), none⟩,
    ⟨some 8, .mv (.k (.int .i64 0)), none⟩])
  (.block 0 (.loop (.seq (.reg [⟨some 9, .bin .lss (.t 8) (.t 7), none⟩])
    (.seq (.cond (.t 9) (.skip)
      (.exit 0))
    (.seq (.block 1 (.seq (.reg [⟨some 10, .mv (.t 8), none⟩,
       ⟨some 5, .mv (.t 10), none⟩])
     (.seq (.reg [⟨some 11, .mv (.t 1), none⟩,
       ⟨some 12, .mv (.t 0), none⟩,
       ⟨some 13, .mv (.t 5), none⟩,
       ⟨some 14, .iaddrS 4 (.t 12) (.t 13), none⟩,
       ⟨some 15, .load true 4 (.t 14), none⟩,
       ⟨some 16, .call (.t 11) [(.t 15)], none⟩])
     (.cond (.t 16) (.seq (.reg [⟨some 17, .mv (.t 5), none⟩,
         ⟨some 4, .mv (.t 17), none⟩])
       (.ret))
       (.skip)))))
    (.reg [⟨some 18, .bin .add (.t 8) (.k (.int .i64 1)), none⟩,
      ⟨some 8, .mv (.t 18), none⟩])))))))
  (.seq (.reg [⟨some 4, .mv (.k (.int .i64 (-1))), none⟩])
  (.ret)))
theorem b99 : Body Try.prog 99 c99 [.tmp 4] 19 := ⟨by kernel_rfl, _, _, Try.func99, rfl, by kernel_rfl, by kernel_rfl, rfl⟩
end Go.Proofs.Ytjlbfijjfjogiaa
