/-
  Abstract code of functions, printed by a program, and that it is theirs.
-/
import Derived.Test.YtccbhbdbmmkcdaaProg
import Derived.Test.YtccbhbdbmmkcdaaCodeA
set_option linter.unusedSimpArgs false
set_option linter.unusedVariables false
namespace Go.Proofs.Ytccbhbdbmmkcdaa
open Go.Am
def c80 : ACode :=
  .seq (.reg [⟨some 2, .box (.t 0), none⟩,
    ⟨some 4, .new [.nils, (.int .i64 0), (.int .i64 0), (.int .i64 0), (.int .i64 0), (.int .i64 0), (.int .i64 0), (.int .i64 0), (.int .i64 0), (.int .i64 0), (.int .i64 0), (.int .i64 0), (.int .i64 0), (.int .i64 0), (.int .i64 0)], none⟩,
    ⟨some 5, .mv (.k (.bool false)), none⟩,
    ⟨some 6, .mv (.k (.int .i64 0)), none⟩])
  (.seq (.seq (.reg [⟨some 9, .load true 15 (.t 2), none⟩,
    ⟨some 10, .call (.k (.fn 84 [] [])) [(.t 9)], none⟩,
    ⟨some 7, .mv (.t 10), none⟩])
  (.seq (.reg [⟨some 11, .mv (.t 7), none⟩,
    ⟨some 12, .bin .neq (.t 11) (.k (.int .i64 0)), none⟩])
  (.cond (.t 12) (.seq (.reg [⟨some 13, .build [.nils, (.int .i64 0), (.int .i64 0), (.int .i64 0), (.int .i64 0), (.int .i64 0), (.int .i64 0), (.int .i64 0), (.int .i64 0), (.int .i64 0), (.int .i64 0), (.int .i64 0), (.int .i64 0), (.int .i64 0), (.int .i64 0)] [], none⟩,
      ⟨some 14, .mv (.t 7), none⟩,
      ⟨none, .store 15 (.t 4) (.t 13), none⟩,
      ⟨some 5, .mv (.k (.bool false)), none⟩,
      ⟨some 6, .mv (.t 14), none⟩])
    (.ret))
    (.skip))))
  (.seq (.block 0 (.seq (.reg [⟨some 16, .mv (.t 1), none⟩,
     ⟨some 17, .bin .lss (.t 16) (.k (.int .i64 0)), none⟩,
     ⟨some 18, .mv (.t 17), none⟩,
     ⟨some 19, .mv (.t 1), some (18, false)⟩,
     ⟨some 20, .bin .geq (.t 19) (.k (.int .i64 7)), some (18, false)⟩,
     ⟨some 21, .pick (.t 18) (.k (.bool true)) (.t 20), none⟩,
     ⟨some 15, .mv (.t 21), none⟩])
   (.cond (.t 15) (.seq (.reg [⟨some 22, .build [.nils, (.int .i64 0), (.int .i64 0), (.int .i64 0), (.int .i64 0), (.int .i64 0), (.int .i64 0), (.int .i64 0), (.int .i64 0), (.int .i64 0), (.int .i64 0), (.int .i64 0), (.int .i64 0), (.int .i64 0), (.int .i64 0)] [], none⟩,
       ⟨none, .store 15 (.t 4) (.t 22), none⟩,
       ⟨some 5, .mv (.k (.bool false)), none⟩,
       ⟨some 6, .mv (.k (.int .i64 2)), none⟩])
     (.ret))
     (.seq (.reg [⟨some 24, .mv (.t 1), none⟩,
       ⟨some 25, .faddr 1 (.t 2), none⟩,
       ⟨some 26, .iaddrA 7 1 (.t 25) (.t 24), none⟩,
       ⟨some 27, .load false 1 (.t 26), none⟩,
       ⟨some 28, .bin .eql (.t 27) (.k (.int .i64 1000000)), none⟩,
       ⟨some 23, .mv (.t 28), none⟩])
     (.cond (.t 23) (.seq (.reg [⟨some 29, .build [.nils, (.int .i64 0), (.int .i64 0), (.int .i64 0), (.int .i64 0), (.int .i64 0), (.int .i64 0), (.int .i64 0), (.int .i64 0), (.int .i64 0), (.int .i64 0), (.int .i64 0), (.int .i64 0), (.int .i64 0), (.int .i64 0)] [], none⟩,
         ⟨none, .store 15 (.t 4) (.t 29), none⟩,
         ⟨some 5, .mv (.k (.bool false)), none⟩,
         ⟨some 6, .mv (.k (.int .i64 3)), none⟩])
       (.ret))
       (.skip))))))
  (.seq (.reg [⟨some 30, .faddr 0 (.t 2), none⟩,
    ⟨some 31, .faddr 0 (.t 30), none⟩,
    ⟨some 32, .load false 1 (.t 31), none⟩,
    ⟨some 33, .call (.k (.fn 83 [] [])) [(.t 32)], none⟩,
    ⟨some 34, .faddr 0 (.t 2), none⟩,
    ⟨some 35, .faddr 0 (.t 34), none⟩,
    ⟨none, .store 1 (.t 35) (.t 33), none⟩])
  (.seq (.reg [⟨some 36, .mv (.t 1), none⟩,
    ⟨some 37, .faddr 1 (.t 2), none⟩,
    ⟨some 38, .iaddrA 7 1 (.t 37) (.t 36), none⟩,
    ⟨some 39, .load false 1 (.t 38), none⟩,
    ⟨some 40, .bin .add (.t 39) (.k (.int .i64 1)), none⟩,
    ⟨some 41, .faddr 1 (.t 2), none⟩,
    ⟨some 42, .iaddrA 7 1 (.t 41) (.t 36), none⟩,
    ⟨none, .store 1 (.t 42) (.t 40), none⟩])
  (.seq (.regD [⟨some 43, .faddr 0 (.t 2), none⟩,
    ⟨some 44, .load true 1 (.t 43), none⟩,
    ⟨some 45, .mv (.t 1), none⟩,
    ⟨some 46, .mv (.t 1), none⟩,
    ⟨some 47, .faddr 1 (.t 2), none⟩,
    ⟨some 48, .iaddrA 7 1 (.t 47) (.t 46), none⟩,
    ⟨some 49, .load false 1 (.t 48), none⟩,
    ⟨some 50, .call (.k (.fn 85 [] [])) [(.t 44), (.t 45), (.t 49)], none⟩,
    ⟨some 8, .mv (.t 50), none⟩] [[], [0], [], [], [], [4, 3], [5], [1, 2, 6], [7, 7, 0, 1, 2, 3, 4, 5, 6, 7]])
  (.seq (.seq (.reg [⟨some 51, .mv (.t 8), none⟩])
  (.cond (.t 51) (.reg [⟨some 52, .mv (.t 1), none⟩,
      ⟨some 53, .faddr 8 (.t 2), none⟩,
      ⟨some 54, .iaddrA 7 1 (.t 53) (.t 52), none⟩,
      ⟨some 55, .load false 1 (.t 54), none⟩,
      ⟨some 56, .bin .add (.t 55) (.k (.int .i64 1)), none⟩,
      ⟨some 57, .faddr 8 (.t 2), none⟩,
      ⟨some 58, .iaddrA 7 1 (.t 57) (.t 52), none⟩,
      ⟨none, .store 1 (.t 58) (.t 56), none⟩])
    (.skip)))
  (.seq (.reg [⟨some 59, .load true 15 (.t 2), none⟩,
    ⟨some 60, .mv (.t 8), none⟩,
    ⟨none, .store 15 (.t 4) (.t 59), none⟩,
    ⟨some 5, .mv (.t 60), none⟩,
    ⟨some 6, .mv (.k (.int .i64 0)), none⟩])
  (.ret))))))))
theorem b80 : Body Try.prog 80 c80 [.cell 4 true 15, .tmp 5, .tmp 6] 61 := ⟨by kernel_rfl, _, _, Try.func80, rfl, by kernel_rfl, by kernel_rfl, rfl⟩
def c81 : ACode :=
  .seq (.reg [⟨some 6, .mv (.t 0), none⟩,
    ⟨some 7, .nchk (.t 6), none⟩,
    ⟨some 8, .faddr 0 (.t 7), none⟩,
    ⟨some 9, .load false 1 (.t 8), none⟩,
    ⟨some 10, .mv (.t 1), none⟩,
    ⟨some 11, .iaddrS 7 (.t 9) (.t 10), none⟩,
    ⟨some 4, .mv (.t 11), none⟩])
  (.seq (.regD [⟨some 12, .mv (.t 0), none⟩,
    ⟨some 13, .nchk (.t 12), none⟩,
    ⟨some 14, .faddr 1 (.t 13), none⟩,
    ⟨some 15, .load false 1 (.t 14), none⟩,
    ⟨some 16, .mv (.t 4), none⟩,
    ⟨some 17, .nchk (.t 16), none⟩,
    ⟨some 18, .faddr 4 (.t 17), none⟩,
    ⟨some 19, .load false 1 (.t 18), none⟩,
    ⟨some 20, .iaddrS 3 (.t 15) (.t 19), none⟩,
    ⟨some 5, .mv (.t 20), none⟩] [[], [0], [1], [2], [], [4], [5], [6], [3, 7], [8, 0, 1, 2, 3, 4, 5, 6, 7, 8]])
  (.seq (.seq (.reg [⟨some 21, .mv (.t 4), none⟩,
    ⟨some 22, .nchk (.t 21), none⟩,
    ⟨some 23, .faddr 6 (.t 22), none⟩,
    ⟨some 24, .load false 1 (.t 23), none⟩,
    ⟨some 25, .bin .eql (.t 24) (.k (.int .i64 (-1))), none⟩])
  (.cond (.t 25) (.reg [⟨some 26, .mv (.t 5), none⟩,
      ⟨some 27, .mv (.t 4), none⟩,
      ⟨some 28, .nchk (.t 27), none⟩,
      ⟨some 29, .faddr 5 (.t 28), none⟩,
      ⟨some 30, .load false 1 (.t 29), none⟩,
      ⟨some 31, .nchk (.t 26), none⟩,
      ⟨some 32, .faddr 0 (.t 31), none⟩,
      ⟨none, .store 1 (.t 32) (.t 30), none⟩])
    (.regD [⟨some 33, .mv (.t 0), none⟩,
      ⟨some 34, .nchk (.t 33), none⟩,
      ⟨some 35, .faddr 0 (.t 34), none⟩,
      ⟨some 36, .load false 1 (.t 35), none⟩,
      ⟨some 37, .mv (.t 4), none⟩,
      ⟨some 38, .nchk (.t 37), none⟩,
      ⟨some 39, .faddr 6 (.t 38), none⟩,
      ⟨some 40, .load false 1 (.t 39), none⟩,
      ⟨some 41, .mv (.t 4), none⟩,
      ⟨some 42, .nchk (.t 41), none⟩,
      ⟨some 43, .faddr 5 (.t 42), none⟩,
      ⟨some 44, .load false 1 (.t 43), none⟩,
      ⟨some 45, .iaddrS 7 (.t 36) (.t 40), none⟩,
      ⟨some 46, .faddr 5 (.t 45), none⟩,
      ⟨none, .store 1 (.t 46) (.t 44), none⟩] [[], [0], [1], [2], [], [4], [5], [6], [], [8], [9], [10], [3, 7, 0, 1, 2, 3, 4, 5, 6, 7, 8, 9, 10, 11], [12, 0, 1, 2, 3, 4, 5, 6, 7, 8, 9, 10, 11], [13, 11, 0, 1, 2, 3, 4, 5, 6, 7, 8, 9, 10, 11]])))
  (.seq (.seq (.reg [⟨some 47, .mv (.t 4), none⟩,
    ⟨some 48, .nchk (.t 47), none⟩,
    ⟨some 49, .faddr 5 (.t 48), none⟩,
    ⟨some 50, .load false 1 (.t 49), none⟩,
    ⟨some 51, .bin .eql (.t 50) (.k (.int .i64 (-1))), none⟩])
  (.cond (.t 51) (.reg [⟨some 52, .mv (.t 5), none⟩,
      ⟨some 53, .mv (.t 4), none⟩,
      ⟨some 54, .nchk (.t 53), none⟩,
      ⟨some 55, .faddr 6 (.t 54), none⟩,
      ⟨some 56, .load false 1 (.t 55), none⟩,
      ⟨some 57, .nchk (.t 52), none⟩,
      ⟨some 58, .faddr 1 (.t 57), none⟩,
      ⟨none, .store 1 (.t 58) (.t 56), none⟩])
    (.regD [⟨some 59, .mv (.t 0), none⟩,
      ⟨some 60, .nchk (.t 59), none⟩,
      ⟨some 61, .faddr 0 (.t 60), none⟩,
      ⟨some 62, .load false 1 (.t 61), none⟩,
      ⟨some 63, .mv (.t 4), none⟩,
      ⟨some 64, .nchk (.t 63), none⟩,
      ⟨some 65, .faddr 5 (.t 64), none⟩,
      ⟨some 66, .load false 1 (.t 65), none⟩,
      ⟨some 67, .mv (.t 4), none⟩,
      ⟨some 68, .nchk (.t 67), none⟩,
      ⟨some 69, .faddr 6 (.t 68), none⟩,
      ⟨some 70, .load false 1 (.t 69), none⟩,
      ⟨some 71, .iaddrS 7 (.t 62) (.t 66), none⟩,
      ⟨some 72, .faddr 6 (.t 71), none⟩,
      ⟨none, .store 1 (.t 72) (.t 70), none⟩] [[], [0], [1], [2], [], [4], [5], [6], [], [8], [9], [10], [3, 7, 0, 1, 2, 3, 4, 5, 6, 7, 8, 9, 10, 11], [12, 0, 1, 2, 3, 4, 5, 6, 7, 8, 9, 10, 11], [13, 11, 0, 1, 2, 3, 4, 5, 6, 7, 8, 9, 10, 11]])))
  (.seq (.reg [⟨some 73, .mv (.t 5), none⟩,
    ⟨some 74, .nchk (.t 73), none⟩,
    ⟨some 75, .faddr 2 (.t 74), none⟩,
    ⟨some 76, .load false 1 (.t 75), none⟩,
    ⟨some 77, .bin .sub (.t 76) (.k (.int .i64 1)), none⟩,
    ⟨some 78, .nchk (.t 73), none⟩,
    ⟨some 79, .faddr 2 (.t 78), none⟩,
    ⟨none, .store 1 (.t 79) (.t 77), none⟩])
  (.reg [⟨some 80, .mv (.t 4), none⟩,
    ⟨some 81, .mv (.t 4), none⟩,
    ⟨some 82, .mv (.t 4), none⟩,
    ⟨some 83, .nchk (.t 80), none⟩,
    ⟨some 84, .faddr 4 (.t 83), none⟩,
    ⟨none, .store 1 (.t 84) (.k (.int .i64 (-1))), none⟩,
    ⟨some 85, .nchk (.t 81), none⟩,
    ⟨some 86, .faddr 6 (.t 85), none⟩,
    ⟨none, .store 1 (.t 86) (.k (.int .i64 (-1))), none⟩,
    ⟨some 87, .nchk (.t 82), none⟩,
    ⟨some 88, .faddr 5 (.t 87), none⟩,
    ⟨none, .store 1 (.t 88) (.k (.int .i64 (-1))), none⟩])))))
theorem b81 : Body Try.prog 81 c81 [] 89 := ⟨by kernel_rfl, _, _, Try.func81, rfl, by kernel_rfl, by kernel_rfl, rfl⟩
def c82 : ACode :=
  .seq (.reg [⟨some 1, .box (.t 0), none⟩,
    ⟨some 2, .mv (.k (.int .i64 0)), none⟩,
    ⟨some 3, .mv (.k (.int .i64 0)), none⟩])
  (.seq (.seq (.reg [⟨some 7, .faddr 0 (.t 1), none⟩,
    ⟨some 8, .load false 1 (.t 7), none⟩,
    ⟨some 9, .len (.t 8), none⟩,
    ⟨some 10, .bin .gtr (.t 9) (.k (.int .i64 50)), none⟩])
  (.cond (.t 10) (.seq (.reg [⟨some 2, .mv (.k (.int .i64 0)), none⟩,
      ⟨some 3, .mv (.k (.int .i64 3)), none⟩])
    (.ret))
    (.skip)))
  (.seq (.seq (.reg [⟨some 11, .faddr 0 (.t 1), none⟩,
    ⟨some 12, .load false 1 (.t 11), none⟩,
    ⟨some 13, .len (.t 12), none⟩,
    ⟨some 14, .mv (.k (.int .i64 0)), none⟩])
  (.block 0 (.loop (.seq (.reg [⟨some 15, .bin .lss (.t 14) (.t 13), none⟩])
    (.seq (.cond (.t 15) (.skip)
      (.exit 0))
    (.seq (.block 1 (.seq (.reg [⟨some 16, .mv (.t 14), none⟩,
       ⟨some 17, .iaddrS 4 (.t 12) (.t 14), none⟩,
       ⟨some 18, .load true 4 (.t 17), none⟩,
       ⟨some 5, .new [(.int .i64 0), (.int .i64 0), (.int .i64 0), (.int .i64 0)], none⟩,
       ⟨some 4, .mv (.t 16), none⟩,
       ⟨none, .store 4 (.t 5) (.t 18), none⟩])
     (.seq (.reg [⟨some 19, .load true 4 (.t 5), none⟩,
       ⟨some 20, .call (.k (.fn 86 [] [])) [(.t 19)], none⟩,
       ⟨some 6, .mv (.t 20), none⟩])
     (.seq (.reg [⟨some 21, .mv (.t 6), none⟩,
       ⟨some 22, .bin .neq (.t 21) (.k (.int .i64 0)), none⟩])
     (.cond (.t 22) (.seq (.reg [⟨some 23, .mv (.t 4), none⟩,
         ⟨some 24, .mv (.t 6), none⟩,
         ⟨some 2, .mv (.t 23), none⟩,
         ⟨some 3, .mv (.t 24), none⟩])
       (.ret))
       (.skip))))))
    (.reg [⟨some 25, .bin .add (.t 14) (.k (.int .i64 1)), none⟩,
      ⟨some 14, .mv (.t 25), none⟩])))))))
  (.seq (.reg [⟨some 2, .mv (.k (.int .i64 0)), none⟩,
    ⟨some 3, .mv (.k (.int .i64 0)), none⟩])
  (.ret))))
theorem b82 : Body Try.prog 82 c82 [.tmp 2, .tmp 3] 26 := ⟨by kernel_rfl, _, _, Try.func82, rfl, by kernel_rfl, by kernel_rfl, rfl⟩
def c83 : ACode :=
  .seq (.reg [⟨some 2, .mv (.k .nils), none⟩])
  (.seq (.seq (.reg [⟨some 3, .mv (.t 0), none⟩,
    ⟨some 4, .eqn false (.t 3), none⟩])
  (.cond (.t 4) (.seq (.reg [⟨some 2, .mv (.k .nils), none⟩])
    (.ret))
    (.skip)))
  (.seq (.reg [⟨some 5, .bslice 4 0 [] [], none⟩,
    ⟨some 6, .mv (.t 0), none⟩,
    ⟨some 7, .append 4 32 (.t 5) (.t 6), none⟩,
    ⟨some 2, .mv (.t 7), none⟩])
  (.ret)))
theorem b83 : Body Try.prog 83 c83 [.tmp 2] 8 := ⟨by kernel_rfl, _, _, Try.func83, rfl, by kernel_rfl, by kernel_rfl, rfl⟩
def c84 : ACode :=
  .seq (.reg [⟨some 1, .box (.t 0), none⟩,
    ⟨some 2, .mv (.k (.int .i64 0)), none⟩])
  (.seq (.seq (.reg [⟨some 8, .faddr 0 (.t 1), none⟩,
    ⟨some 9, .load true 1 (.t 8), none⟩,
    ⟨some 10, .call (.k (.fn 82 [] [])) [(.t 9)], none⟩,
    ⟨some 7, .mv (.t 10), none⟩,
    ⟨some 11, .ext (.t 7) 0, none⟩,
    ⟨some 12, .ext (.t 7) 1, none⟩,
    ⟨some 3, .mv (.t 11), none⟩,
    ⟨some 4, .mv (.t 12), none⟩])
  (.seq (.reg [⟨some 13, .mv (.t 4), none⟩,
    ⟨some 14, .bin .neq (.t 13) (.k (.int .i64 0)), none⟩])
  (.cond (.t 14) (.seq (.reg [⟨some 15, .mv (.t 4), none⟩,
      ⟨some 2, .mv (.t 15), none⟩])
    (.ret))
    (.skip))))
  (.seq (.seq (.reg [⟨some 16, .faddr 1 (.t 1), none⟩,
    ⟨some 17, .load true 7 (.t 16), none⟩,
    ⟨some 18, .mv (.k (.int .i64 0)), none⟩])
  (.block 0 (.loop (.seq (.reg [⟨some 19, .bin .lss (.t 18) (.k (.int .i64 7)), none⟩])
    (.seq (.cond (.t 19) (.skip)
      (.exit 0))
    (.seq (.block 1 (.seq (.reg [⟨some 20, .mv (.t 18), none⟩,
       ⟨some 21, .idx false 7 1 (.t 17) (.t 18), none⟩,
       ⟨some 5, .mv (.t 20), none⟩,
       ⟨some 6, .mv (.t 21), none⟩])
     (.seq (.regD [⟨some 22, .mv (.t 6), none⟩,
       ⟨some 23, .bin .lss (.t 22) (.k (.int .i64 0)), none⟩,
       ⟨some 24, .mv (.t 23), none⟩,
       ⟨some 25, .mv (.t 6), some (24, false)⟩,
       ⟨some 26, .bin .gtr (.t 25) (.k (.int .i64 1000000)), some (24, false)⟩,
       ⟨some 27, .pick (.t 24) (.k (.bool true)) (.t 26), none⟩,
       ⟨some 28, .mv (.t 27), none⟩,
       ⟨some 29, .faddr 0 (.t 1), some (28, false)⟩,
       ⟨some 30, .load true 1 (.t 29), some (28, false)⟩,
       ⟨some 31, .mv (.t 5), some (28, false)⟩,
       ⟨some 32, .mv (.t 6), some (28, false)⟩,
       ⟨some 33, .call (.k (.fn 87 [] [])) [(.t 30), (.t 31), (.t 32)], some (28, false)⟩,
       ⟨some 34, .mv (.t 5), some (28, false)⟩,
       ⟨some 35, .faddr 8 (.t 1), some (28, false)⟩,
       ⟨some 36, .iaddrA 7 1 (.t 35) (.t 34), some (28, false)⟩,
       ⟨some 37, .load false 1 (.t 36), some (28, false)⟩,
       ⟨some 38, .bin .neq (.t 33) (.t 37), some (28, false)⟩,
       ⟨some 39, .pick (.t 28) (.k (.bool true)) (.t 38), none⟩] [[], [0], [1], [2], [3, 2], [2, 4], [5, 2], [6], [7, 6], [6], [6], [8, 9, 10, 6, 6], [6], [6], [13, 12, 6], [14, 6], [11, 15, 6], [6, 16]])
     (.cond (.t 39) (.seq (.reg [⟨some 2, .mv (.k (.int .i64 6)), none⟩])
       (.ret))
       (.skip)))))
    (.reg [⟨some 40, .bin .add (.t 18) (.k (.int .i64 1)), none⟩,
      ⟨some 18, .mv (.t 40), none⟩])))))))
  (.seq (.reg [⟨some 2, .mv (.k (.int .i64 0)), none⟩])
  (.ret))))
theorem b84 : Body Try.prog 84 c84 [.tmp 2] 41 := ⟨by kernel_rfl, _, _, Try.func84, rfl, by kernel_rfl, by kernel_rfl, rfl⟩
def c85 : ACode :=
  .seq (.reg [⟨some 3, .box (.t 0), none⟩,
    ⟨some 4, .box (.t 1), none⟩,
    ⟨some 5, .box (.t 2), none⟩,
    ⟨some 6, .mv (.k (.bool false)), none⟩])
  (.seq (.reg [⟨some 7, .faddr 0 (.t 3), none⟩,
    ⟨some 8, .load false 1 (.t 7), none⟩,
    ⟨some 9, .mkfn 89 [] [(.t 4), (.t 5)], none⟩,
    ⟨some 10, .call (.k (.fn 88 [] [])) [(.t 8), (.t 9)], none⟩,
    ⟨some 6, .mv (.t 10), none⟩])
  (.ret))
theorem b85 : Body Try.prog 85 c85 [.tmp 6] 11 := ⟨by kernel_rfl, _, _, Try.func85, rfl, by kernel_rfl, by kernel_rfl, rfl⟩
def c86 : ACode :=
  .seq (.reg [⟨some 1, .box (.t 0), none⟩,
    ⟨some 2, .mv (.k (.int .i64 0)), none⟩])
  (.seq (.block 0 (.seq (.reg [⟨some 4, .faddr 0 (.t 1), none⟩,
     ⟨some 5, .load false 1 (.t 4), none⟩,
     ⟨some 6, .bin .lss (.t 5) (.k (.int .i64 0)), none⟩,
     ⟨some 7, .mv (.t 6), none⟩,
     ⟨some 8, .faddr 0 (.t 1), some (7, false)⟩,
     ⟨some 9, .load false 1 (.t 8), some (7, false)⟩,
     ⟨some 10, .bin .geq (.t 9) (.k (.int .i64 7)), some (7, false)⟩,
     ⟨some 11, .pick (.t 7) (.k (.bool true)) (.t 10), none⟩,
     ⟨some 3, .mv (.t 11), none⟩])
   (.cond (.t 3) (.seq (.reg [⟨some 2, .mv (.k (.int .i64 2)), none⟩])
     (.ret))
     (.seq (.reg [⟨some 13, .faddr 1 (.t 1), none⟩,
       ⟨some 14, .load false 1 (.t 13), none⟩,
       ⟨some 15, .bin .lss (.t 14) (.k (.int .i64 1)), none⟩,
       ⟨some 16, .mv (.t 15), none⟩,
       ⟨some 17, .faddr 1 (.t 1), some (16, false)⟩,
       ⟨some 18, .load false 1 (.t 17), some (16, false)⟩,
       ⟨some 19, .bin .gtr (.t 18) (.k (.int .i64 10000)), some (16, false)⟩,
       ⟨some 20, .pick (.t 16) (.k (.bool true)) (.t 19), none⟩,
       ⟨some 21, .mv (.t 20), none⟩,
       ⟨some 22, .faddr 2 (.t 1), some (21, false)⟩,
       ⟨some 23, .load false 1 (.t 22), some (21, false)⟩,
       ⟨some 24, .bin .lss (.t 23) (.k (.int .i64 0)), some (21, false)⟩,
       ⟨some 25, .pick (.t 21) (.k (.bool true)) (.t 24), none⟩,
       ⟨some 26, .mv (.t 25), none⟩,
       ⟨some 27, .faddr 2 (.t 1), some (26, false)⟩,
       ⟨some 28, .load false 1 (.t 27), some (26, false)⟩,
       ⟨some 29, .bin .gtr (.t 28) (.k (.int .i64 12)), some (26, false)⟩,
       ⟨some 30, .pick (.t 26) (.k (.bool true)) (.t 29), none⟩,
       ⟨some 31, .mv (.t 30), none⟩,
       ⟨some 32, .faddr 3 (.t 1), some (31, false)⟩,
       ⟨some 33, .load false 1 (.t 32), some (31, false)⟩,
       ⟨some 34, .bin .lss (.t 33) (.k (.int .i64 0)), some (31, false)⟩,
       ⟨some 35, .pick (.t 31) (.k (.bool true)) (.t 34), none⟩,
       ⟨some 36, .mv (.t 35), none⟩,
       ⟨some 37, .faddr 3 (.t 1), some (36, false)⟩,
       ⟨some 38, .load false 1 (.t 37), some (36, false)⟩,
       ⟨some 39, .bin .gtr (.t 38) (.k (.int .i64 1000)), some (36, false)⟩,
       ⟨some 40, .pick (.t 36) (.k (.bool true)) (.t 39), none⟩,
       ⟨some 12, .mv (.t 40), none⟩])
     (.cond (.t 12) (.seq (.reg [⟨some 2, .mv (.k (.int .i64 7)), none⟩])
       (.ret))
       (.seq (.reg [⟨some 42, .faddr 2 (.t 1), none⟩,
         ⟨some 43, .load false 1 (.t 42), none⟩,
         ⟨some 44, .bin .eql (.t 43) (.k (.int .i64 0)), none⟩,
         ⟨some 45, .mv (.t 44), none⟩,
         ⟨some 46, .faddr 3 (.t 1), some (45, true)⟩,
         ⟨some 47, .load false 1 (.t 46), some (45, true)⟩,
         ⟨some 48, .bin .neq (.t 47) (.k (.int .i64 1)), some (45, true)⟩,
         ⟨some 49, .pick (.t 45) (.t 48) (.k (.bool false)), none⟩,
         ⟨some 41, .mv (.t 49), none⟩])
       (.cond (.t 41) (.seq (.reg [⟨some 2, .mv (.k (.int .i64 6)), none⟩])
         (.ret))
         (.skip))))))))
  (.seq (.reg [⟨some 2, .mv (.k (.int .i64 0)), none⟩])
  (.ret)))
theorem b86 : Body Try.prog 86 c86 [.tmp 2] 50 := ⟨by kernel_rfl, _, _, Try.func86, rfl, by kernel_rfl, by kernel_rfl, rfl⟩
def c87 : ACode :=
  .seq (.reg [⟨some 3, .box (.t 0), none⟩,
    ⟨some 6, .mv (.k (.int .i64 0)), none⟩])
  (.seq (.seq (.reg [⟨some 9, .load true 1 (.t 3), none⟩,
    ⟨some 10, .mv (.t 1), none⟩,
    ⟨some 11, .mv (.t 2), none⟩,
    ⟨some 12, .call (.k (.fn 91 [] [])) [(.t 9), (.t 10), (.t 11)], none⟩,
    ⟨some 13, .len (.t 12), none⟩,
    ⟨some 14, .mv (.k (.int .i64 0)), none⟩])
  (.block 0 (.loop (.seq (.reg [⟨some 15, .bin .lss (.t 14) (.t 13), none⟩])
    (.seq (.cond (.t 15) (.skip)
      (.exit 0))
    (.seq (.block 1 (.seq (.reg [⟨some 16, .iaddrS 1 (.t 12) (.t 14), none⟩,
       ⟨some 17, .load false 1 (.t 16), none⟩,
       ⟨some 8, .mv (.t 17), none⟩])
     (.seq (.reg [⟨some 18, .mv (.t 8), none⟩])
     (.cond (.t 18) (.reg [⟨some 19, .mv (.t 6), none⟩,
         ⟨some 20, .bin .add (.t 19) (.k (.int .i64 1)), none⟩,
         ⟨some 6, .mv (.t 20), none⟩])
       (.skip)))))
    (.reg [⟨some 21, .bin .add (.t 14) (.k (.int .i64 1)), none⟩,
      ⟨some 14, .mv (.t 21), none⟩])))))))
  (.seq (.reg [⟨some 22, .mv (.t 6), none⟩,
    ⟨some 6, .mv (.t 22), none⟩])
  (.ret)))
theorem b87 : Body Try.prog 87 c87 [.tmp 6] 23 := ⟨by kernel_rfl, _, _, Try.func87, rfl, by kernel_rfl, by kernel_rfl, rfl⟩
def c88 : ACode :=
  .seq (.reg [⟨some 4, .mv (.k (.bool false)), none⟩])
  (.seq (.reg [⟨some 5, .mv (.t 0), none⟩,
    ⟨some 6, .mv (.t 1), none⟩,
    ⟨some 7, .call (.k (.fn 92 [] [])) [(.t 5), (.t 6)], none⟩,
    ⟨some 8, .bin .geq (.t 7) (.k (.int .i64 0)), none⟩,
    ⟨some 4, .mv (.t 8), none⟩])
  (.ret))
theorem b88 : Body Try.prog 88 c88 [.tmp 4] 9 := ⟨by kernel_rfl, _, _, Try.func88, rfl, by kernel_rfl, by kernel_rfl, rfl⟩
def c89 : ACode :=
  .seq (.reg [⟨some 3, .box (.t 0), none⟩,
    ⟨some 4, .mv (.k (.bool false)), none⟩])
  (.seq (.regD [⟨some 5, .faddr 0 (.t 3), none⟩,
    ⟨some 6, .load false 1 (.t 5), none⟩,
    ⟨some 7, .load false 1 (.t 1), none⟩,
    ⟨some 8, .bin .eql (.t 6) (.t 7), none⟩,
    ⟨some 9, .mv (.t 8), none⟩,
    ⟨some 10, .load true 4 (.t 3), some (9, true)⟩,
    ⟨some 11, .load false 1 (.t 2), some (9, true)⟩,
    ⟨some 12, .bin .sub (.t 11) (.k (.int .i64 1)), some (9, true)⟩,
    ⟨some 13, .call (.k (.fn 90 [] [])) [(.t 10), (.t 12)], some (9, true)⟩,
    ⟨some 14, .load false 1 (.t 2), some (9, true)⟩,
    ⟨some 15, .bin .eql (.t 13) (.t 14), some (9, true)⟩,
    ⟨some 16, .pick (.t 9) (.t 15) (.k (.bool false)), none⟩,
    ⟨some 4, .mv (.t 16), none⟩] [[], [0], [], [1, 2], [3], [4], [4], [6, 4], [5, 7, 4, 4], [4], [8, 9, 4], [4, 10], [11, 8, 0, 1, 2, 3, 4, 5, 6, 7, 8, 9, 10, 11]])
  (.ret))
theorem b89 : Body Try.prog 89 c89 [.tmp 4] 17 := ⟨by kernel_rfl, _, _, Try.func89, rfl, by kernel_rfl, by kernel_rfl, rfl⟩
def c90 : ACode :=
  .seq (.reg [⟨some 2, .box (.t 0), none⟩,
    ⟨some 4, .mv (.k (.int .i64 0)), none⟩])
  (.seq (.seq (.reg [⟨some 6, .mv (.t 1), none⟩,
    ⟨some 7, .faddr 1 (.t 2), none⟩,
    ⟨some 8, .load false 1 (.t 7), none⟩,
    ⟨some 9, .bin .lss (.t 6) (.t 8), none⟩])
  (.cond (.t 9) (.seq (.reg [⟨some 10, .faddr 1 (.t 2), none⟩,
      ⟨some 11, .load false 1 (.t 10), none⟩,
      ⟨some 4, .mv (.t 11), none⟩])
    (.ret))
    (.skip)))
  (.seq (.seq (.reg [⟨some 12, .faddr 2 (.t 2), none⟩,
    ⟨some 13, .load false 1 (.t 12), none⟩,
    ⟨some 14, .bin .eql (.t 13) (.k (.int .i64 0)), none⟩])
  (.cond (.t 14) (.seq (.reg [⟨some 4, .mv (.k (.int .i64 0)), none⟩])
    (.ret))
    (.skip)))
  (.seq (.reg [⟨some 15, .mv (.t 1), none⟩,
    ⟨some 16, .faddr 1 (.t 2), none⟩,
    ⟨some 17, .load false 1 (.t 16), none⟩,
    ⟨some 18, .bin .sub (.t 15) (.t 17), none⟩,
    ⟨some 19, .faddr 2 (.t 2), none⟩,
    ⟨some 20, .load false 1 (.t 19), none⟩,
    ⟨some 21, .bin .quo (.t 18) (.t 20), none⟩,
    ⟨some 22, .bin .add (.t 21) (.k (.int .i64 1)), none⟩,
    ⟨some 5, .mv (.t 22), none⟩])
  (.seq (.seq (.reg [⟨some 23, .faddr 3 (.t 2), none⟩,
    ⟨some 24, .load false 1 (.t 23), none⟩,
    ⟨some 25, .bin .gtr (.t 24) (.k (.int .i64 0)), none⟩,
    ⟨some 26, .mv (.t 25), none⟩,
    ⟨some 27, .mv (.t 5), some (26, true)⟩,
    ⟨some 28, .faddr 3 (.t 2), some (26, true)⟩,
    ⟨some 29, .load false 1 (.t 28), some (26, true)⟩,
    ⟨some 30, .bin .geq (.t 27) (.t 29), some (26, true)⟩,
    ⟨some 31, .pick (.t 26) (.t 30) (.k (.bool false)), none⟩])
  (.cond (.t 31) (.seq (.reg [⟨some 4, .mv (.k (.int .i64 0)), none⟩])
    (.ret))
    (.skip)))
  (.seq (.reg [⟨some 32, .faddr 1 (.t 2), none⟩,
    ⟨some 33, .load false 1 (.t 32), none⟩,
    ⟨some 34, .mv (.t 5), none⟩,
    ⟨some 35, .faddr 2 (.t 2), none⟩,
    ⟨some 36, .load false 1 (.t 35), none⟩,
    ⟨some 37, .bin .mul (.t 34) (.t 36), none⟩,
    ⟨some 38, .bin .add (.t 33) (.t 37), none⟩,
    ⟨some 4, .mv (.t 38), none⟩])
  (.ret))))))
theorem b90 : Body Try.prog 90 c90 [.tmp 4] 39 := ⟨by kernel_rfl, _, _, Try.func90, rfl, by kernel_rfl, by kernel_rfl, rfl⟩
def c91 : ACode :=
  .seq (.reg [⟨some 3, .box (.t 0), none⟩,
    ⟨some 6, .mv (.k .nils), none⟩])
  (.seq (.reg [⟨some 11, .mv (.t 2), none⟩,
    ⟨some 12, .bin .add (.t 11) (.k (.int .i64 1)), none⟩,
    ⟨some 13, .mks 1 1 [(.bool false)] (.t 12) (.t 12), none⟩,
    ⟨some 7, .new [.nils], none⟩,
    ⟨none, .store 1 (.t 7) (.t 13), none⟩])
  (.seq (.seq (.reg [⟨some 14, .faddr 0 (.t 3), none⟩,
    ⟨some 15, .load false 1 (.t 14), none⟩,
    ⟨some 16, .len (.t 15), none⟩,
    ⟨some 17, .mv (.k (.int .i64 0)), none⟩])
  (.block 0 (.loop (.seq (.reg [⟨some 18, .bin .lss (.t 17) (.t 16), none⟩])
    (.seq (.cond (.t 18) (.skip)
      (.exit 0))
    (.seq (.block 1 (.seq (.reg [⟨some 19, .iaddrS 4 (.t 15) (.t 17), none⟩,
       ⟨some 20, .load true 4 (.t 19), none⟩,
       ⟨some 9, .new [(.int .i64 0), (.int .i64 0), (.int .i64 0), (.int .i64 0)], none⟩,
       ⟨none, .store 4 (.t 9) (.t 20), none⟩])
     (.seq (.seq (.reg [⟨some 21, .faddr 0 (.t 9), none⟩,
       ⟨some 22, .load false 1 (.t 21), none⟩,
       ⟨some 23, .mv (.t 1), none⟩,
       ⟨some 24, .bin .neq (.t 22) (.t 23), none⟩])
     (.cond (.t 24) (.exit 1)
       (.skip)))
     (.seq (.reg [⟨some 25, .load true 4 (.t 9), none⟩,
       ⟨some 26, .mv (.t 2), none⟩,
       ⟨some 27, .call (.k (.fn 93 [] [])) [(.t 25), (.t 26)], none⟩])
     (.block 2 (.rangeF (.t 27) [28] (.reg [⟨some 10, .mv (.t 28), none⟩])
        (.block 3 (.reg [⟨some 29, .load false 1 (.t 7), none⟩,
           ⟨some 30, .mv (.t 10), none⟩,
           ⟨some 31, .iaddrS 1 (.t 29) (.t 30), none⟩,
           ⟨none, .store 1 (.t 31) (.k (.bool true)), none⟩]))))))))
    (.reg [⟨some 32, .bin .add (.t 17) (.k (.int .i64 1)), none⟩,
      ⟨some 17, .mv (.t 32), none⟩])))))))
  (.seq (.reg [⟨some 33, .load false 1 (.t 7), none⟩,
    ⟨some 6, .mv (.t 33), none⟩])
  (.ret))))
theorem b91 : Body Try.prog 91 c91 [.tmp 6] 34 := ⟨by kernel_rfl, _, _, Try.func91, rfl, by kernel_rfl, by kernel_rfl, rfl⟩
def c92 : ACode :=
  .seq (.reg [⟨some 4, .mv (.k (.int .i64 0)), none⟩])
  (.seq (.seq (.reg [⟨some 6, .mv (.t 0), none⟩,
    ⟨some 7, .len (.t 6), none⟩,
    ⟨some 8, .mv (.k (.int .i64 0)), none⟩])
  (.block 0 (.loop (.seq (.reg [⟨some 9, .bin .lss (.t 8) (.t 7), none⟩])
    (.seq (.cond (.t 9) (.skip)
      (.exit 0))
    (.seq (.block 1 (.seq (.reg [⟨some 10, .mv (.t 8), none⟩,
       ⟨some 5, .mv (.t 10), none⟩])
     (.seq (.reg [⟨some 11, .mv (.t 1), none⟩,
       ⟨some 12, .mv (.t 0), none⟩,
       ⟨some 13, .mv (.t 5), none⟩,
       ⟨some 14, .iaddrS 4 (.t 12) (.t 13), none⟩,
       ⟨some 15, .load true 4 (.t 14), none⟩,
       ⟨some 16, .call (.t 11) [(.t 15)], none⟩])
     (.cond (.t 16) (.seq (.reg [⟨some 17, .mv (.t 5), none⟩,
         ⟨some 4, .mv (.t 17), none⟩])
       (.ret))
       (.skip)))))
    (.reg [⟨some 18, .bin .add (.t 8) (.k (.int .i64 1)), none⟩,
      ⟨some 8, .mv (.t 18), none⟩])))))))
  (.seq (.reg [⟨some 4, .mv (.k (.int .i64 (-1))), none⟩])
  (.ret)))
theorem b92 : Body Try.prog 92 c92 [.tmp 4] 19 := ⟨by kernel_rfl, _, _, Try.func92, rfl, by kernel_rfl, by kernel_rfl, rfl⟩
def c93 : ACode :=
  .seq (.reg [⟨some 2, .box (.t 0), none⟩,
    ⟨some 3, .box (.t 1), none⟩,
    ⟨some 4, .mv (.k .nilf), none⟩])
  (.seq (.reg [⟨some 5, .mkfn 94 [] [(.t 2), (.t 3)], none⟩,
    ⟨some 4, .mv (.t 5), none⟩])
  (.ret))
theorem b93 : Body Try.prog 93 c93 [.tmp 4] 6 := ⟨by kernel_rfl, _, _, Try.func93, rfl, by kernel_rfl, by kernel_rfl, rfl⟩
def c94 : ACode :=
  .seq (.reg [⟨some 6, .faddr 1 (.t 1), none⟩,
    ⟨some 7, .load false 1 (.t 6), none⟩,
    ⟨some 4, .mv (.t 7), none⟩])
  (.seq (.reg [⟨some 5, .mv (.k (.int .i64 0)), none⟩])
  (.block 0 (.loop (.seq (.seq (.reg [⟨some 8, .mv (.t 4), none⟩,
      ⟨some 9, .load false 1 (.t 2), none⟩,
      ⟨some 10, .bin .leq (.t 8) (.t 9), none⟩,
      ⟨some 11, .mv (.t 10), none⟩,
      ⟨some 12, .faddr 3 (.t 1), some (11, true)⟩,
      ⟨some 13, .load false 1 (.t 12), some (11, true)⟩,
      ⟨some 14, .bin .eql (.t 13) (.k (.int .i64 0)), some (11, true)⟩,
      ⟨some 15, .mv (.t 14), some (11, true)⟩,
      ⟨some 16, .mv (.t 5), some (15, false)⟩,
      ⟨some 17, .faddr 3 (.t 1), some (15, false)⟩,
      ⟨some 18, .load false 1 (.t 17), some (15, false)⟩,
      ⟨some 19, .bin .lss (.t 16) (.t 18), some (15, false)⟩,
      ⟨some 20, .pick (.t 15) (.k (.bool true)) (.t 19), some (11, true)⟩,
      ⟨some 21, .pick (.t 11) (.t 20) (.k (.bool false)), none⟩])
    (.cond (.t 21) (.skip)
      (.exit 0)))
    (.seq (.block 1 (.seq (.seq (.reg [⟨some 24, .mv (.t 0), none⟩,
       ⟨some 25, .mv (.t 4), none⟩,
       ⟨some 26, .call (.t 24) [(.t 25)], none⟩,
       ⟨some 27, .un .not (.t 26), none⟩])
     (.cond (.t 27) (.ret)
       (.skip)))
     (.reg [⟨some 28, .mv (.t 4), none⟩,
       ⟨some 29, .faddr 2 (.t 1), none⟩,
       ⟨some 30, .load false 1 (.t 29), none⟩,
       ⟨some 31, .bin .add (.t 28) (.t 30), none⟩,
       ⟨some 4, .mv (.t 31), none⟩])))
    (.reg [⟨some 22, .mv (.t 5), none⟩,
      ⟨some 23, .bin .add (.t 22) (.k (.int .i64 1)), none⟩,
      ⟨some 5, .mv (.t 23), none⟩]))))))
theorem b94 : Body Try.prog 94 c94 [] 32 := ⟨by kernel_rfl, _, _, Try.func94, rfl, by kernel_rfl, by kernel_rfl, rfl⟩
end Go.Proofs.Ytccbhbdbmmkcdaa
