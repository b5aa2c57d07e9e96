/-
  Abstract code of functions, printed by a program, and that it is theirs.
-/
import Derived.Test.YtggkpagngnnjjaaProg
import Derived.Test.YtggkpagngnnjjaaCodeA
set_option linter.unusedSimpArgs false
set_option linter.unusedVariables false
namespace Go.Proofs.Ytggkpagngnnjjaa
open Go.Am
def c63 : ACode :=
  .seq (.reg [⟨some 6, .mv (.t 0), none⟩,
    ⟨some 7, .nchk (.t 6), none⟩,
    ⟨some 8, .faddr 0 (.t 7), none⟩,
    ⟨some 9, .load false 1 (.t 8), none⟩,
    ⟨some 10, .mv (.t 1), none⟩,
    ⟨some 11, .iaddrS 5 (.t 9) (.t 10), none⟩,
    ⟨some 4, .mv (.t 11), none⟩])
  (.seq (.regD [⟨some 12, .mv (.t 0), none⟩,
    ⟨some 13, .nchk (.t 12), none⟩,
    ⟨some 14, .faddr 1 (.t 13), none⟩,
    ⟨some 15, .load false 1 (.t 14), none⟩,
    ⟨some 16, .mv (.t 4), none⟩,
    ⟨some 17, .nchk (.t 16), none⟩,
    ⟨some 18, .faddr 2 (.t 17), none⟩,
    ⟨some 19, .load false 1 (.t 18), none⟩,
    ⟨some 20, .iaddrS 3 (.t 15) (.t 19), none⟩,
    ⟨some 5, .mv (.t 20), none⟩] [[], [0], [1], [2], [], [4], [5], [6], [3, 7], [8, 0, 1, 2, 3, 4, 5, 6, 7, 8]])
  (.seq (.seq (.reg [⟨some 21, .mv (.t 4), none⟩,
    ⟨some 22, .nchk (.t 21), none⟩,
    ⟨some 23, .faddr 4 (.t 22), none⟩,
    ⟨some 24, .load false 1 (.t 23), none⟩,
    ⟨some 25, .bin .eql (.t 24) (.k (.int .i64 (-1))), none⟩])
  (.cond (.t 25) (.reg [⟨some 26, .mv (.t 5), none⟩,
      ⟨some 27, .mv (.t 4), none⟩,
      ⟨some 28, .nchk (.t 27), none⟩,
      ⟨some 29, .faddr 3 (.t 28), none⟩,
      ⟨some 30, .load false 1 (.t 29), none⟩,
      ⟨some 31, .nchk (.t 26), none⟩,
      ⟨some 32, .faddr 0 (.t 31), none⟩,
      ⟨none, .store 1 (.t 32) (.t 30), none⟩])
    (.regD [⟨some 33, .mv (.t 0), none⟩,
      ⟨some 34, .nchk (.t 33), none⟩,
      ⟨some 35, .faddr 0 (.t 34), none⟩,
      ⟨some 36, .load false 1 (.t 35), none⟩,
      ⟨some 37, .mv (.t 4), none⟩,
      ⟨some 38, .nchk (.t 37), none⟩,
      ⟨some 39, .faddr 4 (.t 38), none⟩,
      ⟨some 40, .load false 1 (.t 39), none⟩,
      ⟨some 41, .mv (.t 4), none⟩,
      ⟨some 42, .nchk (.t 41), none⟩,
      ⟨some 43, .faddr 3 (.t 42), none⟩,
      ⟨some 44, .load false 1 (.t 43), none⟩,
      ⟨some 45, .iaddrS 5 (.t 36) (.t 40), none⟩,
      ⟨some 46, .faddr 3 (.t 45), none⟩,
      ⟨none, .store 1 (.t 46) (.t 44), none⟩] [[], [0], [1], [2], [], [4], [5], [6], [], [8], [9], [10], [3, 7, 0, 1, 2, 3, 4, 5, 6, 7, 8, 9, 10, 11], [12, 0, 1, 2, 3, 4, 5, 6, 7, 8, 9, 10, 11], [13, 11, 0, 1, 2, 3, 4, 5, 6, 7, 8, 9, 10, 11]])))
  (.seq (.seq (.reg [⟨some 47, .mv (.t 4), none⟩,
    ⟨some 48, .nchk (.t 47), none⟩,
    ⟨some 49, .faddr 3 (.t 48), none⟩,
    ⟨some 50, .load false 1 (.t 49), none⟩,
    ⟨some 51, .bin .eql (.t 50) (.k (.int .i64 (-1))), none⟩])
  (.cond (.t 51) (.reg [⟨some 52, .mv (.t 5), none⟩,
      ⟨some 53, .mv (.t 4), none⟩,
      ⟨some 54, .nchk (.t 53), none⟩,
      ⟨some 55, .faddr 4 (.t 54), none⟩,
      ⟨some 56, .load false 1 (.t 55), none⟩,
      ⟨some 57, .nchk (.t 52), none⟩,
      ⟨some 58, .faddr 1 (.t 57), none⟩,
      ⟨none, .store 1 (.t 58) (.t 56), none⟩])
    (.regD [⟨some 59, .mv (.t 0), none⟩,
      ⟨some 60, .nchk (.t 59), none⟩,
      ⟨some 61, .faddr 0 (.t 60), none⟩,
      ⟨some 62, .load false 1 (.t 61), none⟩,
      ⟨some 63, .mv (.t 4), none⟩,
      ⟨some 64, .nchk (.t 63), none⟩,
      ⟨some 65, .faddr 3 (.t 64), none⟩,
      ⟨some 66, .load false 1 (.t 65), none⟩,
      ⟨some 67, .mv (.t 4), none⟩,
      ⟨some 68, .nchk (.t 67), none⟩,
      ⟨some 69, .faddr 4 (.t 68), none⟩,
      ⟨some 70, .load false 1 (.t 69), none⟩,
      ⟨some 71, .iaddrS 5 (.t 62) (.t 66), none⟩,
      ⟨some 72, .faddr 4 (.t 71), none⟩,
      ⟨none, .store 1 (.t 72) (.t 70), none⟩] [[], [0], [1], [2], [], [4], [5], [6], [], [8], [9], [10], [3, 7, 0, 1, 2, 3, 4, 5, 6, 7, 8, 9, 10, 11], [12, 0, 1, 2, 3, 4, 5, 6, 7, 8, 9, 10, 11], [13, 11, 0, 1, 2, 3, 4, 5, 6, 7, 8, 9, 10, 11]])))
  (.seq (.reg [⟨some 73, .mv (.t 5), none⟩,
    ⟨some 74, .nchk (.t 73), none⟩,
    ⟨some 75, .faddr 2 (.t 74), none⟩,
    ⟨some 76, .load false 1 (.t 75), none⟩,
    ⟨some 77, .bin .sub (.t 76) (.k (.int .i64 1)), none⟩,
    ⟨some 78, .nchk (.t 73), none⟩,
    ⟨some 79, .faddr 2 (.t 78), none⟩,
    ⟨none, .store 1 (.t 79) (.t 77), none⟩])
  (.reg [⟨some 80, .mv (.t 4), none⟩,
    ⟨some 81, .mv (.t 4), none⟩,
    ⟨some 82, .mv (.t 4), none⟩,
    ⟨some 83, .nchk (.t 80), none⟩,
    ⟨some 84, .faddr 2 (.t 83), none⟩,
    ⟨none, .store 1 (.t 84) (.k (.int .i64 (-1))), none⟩,
    ⟨some 85, .nchk (.t 81), none⟩,
    ⟨some 86, .faddr 4 (.t 85), none⟩,
    ⟨none, .store 1 (.t 86) (.k (.int .i64 (-1))), none⟩,
    ⟨some 87, .nchk (.t 82), none⟩,
    ⟨some 88, .faddr 3 (.t 87), none⟩,
    ⟨none, .store 1 (.t 88) (.k (.int .i64 (-1))), none⟩])))))
theorem b63 : Body Try.prog 63 c63 [] 89 := ⟨by kernel_rfl, _, _, Try.func63, rfl, by kernel_rfl, by kernel_rfl, rfl⟩
def c64 : ACode :=
  .seq (.reg [⟨some 2, .mv (.k (.int .i64 0)), none⟩])
  (.seq (.reg [⟨some 3, .mv (.k (.int .i64 0)), none⟩])
  (.seq (.seq (.reg [⟨some 6, .mv (.t 0), none⟩,
    ⟨some 7, .len (.t 6), none⟩,
    ⟨some 8, .mv (.k (.int .i64 0)), none⟩])
  (.block 0 (.loop (.seq (.reg [⟨some 9, .bin .lss (.t 8) (.t 7), none⟩])
    (.seq (.cond (.t 9) (.skip)
      (.exit 0))
    (.seq (.block 1 (.seq (.reg [⟨some 10, .iaddrS 1 (.t 6) (.t 8), none⟩,
       ⟨some 11, .load false 1 (.t 10), none⟩,
       ⟨some 5, .mv (.t 11), none⟩])
     (.seq (.reg [⟨some 12, .mv (.t 5), none⟩,
       ⟨some 13, .mv (.t 3), none⟩,
       ⟨some 14, .bin .neq (.t 12) (.t 13), none⟩])
     (.cond (.t 14) (.seq (.reg [⟨some 15, .mv (.t 5), none⟩,
         ⟨some 2, .mv (.t 15), none⟩])
       (.ret))
       (.skip)))))
    (.reg [⟨some 16, .bin .add (.t 8) (.k (.int .i64 1)), none⟩,
      ⟨some 8, .mv (.t 16), none⟩])))))))
  (.seq (.reg [⟨some 17, .mv (.t 3), none⟩,
    ⟨some 2, .mv (.t 17), none⟩])
  (.ret))))
theorem b64 : Body Try.prog 64 c64 [.tmp 2] 18 := ⟨by kernel_rfl, _, _, Try.func64, rfl, by kernel_rfl, by kernel_rfl, rfl⟩
def c65 : ACode :=
  .seq (.reg [⟨some 4, .mv (.k (.int .i64 0)), none⟩])
  (.seq (.reg [⟨some 7, .mv (.t 0), none⟩,
    ⟨some 8, .call (.k (.fn 76 [] [])) [(.t 7)], none⟩,
    ⟨some 5, .mv (.t 8), none⟩])
  (.seq (.reg [⟨some 9, .mv (.t 1), none⟩,
    ⟨some 10, .call (.k (.fn 76 [] [])) [(.t 9)], none⟩,
    ⟨some 6, .mv (.t 10), none⟩])
  (.seq (.seq (.reg [⟨some 11, .mv (.t 5), none⟩])
  (.cond (.t 11) (.seq (.seq (.reg [⟨some 12, .mv (.t 6), none⟩])
    (.cond (.t 12) (.seq (.reg [⟨some 4, .mv (.k (.int .i64 0)), none⟩])
      (.ret))
      (.skip)))
    (.seq (.reg [⟨some 4, .mv (.k (.int .i64 (-1))), none⟩])
    (.ret)))
    (.skip)))
  (.seq (.seq (.reg [⟨some 13, .mv (.t 6), none⟩])
  (.cond (.t 13) (.seq (.reg [⟨some 4, .mv (.k (.int .i64 1)), none⟩])
    (.ret))
    (.skip)))
  (.seq (.seq (.reg [⟨some 14, .mv (.t 0), none⟩,
    ⟨some 15, .mv (.t 1), none⟩,
    ⟨some 16, .bin .lss (.t 14) (.t 15), none⟩])
  (.cond (.t 16) (.seq (.reg [⟨some 4, .mv (.k (.int .i64 (-1))), none⟩])
    (.ret))
    (.skip)))
  (.seq (.seq (.reg [⟨some 17, .mv (.t 0), none⟩,
    ⟨some 18, .mv (.t 1), none⟩,
    ⟨some 19, .bin .gtr (.t 17) (.t 18), none⟩])
  (.cond (.t 19) (.seq (.reg [⟨some 4, .mv (.k (.int .i64 1)), none⟩])
    (.ret))
    (.skip)))
  (.seq (.reg [⟨some 4, .mv (.k (.int .i64 0)), none⟩])
  (.ret))))))))
theorem b65 : Body Try.prog 65 c65 [.tmp 4] 20 := ⟨by kernel_rfl, _, _, Try.func65, rfl, by kernel_rfl, by kernel_rfl, rfl⟩
def c66 : ACode :=
  .seq (.reg [⟨some 4, .mv (.k (.int .i64 0)), none⟩])
  (.seq (.reg [⟨some 7, .mv (.t 0), none⟩,
    ⟨some 8, .call (.k (.fn 77 [] [])) [(.t 7)], none⟩,
    ⟨some 5, .mv (.t 8), none⟩])
  (.seq (.reg [⟨some 9, .mv (.t 1), none⟩,
    ⟨some 10, .call (.k (.fn 77 [] [])) [(.t 9)], none⟩,
    ⟨some 6, .mv (.t 10), none⟩])
  (.seq (.seq (.reg [⟨some 11, .mv (.t 5), none⟩])
  (.cond (.t 11) (.seq (.seq (.reg [⟨some 12, .mv (.t 6), none⟩])
    (.cond (.t 12) (.seq (.reg [⟨some 4, .mv (.k (.int .i64 0)), none⟩])
      (.ret))
      (.skip)))
    (.seq (.reg [⟨some 4, .mv (.k (.int .i64 (-1))), none⟩])
    (.ret)))
    (.skip)))
  (.seq (.seq (.reg [⟨some 13, .mv (.t 6), none⟩])
  (.cond (.t 13) (.seq (.reg [⟨some 4, .mv (.k (.int .i64 1)), none⟩])
    (.ret))
    (.skip)))
  (.seq (.seq (.reg [⟨some 14, .mv (.t 0), none⟩,
    ⟨some 15, .mv (.t 1), none⟩,
    ⟨some 16, .bin .lss (.t 14) (.t 15), none⟩])
  (.cond (.t 16) (.seq (.reg [⟨some 4, .mv (.k (.int .i64 (-1))), none⟩])
    (.ret))
    (.skip)))
  (.seq (.seq (.reg [⟨some 17, .mv (.t 0), none⟩,
    ⟨some 18, .mv (.t 1), none⟩,
    ⟨some 19, .bin .gtr (.t 17) (.t 18), none⟩])
  (.cond (.t 19) (.seq (.reg [⟨some 4, .mv (.k (.int .i64 1)), none⟩])
    (.ret))
    (.skip)))
  (.seq (.reg [⟨some 4, .mv (.k (.int .i64 0)), none⟩])
  (.ret))))))))
theorem b66 : Body Try.prog 66 c66 [.tmp 4] 20 := ⟨by kernel_rfl, _, _, Try.func66, rfl, by kernel_rfl, by kernel_rfl, rfl⟩
def c67 : ACode :=
  .seq (.reg [⟨some 4, .mv (.k .nilp), none⟩])
  (.seq (.regD [⟨some 8, .mv (.t 0), none⟩,
    ⟨some 9, .mks 5 40 [(.int .i64 0), (.int .i64 0), (.int .i64 0), (.int .i64 0), (.int .i64 0)] (.t 8) (.t 8), none⟩,
    ⟨some 10, .mv (.t 1), none⟩,
    ⟨some 11, .mks 3 24 [(.int .i64 0), (.int .i64 0), (.int .i64 0)] (.t 10) (.t 10), none⟩,
    ⟨some 12, .build [.nils, .nils, (.int .i64 0)] [(0, 1, (.t 9)), (1, 1, (.t 11))], none⟩,
    ⟨some 13, .box (.t 12), none⟩,
    ⟨some 5, .mv (.t 13), none⟩] [[], [0, 0], [], [2, 2], [1, 3], [4], [5, 0, 1, 2, 3, 4, 5]])
  (.seq (.seq (.reg [⟨some 14, .mv (.t 5), none⟩,
    ⟨some 15, .nchk (.t 14), none⟩,
    ⟨some 16, .faddr 0 (.t 15), none⟩,
    ⟨some 17, .load false 1 (.t 16), none⟩,
    ⟨some 18, .len (.t 17), none⟩,
    ⟨some 19, .mv (.k (.int .i64 0)), none⟩])
  (.block 0 (.loop (.seq (.reg [⟨some 20, .bin .lss (.t 19) (.t 18), none⟩])
    (.seq (.cond (.t 20) (.skip)
      (.exit 0))
    (.seq (.block 1 (.seq (.reg [⟨some 21, .mv (.t 19), none⟩,
       ⟨some 6, .mv (.t 21), none⟩])
     (.reg [⟨some 22, .mv (.t 5), none⟩,
       ⟨some 23, .nchk (.t 22), none⟩,
       ⟨some 24, .faddr 0 (.t 23), none⟩,
       ⟨some 25, .load false 1 (.t 24), none⟩,
       ⟨some 26, .mv (.t 6), none⟩,
       ⟨some 27, .build [(.int .i64 0), (.int .i64 0), (.int .i64 0), (.int .i64 0), (.int .i64 0)] [(2, 1, (.k (.int .i64 (-1)))), (3, 1, (.k (.int .i64 (-1)))), (4, 1, (.k (.int .i64 (-1))))], none⟩,
       ⟨some 28, .iaddrS 5 (.t 25) (.t 26), none⟩,
       ⟨none, .store 5 (.t 28) (.t 27), none⟩])))
    (.reg [⟨some 29, .bin .add (.t 19) (.k (.int .i64 1)), none⟩,
      ⟨some 19, .mv (.t 29), none⟩])))))))
  (.seq (.seq (.reg [⟨some 30, .mv (.t 5), none⟩,
    ⟨some 31, .nchk (.t 30), none⟩,
    ⟨some 32, .faddr 1 (.t 31), none⟩,
    ⟨some 33, .load false 1 (.t 32), none⟩,
    ⟨some 34, .len (.t 33), none⟩,
    ⟨some 35, .mv (.k (.int .i64 0)), none⟩])
  (.block 2 (.loop (.seq (.reg [⟨some 36, .bin .lss (.t 35) (.t 34), none⟩])
    (.seq (.cond (.t 36) (.skip)
      (.exit 2))
    (.seq (.block 3 (.seq (.reg [⟨some 37, .mv (.t 35), none⟩,
       ⟨some 7, .mv (.t 37), none⟩])
     (.reg [⟨some 38, .mv (.t 5), none⟩,
       ⟨some 39, .nchk (.t 38), none⟩,
       ⟨some 40, .faddr 1 (.t 39), none⟩,
       ⟨some 41, .load false 1 (.t 40), none⟩,
       ⟨some 42, .mv (.t 7), none⟩,
       ⟨some 43, .build [(.int .i64 0), (.int .i64 0), (.int .i64 0)] [(0, 1, (.k (.int .i64 (-1)))), (1, 1, (.k (.int .i64 (-1)))), (2, 1, (.k (.int .i64 0)))], none⟩,
       ⟨some 44, .iaddrS 3 (.t 41) (.t 42), none⟩,
       ⟨none, .store 3 (.t 44) (.t 43), none⟩])))
    (.reg [⟨some 45, .bin .add (.t 35) (.k (.int .i64 1)), none⟩,
      ⟨some 35, .mv (.t 45), none⟩])))))))
  (.seq (.reg [⟨some 46, .mv (.t 5), none⟩,
    ⟨some 4, .mv (.t 46), none⟩])
  (.ret)))))
theorem b67 : Body Try.prog 67 c67 [.tmp 4] 47 := ⟨by kernel_rfl, _, _, Try.func67, rfl, by kernel_rfl, by kernel_rfl, rfl⟩
def c68 : ACode :=
  .seq (.reg [⟨some 2, .box (.t 0), none⟩,
    ⟨some 4, .mv (.k (.int .i64 0)), none⟩])
  (.seq (.seq (.reg [⟨some 5, .mv (.k (.int .i64 0)), none⟩])
  (.block 0 (.loop (.seq (.seq (.reg [⟨some 6, .mv (.t 5), none⟩,
      ⟨some 7, .faddr 3 (.t 2), none⟩,
      ⟨some 8, .load false 1 (.t 7), none⟩,
      ⟨some 9, .len (.t 8), none⟩,
      ⟨some 10, .bin .lss (.t 6) (.t 9), none⟩])
    (.cond (.t 10) (.skip)
      (.exit 0)))
    (.seq (.block 1 (.seq (.reg [⟨some 13, .faddr 3 (.t 2), none⟩,
       ⟨some 14, .load false 1 (.t 13), none⟩,
       ⟨some 15, .mv (.t 5), none⟩,
       ⟨some 16, .iaddrS 2 (.t 14) (.t 15), none⟩,
       ⟨some 17, .faddr 0 (.t 16), none⟩,
       ⟨some 18, .load false 1 (.t 17), none⟩,
       ⟨some 19, .mv (.t 1), none⟩,
       ⟨some 20, .bin .eql (.t 18) (.t 19), none⟩])
     (.cond (.t 20) (.seq (.reg [⟨some 21, .mv (.t 5), none⟩,
         ⟨some 4, .mv (.t 21), none⟩])
       (.ret))
       (.skip))))
    (.reg [⟨some 11, .mv (.t 5), none⟩,
      ⟨some 12, .bin .add (.t 11) (.k (.int .i64 1)), none⟩,
      ⟨some 5, .mv (.t 12), none⟩]))))))
  (.seq (.reg [⟨some 4, .mv (.k (.int .i64 (-1))), none⟩])
  (.ret)))
theorem b68 : Body Try.prog 68 c68 [.tmp 4] 22 := ⟨by kernel_rfl, _, _, Try.func68, rfl, by kernel_rfl, by kernel_rfl, rfl⟩
def c69 : ACode :=
  .seq (.reg [⟨some 2, .box (.t 0), none⟩,
    ⟨some 4, .new [(.int .i64 0), (.int .i64 0), (.int .i64 0), .nils], none⟩])
  (.seq (.regD [⟨some 5, .bslice 2 0 [] [], none⟩,
    ⟨some 6, .faddr 3 (.t 2), none⟩,
    ⟨some 7, .load false 1 (.t 6), none⟩,
    ⟨some 8, .mv (.t 1), none⟩,
    ⟨some 9, .slS 2 (.t 7) none (some (.t 8)) none, none⟩,
    ⟨some 10, .append 2 16 (.t 5) (.t 9), none⟩,
    ⟨some 11, .faddr 3 (.t 2), none⟩,
    ⟨some 12, .load false 1 (.t 11), none⟩,
    ⟨some 13, .mv (.t 1), none⟩,
    ⟨some 14, .bin .add (.t 13) (.k (.int .i64 1)), none⟩,
    ⟨some 15, .slS 2 (.t 12) (some (.t 14)) none none, none⟩,
    ⟨some 16, .append 2 16 (.t 10) (.t 15), none⟩,
    ⟨some 17, .faddr 3 (.t 2), none⟩,
    ⟨none, .store 1 (.t 17) (.t 16), none⟩] [[], [], [1], [], [2, 3], [0, 4], [], [6], [], [8], [7, 9], [5, 10, 5], [0, 1, 2, 3, 4, 5, 6, 7, 8, 9, 10, 11], [12, 11, 11, 0, 1, 2, 3, 4, 5, 6, 7, 8, 9, 10, 11]])
  (.seq (.reg [⟨some 18, .load true 4 (.t 2), none⟩,
    ⟨none, .store 4 (.t 4) (.t 18), none⟩])
  (.ret)))
theorem b69 : Body Try.prog 69 c69 [.cell 4 true 4] 19 := ⟨by kernel_rfl, _, _, Try.func69, rfl, by kernel_rfl, by kernel_rfl, rfl⟩
def c70 : ACode :=
  .seq (.reg [⟨some 3, .box (.t 0), none⟩,
    ⟨some 4, .box (.t 1), none⟩,
    ⟨some 6, .mv (.k (.bool false)), none⟩])
  (.seq (.reg [⟨some 7, .faddr 1 (.t 4), none⟩,
    ⟨some 8, .load false 1 (.t 7), none⟩,
    ⟨some 9, .faddr 0 (.t 3), none⟩,
    ⟨some 10, .load false 1 (.t 9), none⟩,
    ⟨some 11, .bin .add (.t 8) (.t 10), none⟩,
    ⟨some 12, .mv (.t 2), none⟩,
    ⟨some 13, .bin .leq (.t 11) (.t 12), none⟩,
    ⟨some 6, .mv (.t 13), none⟩])
  (.ret))
theorem b70 : Body Try.prog 70 c70 [.tmp 6] 14 := ⟨by kernel_rfl, _, _, Try.func70, rfl, by kernel_rfl, by kernel_rfl, rfl⟩
def c71 : ACode :=
  .seq (.reg [⟨some 4, .mv (.k (.int .i64 0)), none⟩])
  (.seq (.block 0 (.seq (.reg [⟨some 6, .mv (.t 0), none⟩,
     ⟨some 7, .call (.k (.fn 75 [] [])) [(.t 6)], none⟩,
     ⟨some 8, .un .not (.t 7), none⟩,
     ⟨some 5, .mv (.t 8), none⟩])
   (.cond (.t 5) (.seq (.reg [⟨some 4, .mv (.k (.int .i64 1)), none⟩])
     (.ret))
     (.seq (.reg [⟨some 10, .mv (.t 1), none⟩,
       ⟨some 11, .bin .lss (.t 10) (.k (.int .i64 0)), none⟩,
       ⟨some 12, .mv (.t 11), none⟩,
       ⟨some 13, .mv (.t 1), some (12, false)⟩,
       ⟨some 14, .mv (.t 0), some (12, false)⟩,
       ⟨some 15, .nchk (.t 14), some (12, false)⟩,
       ⟨some 16, .faddr 1 (.t 15), some (12, false)⟩,
       ⟨some 17, .load false 1 (.t 16), some (12, false)⟩,
       ⟨some 18, .len (.t 17), some (12, false)⟩,
       ⟨some 19, .bin .geq (.t 13) (.t 18), some (12, false)⟩,
       ⟨some 20, .pick (.t 12) (.k (.bool true)) (.t 19), none⟩,
       ⟨some 9, .mv (.t 20), none⟩])
     (.cond (.t 9) (.seq (.reg [⟨some 4, .mv (.k (.int .i64 7)), none⟩])
       (.ret))
       (.skip))))))
  (.seq (.reg [⟨some 4, .mv (.k (.int .i64 0)), none⟩])
  (.ret)))
theorem b71 : Body Try.prog 71 c71 [.tmp 4] 21 := ⟨by kernel_rfl, _, _, Try.func71, rfl, by kernel_rfl, by kernel_rfl, rfl⟩
def c72 : ACode :=
  .seq (.reg [⟨some 2, .mv (.k (.int .i64 0)), none⟩])
  (.seq (.block 0 (.loop (.seq (.seq (.regD [⟨some 3, .mv (.t 0), none⟩,
      ⟨some 4, .nchk (.t 3), none⟩,
      ⟨some 5, .faddr 2 (.t 4), none⟩,
      ⟨some 6, .load false 1 (.t 5), none⟩,
      ⟨some 7, .mv (.t 0), none⟩,
      ⟨some 8, .nchk (.t 7), none⟩,
      ⟨some 9, .faddr 0 (.t 8), none⟩,
      ⟨some 10, .load false 1 (.t 9), none⟩,
      ⟨some 11, .len (.t 10), none⟩,
      ⟨some 12, .bin .lss (.t 6) (.t 11), none⟩] [[], [0], [1], [2], [], [4], [5], [6], [7], [3, 8]])
    (.cond (.t 12) (.skip)
      (.exit 0)))
    (.seq (.block 1 (.seq (.regD [⟨some 20, .mv (.t 0), none⟩,
       ⟨some 21, .nchk (.t 20), none⟩,
       ⟨some 22, .faddr 0 (.t 21), none⟩,
       ⟨some 23, .load false 1 (.t 22), none⟩,
       ⟨some 24, .mv (.t 0), none⟩,
       ⟨some 25, .nchk (.t 24), none⟩,
       ⟨some 26, .faddr 2 (.t 25), none⟩,
       ⟨some 27, .load false 1 (.t 26), none⟩,
       ⟨some 28, .iaddrS 5 (.t 23) (.t 27), none⟩,
       ⟨some 29, .faddr 2 (.t 28), none⟩,
       ⟨some 30, .load false 1 (.t 29), none⟩,
       ⟨some 31, .bin .eql (.t 30) (.k (.int .i64 (-1))), none⟩] [[], [0], [1], [2], [], [4], [5], [6], [3, 7], [8], [9], [10]])
     (.cond (.t 31) (.seq (.reg [⟨some 32, .mv (.t 0), none⟩,
         ⟨some 33, .nchk (.t 32), none⟩,
         ⟨some 34, .faddr 2 (.t 33), none⟩,
         ⟨some 35, .load false 1 (.t 34), none⟩,
         ⟨some 2, .mv (.t 35), none⟩])
       (.ret))
       (.skip))))
    (.reg [⟨some 13, .mv (.t 0), none⟩,
      ⟨some 14, .nchk (.t 13), none⟩,
      ⟨some 15, .faddr 2 (.t 14), none⟩,
      ⟨some 16, .load false 1 (.t 15), none⟩,
      ⟨some 17, .bin .add (.t 16) (.k (.int .i64 1)), none⟩,
      ⟨some 18, .nchk (.t 13), none⟩,
      ⟨some 19, .faddr 2 (.t 18), none⟩,
      ⟨none, .store 1 (.t 19) (.t 17), none⟩])))))
  (.seq (.reg [⟨some 2, .mv (.k (.int .i64 (-1))), none⟩])
  (.ret)))
theorem b72 : Body Try.prog 72 c72 [.tmp 2] 36 := ⟨by kernel_rfl, _, _, Try.func72, rfl, by kernel_rfl, by kernel_rfl, rfl⟩
def c73 : ACode :=
  .seq (.regD [⟨some 12, .mv (.t 0), none⟩,
    ⟨some 13, .nchk (.t 12), none⟩,
    ⟨some 14, .faddr 0 (.t 13), none⟩,
    ⟨some 15, .load false 1 (.t 14), none⟩,
    ⟨some 16, .mv (.t 1), none⟩,
    ⟨some 17, .iaddrS 5 (.t 15) (.t 16), none⟩,
    ⟨some 18, .mv (.t 0), none⟩,
    ⟨some 19, .nchk (.t 18), none⟩,
    ⟨some 20, .faddr 1 (.t 19), none⟩,
    ⟨some 21, .load false 1 (.t 20), none⟩,
    ⟨some 22, .mv (.t 2), none⟩,
    ⟨some 23, .iaddrS 3 (.t 21) (.t 22), none⟩,
    ⟨some 10, .mv (.t 17), none⟩,
    ⟨some 11, .mv (.t 23), none⟩] [[], [0], [1], [2], [], [3, 4], [], [6], [7], [8], [], [9, 10], [5, 0, 1, 2, 3, 4, 5], [11, 12, 0, 1, 2, 3, 4, 5, 6, 7, 8, 9, 10, 11, 12]])
  (.seq (.reg [⟨some 24, .mv (.t 10), none⟩,
    ⟨some 25, .mv (.t 10), none⟩,
    ⟨some 26, .mv (.t 10), none⟩,
    ⟨some 27, .mv (.t 2), none⟩,
    ⟨some 28, .mv (.t 3), none⟩,
    ⟨some 29, .mv (.t 4), none⟩,
    ⟨some 30, .nchk (.t 24), none⟩,
    ⟨some 31, .faddr 2 (.t 30), none⟩,
    ⟨none, .store 1 (.t 31) (.t 27), none⟩,
    ⟨some 32, .nchk (.t 25), none⟩,
    ⟨some 33, .faddr 4 (.t 32), none⟩,
    ⟨none, .store 1 (.t 33) (.t 28), none⟩,
    ⟨some 34, .nchk (.t 26), none⟩,
    ⟨some 35, .faddr 3 (.t 34), none⟩,
    ⟨none, .store 1 (.t 35) (.t 29), none⟩])
  (.seq (.seq (.reg [⟨some 36, .mv (.t 3), none⟩,
    ⟨some 37, .bin .eql (.t 36) (.k (.int .i64 (-1))), none⟩])
  (.cond (.t 37) (.reg [⟨some 38, .mv (.t 11), none⟩,
      ⟨some 39, .mv (.t 1), none⟩,
      ⟨some 40, .nchk (.t 38), none⟩,
      ⟨some 41, .faddr 0 (.t 40), none⟩,
      ⟨none, .store 1 (.t 41) (.t 39), none⟩])
    (.reg [⟨some 42, .mv (.t 0), none⟩,
      ⟨some 43, .nchk (.t 42), none⟩,
      ⟨some 44, .faddr 0 (.t 43), none⟩,
      ⟨some 45, .load false 1 (.t 44), none⟩,
      ⟨some 46, .mv (.t 3), none⟩,
      ⟨some 47, .mv (.t 1), none⟩,
      ⟨some 48, .iaddrS 5 (.t 45) (.t 46), none⟩,
      ⟨some 49, .faddr 3 (.t 48), none⟩,
      ⟨none, .store 1 (.t 49) (.t 47), none⟩])))
  (.seq (.seq (.reg [⟨some 50, .mv (.t 4), none⟩,
    ⟨some 51, .bin .eql (.t 50) (.k (.int .i64 (-1))), none⟩])
  (.cond (.t 51) (.reg [⟨some 52, .mv (.t 11), none⟩,
      ⟨some 53, .mv (.t 1), none⟩,
      ⟨some 54, .nchk (.t 52), none⟩,
      ⟨some 55, .faddr 1 (.t 54), none⟩,
      ⟨none, .store 1 (.t 55) (.t 53), none⟩])
    (.reg [⟨some 56, .mv (.t 0), none⟩,
      ⟨some 57, .nchk (.t 56), none⟩,
      ⟨some 58, .faddr 0 (.t 57), none⟩,
      ⟨some 59, .load false 1 (.t 58), none⟩,
      ⟨some 60, .mv (.t 4), none⟩,
      ⟨some 61, .mv (.t 1), none⟩,
      ⟨some 62, .iaddrS 5 (.t 59) (.t 60), none⟩,
      ⟨some 63, .faddr 4 (.t 62), none⟩,
      ⟨none, .store 1 (.t 63) (.t 61), none⟩])))
  (.reg [⟨some 64, .mv (.t 11), none⟩,
    ⟨some 65, .nchk (.t 64), none⟩,
    ⟨some 66, .faddr 2 (.t 65), none⟩,
    ⟨some 67, .load false 1 (.t 66), none⟩,
    ⟨some 68, .bin .add (.t 67) (.k (.int .i64 1)), none⟩,
    ⟨some 69, .nchk (.t 64), none⟩,
    ⟨some 70, .faddr 2 (.t 69), none⟩,
    ⟨none, .store 1 (.t 70) (.t 68), none⟩]))))
theorem b73 : Body Try.prog 73 c73 [] 71 := ⟨by kernel_rfl, _, _, Try.func73, rfl, by kernel_rfl, by kernel_rfl, rfl⟩
def c74 : ACode :=
  .seq (.reg [⟨some 8, .mv (.t 3), none⟩])
  (.cond (.t 8) (.reg [⟨some 9, .mv (.t 0), none⟩,
      ⟨some 10, .mv (.t 1), none⟩,
      ⟨some 11, .mv (.t 2), none⟩,
      ⟨some 12, .mv (.t 0), none⟩,
      ⟨some 13, .nchk (.t 12), none⟩,
      ⟨some 14, .faddr 1 (.t 13), none⟩,
      ⟨some 15, .load false 1 (.t 14), none⟩,
      ⟨some 16, .mv (.t 2), none⟩,
      ⟨some 17, .iaddrS 3 (.t 15) (.t 16), none⟩,
      ⟨some 18, .faddr 0 (.t 17), none⟩,
      ⟨some 19, .load false 1 (.t 18), none⟩,
      ⟨some 20, .call (.k (.fn 73 [] [])) [(.t 9), (.t 10), (.t 11), (.k (.int .i64 (-1))), (.t 19)], none⟩])
    (.reg [⟨some 21, .mv (.t 0), none⟩,
      ⟨some 22, .mv (.t 1), none⟩,
      ⟨some 23, .mv (.t 2), none⟩,
      ⟨some 24, .mv (.t 0), none⟩,
      ⟨some 25, .nchk (.t 24), none⟩,
      ⟨some 26, .faddr 1 (.t 25), none⟩,
      ⟨some 27, .load false 1 (.t 26), none⟩,
      ⟨some 28, .mv (.t 2), none⟩,
      ⟨some 29, .iaddrS 3 (.t 27) (.t 28), none⟩,
      ⟨some 30, .faddr 1 (.t 29), none⟩,
      ⟨some 31, .load false 1 (.t 30), none⟩,
      ⟨some 32, .call (.k (.fn 73 [] [])) [(.t 21), (.t 22), (.t 23), (.t 31), (.k (.int .i64 (-1)))], none⟩]))
theorem b74 : Body Try.prog 74 c74 [] 33 := ⟨by kernel_rfl, _, _, Try.func74, rfl, by kernel_rfl, by kernel_rfl, rfl⟩
def c75 : ACode :=
  .seq (.reg [⟨some 2, .mv (.k (.bool false)), none⟩])
  (.seq (.reg [⟨some 3, .mv (.t 0), none⟩,
    ⟨some 4, .eqp true false (.t 3) (.k .nilp), none⟩,
    ⟨some 5, .mv (.t 4), none⟩,
    ⟨some 6, .mv (.t 0), some (5, true)⟩,
    ⟨some 7, .nchk (.t 6), some (5, true)⟩,
    ⟨some 8, .faddr 0 (.t 7), some (5, true)⟩,
    ⟨some 9, .load false 1 (.t 8), some (5, true)⟩,
    ⟨some 10, .len (.t 9), some (5, true)⟩,
    ⟨some 11, .bin .gtr (.t 10) (.k (.int .i64 0)), some (5, true)⟩,
    ⟨some 12, .pick (.t 5) (.t 11) (.k (.bool false)), none⟩,
    ⟨some 2, .mv (.t 12), none⟩])
  (.ret))
theorem b75 : Body Try.prog 75 c75 [.tmp 2] 13 := ⟨by kernel_rfl, _, _, Try.func75, rfl, by kernel_rfl, by kernel_rfl, rfl⟩
def c76 : ACode :=
  .seq (.reg [⟨some 2, .mv (.k (.bool false)), none⟩])
  (.seq (.reg [⟨some 3, .mv (.t 0), none⟩,
    ⟨some 4, .mv (.t 0), none⟩,
    ⟨some 5, .bin .neq (.t 3) (.t 4), none⟩,
    ⟨some 2, .mv (.t 5), none⟩])
  (.ret))
theorem b76 : Body Try.prog 76 c76 [.tmp 2] 6 := ⟨by kernel_rfl, _, _, Try.func76, rfl, by kernel_rfl, by kernel_rfl, rfl⟩
def c77 : ACode :=
  .seq (.reg [⟨some 2, .mv (.k (.bool false)), none⟩])
  (.seq (.reg [⟨some 3, .mv (.t 0), none⟩,
    ⟨some 4, .mv (.t 0), none⟩,
    ⟨some 5, .bin .neq (.t 3) (.t 4), none⟩,
    ⟨some 2, .mv (.t 5), none⟩])
  (.ret))
theorem b77 : Body Try.prog 77 c77 [.tmp 2] 6 := ⟨by kernel_rfl, _, _, Try.func77, rfl, by kernel_rfl, by kernel_rfl, rfl⟩
end Go.Proofs.Ytggkpagngnnjjaa
