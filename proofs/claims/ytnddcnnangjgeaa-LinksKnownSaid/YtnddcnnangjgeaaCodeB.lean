/-
  Abstract code of functions, printed by a program, and that it is theirs.
-/
import Derived.Test.YtnddcnnangjgeaaProg
import Derived.Test.YtnddcnnangjgeaaCodeA
namespace Go.Proofs.Ytnddcnnangjgeaa
open Go.Am
def c59 : ACode :=
  .seq (.reg [⟨some 2, .mv (.k (.bool false)), none⟩])
  (.seq (.regD [⟨some 5, .mv (.t 0), none⟩,
    ⟨some 6, .nchk (.t 5), none⟩,
    ⟨some 7, .faddr 1 (.t 6), none⟩,
    ⟨some 8, .load false 1 (.t 7), none⟩,
    ⟨some 9, .len (.t 8), none⟩,
    ⟨some 10, .mv (.t 0), none⟩,
    ⟨some 11, .nchk (.t 10), none⟩,
    ⟨some 12, .faddr 4 (.t 11), none⟩,
    ⟨some 13, .load false 1 (.t 12), none⟩,
    ⟨some 14, .len (.t 13), none⟩,
    ⟨some 3, .mv (.t 9), none⟩,
    ⟨some 4, .mv (.t 14), none⟩] [[], [0], [1], [2], [3], [], [5], [6], [7], [8], [4, 0, 1, 2, 3, 4], [9, 10, 0, 1, 2, 3, 4, 5, 6, 7, 8, 9, 10]])
  (.seq (.seq (.reg [⟨some 15, .mv (.t 3), none⟩,
    ⟨some 16, .bin .lss (.t 15) (.k (.int .i64 1)), none⟩,
    ⟨some 17, .mv (.t 16), none⟩,
    ⟨some 18, .mv (.t 3), some (17, false)⟩,
    ⟨some 19, .bin .gtr (.t 18) (.k (.int .i64 2000)), some (17, false)⟩,
    ⟨some 20, .pick (.t 17) (.k (.bool true)) (.t 19), none⟩,
    ⟨some 21, .mv (.t 20), none⟩,
    ⟨some 22, .mv (.t 4), some (21, false)⟩,
    ⟨some 23, .bin .lss (.t 22) (.k (.int .i64 1)), some (21, false)⟩,
    ⟨some 24, .pick (.t 21) (.k (.bool true)) (.t 23), none⟩,
    ⟨some 25, .mv (.t 24), none⟩,
    ⟨some 26, .mv (.t 4), some (25, false)⟩,
    ⟨some 27, .bin .gtr (.t 26) (.k (.int .i64 64)), some (25, false)⟩,
    ⟨some 28, .pick (.t 25) (.k (.bool true)) (.t 27), none⟩])
  (.cond (.t 28) (.seq (.reg [⟨some 2, .mv (.k (.bool false)), none⟩])
    (.ret))
    (.skip)))
  (.seq (.reg [⟨some 29, .mv (.t 0), none⟩,
    ⟨some 30, .nchk (.t 29), none⟩,
    ⟨some 31, .faddr 0 (.t 30), none⟩,
    ⟨some 32, .load false 1 (.t 31), none⟩,
    ⟨some 33, .len (.t 32), none⟩,
    ⟨some 34, .mv (.t 3), none⟩,
    ⟨some 35, .bin .eql (.t 33) (.t 34), none⟩,
    ⟨some 36, .mv (.t 35), none⟩,
    ⟨some 37, .mv (.t 0), some (36, true)⟩,
    ⟨some 38, .nchk (.t 37), some (36, true)⟩,
    ⟨some 39, .faddr 2 (.t 38), some (36, true)⟩,
    ⟨some 40, .load false 1 (.t 39), some (36, true)⟩,
    ⟨some 41, .len (.t 40), some (36, true)⟩,
    ⟨some 42, .mv (.t 3), some (36, true)⟩,
    ⟨some 43, .bin .eql (.t 41) (.t 42), some (36, true)⟩,
    ⟨some 44, .pick (.t 36) (.t 43) (.k (.bool false)), none⟩,
    ⟨some 45, .mv (.t 44), none⟩,
    ⟨some 46, .mv (.t 0), some (45, true)⟩,
    ⟨some 47, .nchk (.t 46), some (45, true)⟩,
    ⟨some 48, .faddr 3 (.t 47), some (45, true)⟩,
    ⟨some 49, .load false 1 (.t 48), some (45, true)⟩,
    ⟨some 50, .len (.t 49), some (45, true)⟩,
    ⟨some 51, .mv (.t 3), some (45, true)⟩,
    ⟨some 52, .bin .eql (.t 50) (.t 51), some (45, true)⟩,
    ⟨some 53, .pick (.t 45) (.t 52) (.k (.bool false)), none⟩,
    ⟨some 54, .mv (.t 53), none⟩,
    ⟨some 55, .mv (.t 0), some (54, true)⟩,
    ⟨some 56, .nchk (.t 55), some (54, true)⟩,
    ⟨some 57, .faddr 5 (.t 56), some (54, true)⟩,
    ⟨some 58, .load false 1 (.t 57), some (54, true)⟩,
    ⟨some 59, .len (.t 58), some (54, true)⟩,
    ⟨some 60, .mv (.t 4), some (54, true)⟩,
    ⟨some 61, .bin .eql (.t 59) (.t 60), some (54, true)⟩,
    ⟨some 62, .pick (.t 54) (.t 61) (.k (.bool false)), none⟩,
    ⟨some 2, .mv (.t 62), none⟩])
  (.ret))))
theorem b59 : Body Try.prog 59 c59 [.tmp 2] 63 := ⟨by kernel_rfl, _, _, Try.func59, rfl, by kernel_rfl, by kernel_rfl, rfl⟩
def c60 : ACode :=
  .seq (.reg [⟨some 4, .mv (.k (.bool false)), none⟩])
  (.seq (.reg [⟨some 8, .mv (.t 0), none⟩,
    ⟨some 9, .nchk (.t 8), none⟩,
    ⟨some 10, .faddr 1 (.t 9), none⟩,
    ⟨some 11, .load false 1 (.t 10), none⟩,
    ⟨some 12, .len (.t 11), none⟩,
    ⟨some 5, .mv (.t 12), none⟩])
  (.seq (.seq (.regD [⟨some 13, .mv (.t 0), none⟩,
    ⟨some 14, .nchk (.t 13), none⟩,
    ⟨some 15, .faddr 2 (.t 14), none⟩,
    ⟨some 16, .load false 1 (.t 15), none⟩,
    ⟨some 17, .mv (.t 1), none⟩,
    ⟨some 18, .iaddrS 1 (.t 16) (.t 17), none⟩,
    ⟨some 19, .load false 1 (.t 18), none⟩,
    ⟨some 20, .mv (.t 0), none⟩,
    ⟨some 21, .nchk (.t 20), none⟩,
    ⟨some 22, .faddr 3 (.t 21), none⟩,
    ⟨some 23, .load false 1 (.t 22), none⟩,
    ⟨some 24, .mv (.t 1), none⟩,
    ⟨some 25, .iaddrS 1 (.t 23) (.t 24), none⟩,
    ⟨some 26, .load false 1 (.t 25), none⟩,
    ⟨some 27, .bslice 1 2 [(.int .i64 0), (.int .i64 0)] [(0, 1, (.t 19)), (1, 1, (.t 26))], none⟩,
    ⟨some 28, .len (.t 27), none⟩,
    ⟨some 29, .mv (.k (.int .i64 0)), none⟩] [[], [0], [1], [2], [], [3, 4], [5], [], [7], [8], [9], [], [10, 11], [12], [6, 13], [14], []])
  (.block 0 (.loop (.seq (.reg [⟨some 30, .bin .lss (.t 29) (.t 28), none⟩])
    (.seq (.cond (.t 30) (.skip)
      (.exit 0))
    (.seq (.block 1 (.seq (.reg [⟨some 31, .iaddrS 1 (.t 27) (.t 29), none⟩,
       ⟨some 32, .load false 1 (.t 31), none⟩,
       ⟨some 7, .mv (.t 32), none⟩])
     (.seq (.reg [⟨some 33, .mv (.t 7), none⟩,
       ⟨some 34, .bin .lss (.t 33) (.k (.int .i64 (-1))), none⟩,
       ⟨some 35, .mv (.t 34), none⟩,
       ⟨some 36, .mv (.t 7), some (35, false)⟩,
       ⟨some 37, .mv (.t 5), some (35, false)⟩,
       ⟨some 38, .bin .geq (.t 36) (.t 37), some (35, false)⟩,
       ⟨some 39, .pick (.t 35) (.k (.bool true)) (.t 38), none⟩,
       ⟨some 40, .mv (.t 39), none⟩,
       ⟨some 41, .mv (.t 0), some (40, false)⟩,
       ⟨some 42, .nchk (.t 41), some (40, false)⟩,
       ⟨some 43, .faddr 1 (.t 42), some (40, false)⟩,
       ⟨some 44, .load false 1 (.t 43), some (40, false)⟩,
       ⟨some 45, .mv (.t 1), some (40, false)⟩,
       ⟨some 46, .iaddrS 1 (.t 44) (.t 45), some (40, false)⟩,
       ⟨some 47, .load false 1 (.t 46), some (40, false)⟩,
       ⟨some 48, .bin .eql (.t 47) (.k (.int .i64 (-1))), some (40, false)⟩,
       ⟨some 49, .mv (.t 48), some (40, false)⟩,
       ⟨some 50, .mv (.t 7), some (49, true)⟩,
       ⟨some 51, .bin .neq (.t 50) (.k (.int .i64 (-1))), some (49, true)⟩,
       ⟨some 52, .pick (.t 49) (.t 51) (.k (.bool false)), some (40, false)⟩,
       ⟨some 53, .pick (.t 40) (.k (.bool true)) (.t 52), none⟩])
     (.cond (.t 53) (.seq (.reg [⟨some 4, .mv (.k (.bool true)), none⟩])
       (.ret))
       (.skip)))))
    (.reg [⟨some 54, .bin .add (.t 29) (.k (.int .i64 1)), none⟩,
      ⟨some 29, .mv (.t 54), none⟩])))))))
  (.seq (.regD [⟨some 55, .mv (.t 0), none⟩,
    ⟨some 56, .nchk (.t 55), none⟩,
    ⟨some 57, .faddr 1 (.t 56), none⟩,
    ⟨some 58, .load false 1 (.t 57), none⟩,
    ⟨some 59, .mv (.t 1), none⟩,
    ⟨some 60, .iaddrS 1 (.t 58) (.t 59), none⟩,
    ⟨some 61, .load false 1 (.t 60), none⟩,
    ⟨some 62, .bin .lss (.t 61) (.k (.int .i64 (-1))), none⟩,
    ⟨some 63, .mv (.t 62), none⟩,
    ⟨some 64, .mv (.t 0), some (63, false)⟩,
    ⟨some 65, .nchk (.t 64), some (63, false)⟩,
    ⟨some 66, .faddr 1 (.t 65), some (63, false)⟩,
    ⟨some 67, .load false 1 (.t 66), some (63, false)⟩,
    ⟨some 68, .mv (.t 1), some (63, false)⟩,
    ⟨some 69, .iaddrS 1 (.t 67) (.t 68), some (63, false)⟩,
    ⟨some 70, .load false 1 (.t 69), some (63, false)⟩,
    ⟨some 71, .mv (.t 0), some (63, false)⟩,
    ⟨some 72, .nchk (.t 71), some (63, false)⟩,
    ⟨some 73, .faddr 4 (.t 72), some (63, false)⟩,
    ⟨some 74, .load false 1 (.t 73), some (63, false)⟩,
    ⟨some 75, .len (.t 74), some (63, false)⟩,
    ⟨some 76, .bin .geq (.t 70) (.t 75), some (63, false)⟩,
    ⟨some 77, .pick (.t 63) (.k (.bool true)) (.t 76), none⟩,
    ⟨some 4, .mv (.t 77), none⟩] [[], [0], [1], [2], [], [3, 4], [5], [6], [7], [8], [9, 8], [10, 8], [11, 8], [8], [12, 13, 8], [14, 8], [8], [16, 8], [17, 8], [18, 8], [19, 8], [15, 20, 8], [8, 21], [22, 8, 0, 1, 2, 3, 4, 5, 6, 7, 8, 9, 10, 11, 12, 13, 14, 15, 16, 17, 18, 19, 20, 21, 22]])
  (.ret))))
theorem b60 : Body Try.prog 60 c60 [.tmp 4] 78 := ⟨by kernel_rfl, _, _, Try.func60, rfl, by kernel_rfl, by kernel_rfl, rfl⟩
def c61 : ACode :=
  .seq (.reg [⟨some 1, .box (.t 0), none⟩,
    ⟨some 2, .mv (.k (.bool false)), none⟩])
  (.seq (.regD [⟨some 5, .faddr 1 (.t 1), none⟩,
    ⟨some 6, .load false 1 (.t 5), none⟩,
    ⟨some 7, .len (.t 6), none⟩,
    ⟨some 8, .faddr 4 (.t 1), none⟩,
    ⟨some 9, .load false 1 (.t 8), none⟩,
    ⟨some 10, .len (.t 9), none⟩,
    ⟨some 3, .mv (.t 7), none⟩,
    ⟨some 4, .mv (.t 10), none⟩] [[], [0], [1], [], [3], [4], [2, 0, 1, 2], [5, 6, 0, 1, 2, 3, 4, 5, 6]])
  (.seq (.reg [⟨some 11, .mv (.t 3), none⟩,
    ⟨some 12, .bin .geq (.t 11) (.k (.int .i64 1)), none⟩,
    ⟨some 13, .mv (.t 12), none⟩,
    ⟨some 14, .mv (.t 3), some (13, true)⟩,
    ⟨some 15, .bin .leq (.t 14) (.k (.int .i64 2000)), some (13, true)⟩,
    ⟨some 16, .pick (.t 13) (.t 15) (.k (.bool false)), none⟩,
    ⟨some 17, .mv (.t 16), none⟩,
    ⟨some 18, .faddr 0 (.t 1), some (17, true)⟩,
    ⟨some 19, .load false 1 (.t 18), some (17, true)⟩,
    ⟨some 20, .len (.t 19), some (17, true)⟩,
    ⟨some 21, .mv (.t 3), some (17, true)⟩,
    ⟨some 22, .bin .eql (.t 20) (.t 21), some (17, true)⟩,
    ⟨some 23, .pick (.t 17) (.t 22) (.k (.bool false)), none⟩,
    ⟨some 24, .mv (.t 23), none⟩,
    ⟨some 25, .faddr 2 (.t 1), some (24, true)⟩,
    ⟨some 26, .load false 1 (.t 25), some (24, true)⟩,
    ⟨some 27, .len (.t 26), some (24, true)⟩,
    ⟨some 28, .mv (.t 3), some (24, true)⟩,
    ⟨some 29, .bin .eql (.t 27) (.t 28), some (24, true)⟩,
    ⟨some 30, .pick (.t 24) (.t 29) (.k (.bool false)), none⟩,
    ⟨some 31, .mv (.t 30), none⟩,
    ⟨some 32, .faddr 3 (.t 1), some (31, true)⟩,
    ⟨some 33, .load false 1 (.t 32), some (31, true)⟩,
    ⟨some 34, .len (.t 33), some (31, true)⟩,
    ⟨some 35, .mv (.t 3), some (31, true)⟩,
    ⟨some 36, .bin .eql (.t 34) (.t 35), some (31, true)⟩,
    ⟨some 37, .pick (.t 31) (.t 36) (.k (.bool false)), none⟩,
    ⟨some 38, .mv (.t 37), none⟩,
    ⟨some 39, .mv (.t 4), some (38, true)⟩,
    ⟨some 40, .bin .geq (.t 39) (.k (.int .i64 1)), some (38, true)⟩,
    ⟨some 41, .pick (.t 38) (.t 40) (.k (.bool false)), none⟩,
    ⟨some 42, .mv (.t 41), none⟩,
    ⟨some 43, .mv (.t 4), some (42, true)⟩,
    ⟨some 44, .bin .leq (.t 43) (.k (.int .i64 64)), some (42, true)⟩,
    ⟨some 45, .pick (.t 42) (.t 44) (.k (.bool false)), none⟩,
    ⟨some 46, .mv (.t 45), none⟩,
    ⟨some 47, .faddr 5 (.t 1), some (46, true)⟩,
    ⟨some 48, .load false 1 (.t 47), some (46, true)⟩,
    ⟨some 49, .len (.t 48), some (46, true)⟩,
    ⟨some 50, .mv (.t 4), some (46, true)⟩,
    ⟨some 51, .bin .eql (.t 49) (.t 50), some (46, true)⟩,
    ⟨some 52, .pick (.t 46) (.t 51) (.k (.bool false)), none⟩,
    ⟨some 2, .mv (.t 52), none⟩])
  (.ret)))
theorem b61 : Body Try.prog 61 c61 [.tmp 2] 53 := ⟨by kernel_rfl, _, _, Try.func61, rfl, by kernel_rfl, by kernel_rfl, rfl⟩
def c62 : ACode :=
  .seq (.reg [⟨some 3, .box (.t 0), none⟩,
    ⟨some 6, .mv (.k (.bool false)), none⟩])
  (.seq (.regD [⟨some 10, .faddr 4 (.t 3), none⟩,
    ⟨some 11, .load false 1 (.t 10), none⟩,
    ⟨some 12, .mv (.t 1), none⟩,
    ⟨some 13, .iaddrS 1 (.t 11) (.t 12), none⟩,
    ⟨some 14, .load false 1 (.t 13), none⟩,
    ⟨some 7, .mv (.k (.int .i64 (-1))), none⟩,
    ⟨some 8, .mv (.t 14), none⟩] [[], [0], [], [1, 2], [3], [], [4, 5, 0, 1, 2, 3, 4, 5]])
  (.seq (.seq (.reg [⟨some 9, .mv (.k (.int .i64 0)), none⟩])
  (.block 0 (.loop (.seq (.seq (.reg [⟨some 15, .mv (.t 8), none⟩,
      ⟨some 16, .bin .neq (.t 15) (.k (.int .i64 (-1))), none⟩])
    (.cond (.t 16) (.skip)
      (.exit 0)))
    (.seq (.block 1 (.seq (.seq (.reg [⟨some 19, .mv (.t 9), none⟩,
       ⟨some 20, .faddr 1 (.t 3), none⟩,
       ⟨some 21, .load false 1 (.t 20), none⟩,
       ⟨some 22, .len (.t 21), none⟩,
       ⟨some 23, .bin .eql (.t 19) (.t 22), none⟩,
       ⟨some 24, .mv (.t 23), none⟩,
       ⟨some 25, .mv (.t 8), some (24, false)⟩,
       ⟨some 26, .bin .lss (.t 25) (.k (.int .i64 0)), some (24, false)⟩,
       ⟨some 27, .pick (.t 24) (.k (.bool true)) (.t 26), none⟩,
       ⟨some 28, .mv (.t 27), none⟩,
       ⟨some 29, .mv (.t 8), some (28, false)⟩,
       ⟨some 30, .faddr 1 (.t 3), some (28, false)⟩,
       ⟨some 31, .load false 1 (.t 30), some (28, false)⟩,
       ⟨some 32, .len (.t 31), some (28, false)⟩,
       ⟨some 33, .bin .geq (.t 29) (.t 32), some (28, false)⟩,
       ⟨some 34, .pick (.t 28) (.k (.bool true)) (.t 33), none⟩,
       ⟨some 35, .mv (.t 34), none⟩,
       ⟨some 36, .faddr 1 (.t 3), some (35, false)⟩,
       ⟨some 37, .load false 1 (.t 36), some (35, false)⟩,
       ⟨some 38, .mv (.t 8), some (35, false)⟩,
       ⟨some 39, .iaddrS 1 (.t 37) (.t 38), some (35, false)⟩,
       ⟨some 40, .load false 1 (.t 39), some (35, false)⟩,
       ⟨some 41, .mv (.t 1), some (35, false)⟩,
       ⟨some 42, .bin .neq (.t 40) (.t 41), some (35, false)⟩,
       ⟨some 43, .pick (.t 35) (.k (.bool true)) (.t 42), none⟩,
       ⟨some 44, .mv (.t 43), none⟩,
       ⟨some 45, .faddr 3 (.t 3), some (44, false)⟩,
       ⟨some 46, .load false 1 (.t 45), some (44, false)⟩,
       ⟨some 47, .mv (.t 8), some (44, false)⟩,
       ⟨some 48, .iaddrS 1 (.t 46) (.t 47), some (44, false)⟩,
       ⟨some 49, .load false 1 (.t 48), some (44, false)⟩,
       ⟨some 50, .mv (.t 7), some (44, false)⟩,
       ⟨some 51, .bin .neq (.t 49) (.t 50), some (44, false)⟩,
       ⟨some 52, .pick (.t 44) (.k (.bool true)) (.t 51), none⟩])
     (.cond (.t 52) (.seq (.reg [⟨some 6, .mv (.k (.bool false)), none⟩])
       (.ret))
       (.skip)))
     (.seq (.reg [⟨some 53, .mv (.t 2), none⟩,
       ⟨some 54, .mv (.t 8), none⟩,
       ⟨some 55, .iaddrS 1 (.t 53) (.t 54), none⟩,
       ⟨none, .store 1 (.t 55) (.k (.bool true)), none⟩])
     (.regD [⟨some 56, .mv (.t 8), none⟩,
       ⟨some 57, .faddr 2 (.t 3), none⟩,
       ⟨some 58, .load false 1 (.t 57), none⟩,
       ⟨some 59, .mv (.t 8), none⟩,
       ⟨some 60, .iaddrS 1 (.t 58) (.t 59), none⟩,
       ⟨some 61, .load false 1 (.t 60), none⟩,
       ⟨some 7, .mv (.t 56), none⟩,
       ⟨some 8, .mv (.t 61), none⟩] [[], [], [1], [], [2, 3], [4], [0, 0], [5, 6, 0, 1, 2, 3, 4, 5, 6]]))))
    (.reg [⟨some 17, .mv (.t 9), none⟩,
      ⟨some 18, .bin .add (.t 17) (.k (.int .i64 1)), none⟩,
      ⟨some 9, .mv (.t 18), none⟩]))))))
  (.seq (.reg [⟨some 62, .faddr 5 (.t 3), none⟩,
    ⟨some 63, .load false 1 (.t 62), none⟩,
    ⟨some 64, .mv (.t 1), none⟩,
    ⟨some 65, .iaddrS 1 (.t 63) (.t 64), none⟩,
    ⟨some 66, .load false 1 (.t 65), none⟩,
    ⟨some 67, .mv (.t 7), none⟩,
    ⟨some 68, .bin .eql (.t 66) (.t 67), none⟩,
    ⟨some 6, .mv (.t 68), none⟩])
  (.ret))))
theorem b62 : Body Try.prog 62 c62 [.tmp 6] 69 := ⟨by kernel_rfl, _, _, Try.func62, rfl, by kernel_rfl, by kernel_rfl, rfl⟩
def c63 : ACode :=
  .seq (.reg [⟨some 4, .mv (.k .nilp), none⟩])
  (.seq (.regD [⟨some 8, .mv (.t 0), none⟩,
    ⟨some 9, .mks 4 32 [(.int .i64 0), (.int .i64 0), (.int .i64 0), (.int .i64 0)] (.t 8) (.t 8), none⟩,
    ⟨some 10, .mv (.t 1), none⟩,
    ⟨some 11, .mks 3 24 [(.int .i64 0), (.int .i64 0), (.int .i64 0)] (.t 10) (.t 10), none⟩,
    ⟨some 12, .build [.nils, .nils, (.int .i64 0)] [(0, 1, (.t 9)), (1, 1, (.t 11))], none⟩,
    ⟨some 13, .box (.t 12), none⟩,
    ⟨some 5, .mv (.t 13), none⟩] [[], [0, 0], [], [2, 2], [1, 3], [4], [5, 0, 1, 2, 3, 4, 5]])
  (.seq (.seq (.reg [⟨some 14, .mv (.t 5), none⟩,
    ⟨some 15, .nchk (.t 14), none⟩,
    ⟨some 16, .faddr 0 (.t 15), none⟩,
    ⟨some 17, .load false 1 (.t 16), none⟩,
    ⟨some 18, .len (.t 17), none⟩,
    ⟨some 19, .mv (.k (.int .i64 0)), none⟩])
  (.block 0 (.loop (.seq (.reg [⟨some 20, .bin .lss (.t 19) (.t 18), none⟩])
    (.seq (.cond (.t 20) (.skip)
      (.exit 0))
    (.seq (.block 1 (.seq (.reg [⟨some 21, .mv (.t 19), none⟩,
       ⟨some 6, .mv (.t 21), none⟩])
     (.reg [⟨some 22, .mv (.t 5), none⟩,
       ⟨some 23, .nchk (.t 22), none⟩,
       ⟨some 24, .faddr 0 (.t 23), none⟩,
       ⟨some 25, .load false 1 (.t 24), none⟩,
       ⟨some 26, .mv (.t 6), none⟩,
       ⟨some 27, .build [(.int .i64 0), (.int .i64 0), (.int .i64 0), (.int .i64 0)] [(1, 1, (.k (.int .i64 (-1)))), (2, 1, (.k (.int .i64 (-1)))), (3, 1, (.k (.int .i64 (-1))))], none⟩,
       ⟨some 28, .iaddrS 4 (.t 25) (.t 26), none⟩,
       ⟨none, .store 4 (.t 28) (.t 27), none⟩])))
    (.reg [⟨some 29, .bin .add (.t 19) (.k (.int .i64 1)), none⟩,
      ⟨some 19, .mv (.t 29), none⟩])))))))
  (.seq (.seq (.reg [⟨some 30, .mv (.t 5), none⟩,
    ⟨some 31, .nchk (.t 30), none⟩,
    ⟨some 32, .faddr 1 (.t 31), none⟩,
    ⟨some 33, .load false 1 (.t 32), none⟩,
    ⟨some 34, .len (.t 33), none⟩,
    ⟨some 35, .mv (.k (.int .i64 0)), none⟩])
  (.block 2 (.loop (.seq (.reg [⟨some 36, .bin .lss (.t 35) (.t 34), none⟩])
    (.seq (.cond (.t 36) (.skip)
      (.exit 2))
    (.seq (.block 3 (.seq (.reg [⟨some 37, .mv (.t 35), none⟩,
       ⟨some 7, .mv (.t 37), none⟩])
     (.reg [⟨some 38, .mv (.t 5), none⟩,
       ⟨some 39, .nchk (.t 38), none⟩,
       ⟨some 40, .faddr 1 (.t 39), none⟩,
       ⟨some 41, .load false 1 (.t 40), none⟩,
       ⟨some 42, .mv (.t 7), none⟩,
       ⟨some 43, .build [(.int .i64 0), (.int .i64 0), (.int .i64 0)] [(0, 1, (.k (.int .i64 (-1)))), (1, 1, (.k (.int .i64 (-1)))), (2, 1, (.k (.int .i64 0)))], none⟩,
       ⟨some 44, .iaddrS 3 (.t 41) (.t 42), none⟩,
       ⟨none, .store 3 (.t 44) (.t 43), none⟩])))
    (.reg [⟨some 45, .bin .add (.t 35) (.k (.int .i64 1)), none⟩,
      ⟨some 35, .mv (.t 45), none⟩])))))))
  (.seq (.reg [⟨some 46, .mv (.t 5), none⟩,
    ⟨some 4, .mv (.t 46), none⟩])
  (.ret)))))
theorem b63 : Body Try.prog 63 c63 [.tmp 4] 47 := ⟨by kernel_rfl, _, _, Try.func63, rfl, by kernel_rfl, by kernel_rfl, rfl⟩
def c64 : ACode :=
  .seq (.reg [⟨some 2, .mv (.k (.bool false)), none⟩])
  (.seq (.reg [⟨some 3, .mv (.t 0), none⟩,
    ⟨some 4, .eqp true false (.t 3) (.k .nilp), none⟩,
    ⟨some 5, .mv (.t 4), none⟩,
    ⟨some 6, .mv (.t 0), some (5, true)⟩,
    ⟨some 7, .nchk (.t 6), some (5, true)⟩,
    ⟨some 8, .faddr 0 (.t 7), some (5, true)⟩,
    ⟨some 9, .load false 1 (.t 8), some (5, true)⟩,
    ⟨some 10, .len (.t 9), some (5, true)⟩,
    ⟨some 11, .bin .gtr (.t 10) (.k (.int .i64 0)), some (5, true)⟩,
    ⟨some 12, .pick (.t 5) (.t 11) (.k (.bool false)), none⟩,
    ⟨some 2, .mv (.t 12), none⟩])
  (.ret))
theorem b64 : Body Try.prog 64 c64 [.tmp 2] 13 := ⟨by kernel_rfl, _, _, Try.func64, rfl, by kernel_rfl, by kernel_rfl, rfl⟩
def c65 : ACode :=
  .seq (.reg [⟨some 4, .mv (.k .nilp), none⟩])
  (.seq (.regD [⟨some 8, .mv (.t 0), none⟩,
    ⟨some 9, .mks 5 48 [(.str ⟨#[]⟩), (.int .i64 0), (.int .i64 0), (.int .i64 0), (.int .i64 0)] (.t 8) (.t 8), none⟩,
    ⟨some 10, .mv (.t 1), none⟩,
    ⟨some 11, .mks 3 24 [(.int .i64 0), (.int .i64 0), (.int .i64 0)] (.t 10) (.t 10), none⟩,
    ⟨some 12, .build [.nils, .nils, (.int .i64 0)] [(0, 1, (.t 9)), (1, 1, (.t 11))], none⟩,
    ⟨some 13, .box (.t 12), none⟩,
    ⟨some 5, .mv (.t 13), none⟩] [[], [0, 0], [], [2, 2], [1, 3], [4], [5, 0, 1, 2, 3, 4, 5]])
  (.seq (.seq (.reg [⟨some 14, .mv (.t 5), none⟩,
    ⟨some 15, .nchk (.t 14), none⟩,
    ⟨some 16, .faddr 0 (.t 15), none⟩,
    ⟨some 17, .load false 1 (.t 16), none⟩,
    ⟨some 18, .len (.t 17), none⟩,
    ⟨some 19, .mv (.k (.int .i64 0)), none⟩])
  (.block 0 (.loop (.seq (.reg [⟨some 20, .bin .lss (.t 19) (.t 18), none⟩])
    (.seq (.cond (.t 20) (.skip)
      (.exit 0))
    (.seq (.block 1 (.seq (.reg [⟨some 21, .mv (.t 19), none⟩,
       ⟨some 6, .mv (.t 21), none⟩])
     (.reg [⟨some 22, .mv (.t 5), none⟩,
       ⟨some 23, .nchk (.t 22), none⟩,
       ⟨some 24, .faddr 0 (.t 23), none⟩,
       ⟨some 25, .load false 1 (.t 24), none⟩,
       ⟨some 26, .mv (.t 6), none⟩,
       ⟨some 27, .build [(.str ⟨#[]⟩), (.int .i64 0), (.int .i64 0), (.int .i64 0), (.int .i64 0)] [(2, 1, (.k (.int .i64 (-1)))), (3, 1, (.k (.int .i64 (-1)))), (4, 1, (.k (.int .i64 (-1))))], none⟩,
       ⟨some 28, .iaddrS 5 (.t 25) (.t 26), none⟩,
       ⟨none, .store 5 (.t 28) (.t 27), none⟩])))
    (.reg [⟨some 29, .bin .add (.t 19) (.k (.int .i64 1)), none⟩,
      ⟨some 19, .mv (.t 29), none⟩])))))))
  (.seq (.seq (.reg [⟨some 30, .mv (.t 5), none⟩,
    ⟨some 31, .nchk (.t 30), none⟩,
    ⟨some 32, .faddr 1 (.t 31), none⟩,
    ⟨some 33, .load false 1 (.t 32), none⟩,
    ⟨some 34, .len (.t 33), none⟩,
    ⟨some 35, .mv (.k (.int .i64 0)), none⟩])
  (.block 2 (.loop (.seq (.reg [⟨some 36, .bin .lss (.t 35) (.t 34), none⟩])
    (.seq (.cond (.t 36) (.skip)
      (.exit 2))
    (.seq (.block 3 (.seq (.reg [⟨some 37, .mv (.t 35), none⟩,
       ⟨some 7, .mv (.t 37), none⟩])
     (.reg [⟨some 38, .mv (.t 5), none⟩,
       ⟨some 39, .nchk (.t 38), none⟩,
       ⟨some 40, .faddr 1 (.t 39), none⟩,
       ⟨some 41, .load false 1 (.t 40), none⟩,
       ⟨some 42, .mv (.t 7), none⟩,
       ⟨some 43, .build [(.int .i64 0), (.int .i64 0), (.int .i64 0)] [(0, 1, (.k (.int .i64 (-1)))), (1, 1, (.k (.int .i64 (-1)))), (2, 1, (.k (.int .i64 0)))], none⟩,
       ⟨some 44, .iaddrS 3 (.t 41) (.t 42), none⟩,
       ⟨none, .store 3 (.t 44) (.t 43), none⟩])))
    (.reg [⟨some 45, .bin .add (.t 35) (.k (.int .i64 1)), none⟩,
      ⟨some 35, .mv (.t 45), none⟩])))))))
  (.seq (.reg [⟨some 46, .mv (.t 5), none⟩,
    ⟨some 4, .mv (.t 46), none⟩])
  (.ret)))))
theorem b65 : Body Try.prog 65 c65 [.tmp 4] 47 := ⟨by kernel_rfl, _, _, Try.func65, rfl, by kernel_rfl, by kernel_rfl, rfl⟩
def c66 : ACode :=
  .seq (.reg [⟨some 4, .mv (.k .nilp), none⟩])
  (.seq (.regD [⟨some 8, .mv (.t 0), none⟩,
    ⟨some 9, .mks 4 32 [.nilp, (.int .i64 0), (.int .i64 0), (.int .i64 0)] (.t 8) (.t 8), none⟩,
    ⟨some 10, .mv (.t 1), none⟩,
    ⟨some 11, .mks 3 24 [(.int .i64 0), (.int .i64 0), (.int .i64 0)] (.t 10) (.t 10), none⟩,
    ⟨some 12, .build [.nils, .nils, (.int .i64 0)] [(0, 1, (.t 9)), (1, 1, (.t 11))], none⟩,
    ⟨some 13, .box (.t 12), none⟩,
    ⟨some 5, .mv (.t 13), none⟩] [[], [0, 0], [], [2, 2], [1, 3], [4], [5, 0, 1, 2, 3, 4, 5]])
  (.seq (.seq (.reg [⟨some 14, .mv (.t 5), none⟩,
    ⟨some 15, .nchk (.t 14), none⟩,
    ⟨some 16, .faddr 0 (.t 15), none⟩,
    ⟨some 17, .load false 1 (.t 16), none⟩,
    ⟨some 18, .len (.t 17), none⟩,
    ⟨some 19, .mv (.k (.int .i64 0)), none⟩])
  (.block 0 (.loop (.seq (.reg [⟨some 20, .bin .lss (.t 19) (.t 18), none⟩])
    (.seq (.cond (.t 20) (.skip)
      (.exit 0))
    (.seq (.block 1 (.seq (.reg [⟨some 21, .mv (.t 19), none⟩,
       ⟨some 6, .mv (.t 21), none⟩])
     (.reg [⟨some 22, .mv (.t 5), none⟩,
       ⟨some 23, .nchk (.t 22), none⟩,
       ⟨some 24, .faddr 0 (.t 23), none⟩,
       ⟨some 25, .load false 1 (.t 24), none⟩,
       ⟨some 26, .mv (.t 6), none⟩,
       ⟨some 27, .build [.nilp, (.int .i64 0), (.int .i64 0), (.int .i64 0)] [(1, 1, (.k (.int .i64 (-1)))), (2, 1, (.k (.int .i64 (-1)))), (3, 1, (.k (.int .i64 (-1))))], none⟩,
       ⟨some 28, .iaddrS 4 (.t 25) (.t 26), none⟩,
       ⟨none, .store 4 (.t 28) (.t 27), none⟩])))
    (.reg [⟨some 29, .bin .add (.t 19) (.k (.int .i64 1)), none⟩,
      ⟨some 19, .mv (.t 29), none⟩])))))))
  (.seq (.seq (.reg [⟨some 30, .mv (.t 5), none⟩,
    ⟨some 31, .nchk (.t 30), none⟩,
    ⟨some 32, .faddr 1 (.t 31), none⟩,
    ⟨some 33, .load false 1 (.t 32), none⟩,
    ⟨some 34, .len (.t 33), none⟩,
    ⟨some 35, .mv (.k (.int .i64 0)), none⟩])
  (.block 2 (.loop (.seq (.reg [⟨some 36, .bin .lss (.t 35) (.t 34), none⟩])
    (.seq (.cond (.t 36) (.skip)
      (.exit 2))
    (.seq (.block 3 (.seq (.reg [⟨some 37, .mv (.t 35), none⟩,
       ⟨some 7, .mv (.t 37), none⟩])
     (.reg [⟨some 38, .mv (.t 5), none⟩,
       ⟨some 39, .nchk (.t 38), none⟩,
       ⟨some 40, .faddr 1 (.t 39), none⟩,
       ⟨some 41, .load false 1 (.t 40), none⟩,
       ⟨some 42, .mv (.t 7), none⟩,
       ⟨some 43, .build [(.int .i64 0), (.int .i64 0), (.int .i64 0)] [(0, 1, (.k (.int .i64 (-1)))), (1, 1, (.k (.int .i64 (-1)))), (2, 1, (.k (.int .i64 0)))], none⟩,
       ⟨some 44, .iaddrS 3 (.t 41) (.t 42), none⟩,
       ⟨none, .store 3 (.t 44) (.t 43), none⟩])))
    (.reg [⟨some 45, .bin .add (.t 35) (.k (.int .i64 1)), none⟩,
      ⟨some 35, .mv (.t 45), none⟩])))))))
  (.seq (.reg [⟨some 46, .mv (.t 5), none⟩,
    ⟨some 4, .mv (.t 46), none⟩])
  (.ret)))))
theorem b66 : Body Try.prog 66 c66 [.tmp 4] 47 := ⟨by kernel_rfl, _, _, Try.func66, rfl, by kernel_rfl, by kernel_rfl, rfl⟩
def c67 : ACode :=
  .seq (.reg [⟨some 4, .mv (.k (.int .i64 0)), none⟩])
  (.seq (.block 0 (.seq (.reg [⟨some 6, .mv (.t 0), none⟩,
     ⟨some 7, .call (.k (.fn 79 [] [])) [(.t 6)], none⟩,
     ⟨some 8, .un .not (.t 7), none⟩,
     ⟨some 5, .mv (.t 8), none⟩])
   (.cond (.t 5) (.seq (.reg [⟨some 4, .mv (.k (.int .i64 1)), none⟩])
     (.ret))
     (.seq (.reg [⟨some 10, .mv (.t 1), none⟩,
       ⟨some 11, .bin .lss (.t 10) (.k (.int .i64 0)), none⟩,
       ⟨some 12, .mv (.t 11), none⟩,
       ⟨some 13, .mv (.t 1), some (12, false)⟩,
       ⟨some 14, .mv (.t 0), some (12, false)⟩,
       ⟨some 15, .nchk (.t 14), some (12, false)⟩,
       ⟨some 16, .faddr 1 (.t 15), some (12, false)⟩,
       ⟨some 17, .load false 1 (.t 16), some (12, false)⟩,
       ⟨some 18, .len (.t 17), some (12, false)⟩,
       ⟨some 19, .bin .geq (.t 13) (.t 18), some (12, false)⟩,
       ⟨some 20, .pick (.t 12) (.k (.bool true)) (.t 19), none⟩,
       ⟨some 9, .mv (.t 20), none⟩])
     (.cond (.t 9) (.seq (.reg [⟨some 4, .mv (.k (.int .i64 7)), none⟩])
       (.ret))
       (.skip))))))
  (.seq (.reg [⟨some 4, .mv (.k (.int .i64 0)), none⟩])
  (.ret)))
theorem b67 : Body Try.prog 67 c67 [.tmp 4] 21 := ⟨by kernel_rfl, _, _, Try.func67, rfl, by kernel_rfl, by kernel_rfl, rfl⟩
def c68 : ACode :=
  .seq (.reg [⟨some 2, .mv (.k (.int .i64 0)), none⟩])
  (.seq (.block 0 (.loop (.seq (.seq (.regD [⟨some 3, .mv (.t 0), none⟩,
      ⟨some 4, .nchk (.t 3), none⟩,
      ⟨some 5, .faddr 2 (.t 4), none⟩,
      ⟨some 6, .load false 1 (.t 5), none⟩,
      ⟨some 7, .mv (.t 0), none⟩,
      ⟨some 8, .nchk (.t 7), none⟩,
      ⟨some 9, .faddr 0 (.t 8), none⟩,
      ⟨some 10, .load false 1 (.t 9), none⟩,
      ⟨some 11, .len (.t 10), none⟩,
      ⟨some 12, .bin .lss (.t 6) (.t 11), none⟩] [[], [0], [1], [2], [], [4], [5], [6], [7], [3, 8]])
    (.cond (.t 12) (.skip)
      (.exit 0)))
    (.seq (.block 1 (.seq (.regD [⟨some 20, .mv (.t 0), none⟩,
       ⟨some 21, .nchk (.t 20), none⟩,
       ⟨some 22, .faddr 0 (.t 21), none⟩,
       ⟨some 23, .load false 1 (.t 22), none⟩,
       ⟨some 24, .mv (.t 0), none⟩,
       ⟨some 25, .nchk (.t 24), none⟩,
       ⟨some 26, .faddr 2 (.t 25), none⟩,
       ⟨some 27, .load false 1 (.t 26), none⟩,
       ⟨some 28, .iaddrS 5 (.t 23) (.t 27), none⟩,
       ⟨some 29, .faddr 2 (.t 28), none⟩,
       ⟨some 30, .load false 1 (.t 29), none⟩,
       ⟨some 31, .bin .eql (.t 30) (.k (.int .i64 (-1))), none⟩] [[], [0], [1], [2], [], [4], [5], [6], [3, 7], [8], [9], [10]])
     (.cond (.t 31) (.seq (.reg [⟨some 32, .mv (.t 0), none⟩,
         ⟨some 33, .nchk (.t 32), none⟩,
         ⟨some 34, .faddr 2 (.t 33), none⟩,
         ⟨some 35, .load false 1 (.t 34), none⟩,
         ⟨some 2, .mv (.t 35), none⟩])
       (.ret))
       (.skip))))
    (.reg [⟨some 13, .mv (.t 0), none⟩,
      ⟨some 14, .nchk (.t 13), none⟩,
      ⟨some 15, .faddr 2 (.t 14), none⟩,
      ⟨some 16, .load false 1 (.t 15), none⟩,
      ⟨some 17, .bin .add (.t 16) (.k (.int .i64 1)), none⟩,
      ⟨some 18, .nchk (.t 13), none⟩,
      ⟨some 19, .faddr 2 (.t 18), none⟩,
      ⟨none, .store 1 (.t 19) (.t 17), none⟩])))))
  (.seq (.reg [⟨some 2, .mv (.k (.int .i64 (-1))), none⟩])
  (.ret)))
theorem b68 : Body Try.prog 68 c68 [.tmp 2] 36 := ⟨by kernel_rfl, _, _, Try.func68, rfl, by kernel_rfl, by kernel_rfl, rfl⟩
def c69 : ACode :=
  .seq (.reg [⟨some 8, .mv (.t 3), none⟩])
  (.cond (.t 8) (.reg [⟨some 9, .mv (.t 0), none⟩,
      ⟨some 10, .mv (.t 1), none⟩,
      ⟨some 11, .mv (.t 2), none⟩,
      ⟨some 12, .mv (.t 0), none⟩,
      ⟨some 13, .nchk (.t 12), none⟩,
      ⟨some 14, .faddr 1 (.t 13), none⟩,
      ⟨some 15, .load false 1 (.t 14), none⟩,
      ⟨some 16, .mv (.t 2), none⟩,
      ⟨some 17, .iaddrS 3 (.t 15) (.t 16), none⟩,
      ⟨some 18, .faddr 0 (.t 17), none⟩,
      ⟨some 19, .load false 1 (.t 18), none⟩,
      ⟨some 20, .call (.k (.fn 74 [] [])) [(.t 9), (.t 10), (.t 11), (.k (.int .i64 (-1))), (.t 19)], none⟩])
    (.reg [⟨some 21, .mv (.t 0), none⟩,
      ⟨some 22, .mv (.t 1), none⟩,
      ⟨some 23, .mv (.t 2), none⟩,
      ⟨some 24, .mv (.t 0), none⟩,
      ⟨some 25, .nchk (.t 24), none⟩,
      ⟨some 26, .faddr 1 (.t 25), none⟩,
      ⟨some 27, .load false 1 (.t 26), none⟩,
      ⟨some 28, .mv (.t 2), none⟩,
      ⟨some 29, .iaddrS 3 (.t 27) (.t 28), none⟩,
      ⟨some 30, .faddr 1 (.t 29), none⟩,
      ⟨some 31, .load false 1 (.t 30), none⟩,
      ⟨some 32, .call (.k (.fn 74 [] [])) [(.t 21), (.t 22), (.t 23), (.t 31), (.k (.int .i64 (-1)))], none⟩]))
theorem b69 : Body Try.prog 69 c69 [] 33 := ⟨by kernel_rfl, _, _, Try.func69, rfl, by kernel_rfl, by kernel_rfl, rfl⟩
def c70 : ACode :=
  .seq (.reg [⟨some 4, .mv (.k (.int .i64 0)), none⟩])
  (.seq (.block 0 (.seq (.reg [⟨some 6, .mv (.t 0), none⟩,
     ⟨some 7, .call (.k (.fn 80 [] [])) [(.t 6)], none⟩,
     ⟨some 8, .un .not (.t 7), none⟩,
     ⟨some 5, .mv (.t 8), none⟩])
   (.cond (.t 5) (.seq (.reg [⟨some 4, .mv (.k (.int .i64 1)), none⟩])
     (.ret))
     (.seq (.reg [⟨some 10, .mv (.t 1), none⟩,
       ⟨some 11, .bin .lss (.t 10) (.k (.int .i64 0)), none⟩,
       ⟨some 12, .mv (.t 11), none⟩,
       ⟨some 13, .mv (.t 1), some (12, false)⟩,
       ⟨some 14, .mv (.t 0), some (12, false)⟩,
       ⟨some 15, .nchk (.t 14), some (12, false)⟩,
       ⟨some 16, .faddr 1 (.t 15), some (12, false)⟩,
       ⟨some 17, .load false 1 (.t 16), some (12, false)⟩,
       ⟨some 18, .len (.t 17), some (12, false)⟩,
       ⟨some 19, .bin .geq (.t 13) (.t 18), some (12, false)⟩,
       ⟨some 20, .pick (.t 12) (.k (.bool true)) (.t 19), none⟩,
       ⟨some 9, .mv (.t 20), none⟩])
     (.cond (.t 9) (.seq (.reg [⟨some 4, .mv (.k (.int .i64 7)), none⟩])
       (.ret))
       (.skip))))))
  (.seq (.reg [⟨some 4, .mv (.k (.int .i64 0)), none⟩])
  (.ret)))
theorem b70 : Body Try.prog 70 c70 [.tmp 4] 21 := ⟨by kernel_rfl, _, _, Try.func70, rfl, by kernel_rfl, by kernel_rfl, rfl⟩
def c71 : ACode :=
  .seq (.reg [⟨some 2, .mv (.k (.int .i64 0)), none⟩])
  (.seq (.block 0 (.loop (.seq (.seq (.regD [⟨some 3, .mv (.t 0), none⟩,
      ⟨some 4, .nchk (.t 3), none⟩,
      ⟨some 5, .faddr 2 (.t 4), none⟩,
      ⟨some 6, .load false 1 (.t 5), none⟩,
      ⟨some 7, .mv (.t 0), none⟩,
      ⟨some 8, .nchk (.t 7), none⟩,
      ⟨some 9, .faddr 0 (.t 8), none⟩,
      ⟨some 10, .load false 1 (.t 9), none⟩,
      ⟨some 11, .len (.t 10), none⟩,
      ⟨some 12, .bin .lss (.t 6) (.t 11), none⟩] [[], [0], [1], [2], [], [4], [5], [6], [7], [3, 8]])
    (.cond (.t 12) (.skip)
      (.exit 0)))
    (.seq (.block 1 (.seq (.regD [⟨some 20, .mv (.t 0), none⟩,
       ⟨some 21, .nchk (.t 20), none⟩,
       ⟨some 22, .faddr 0 (.t 21), none⟩,
       ⟨some 23, .load false 1 (.t 22), none⟩,
       ⟨some 24, .mv (.t 0), none⟩,
       ⟨some 25, .nchk (.t 24), none⟩,
       ⟨some 26, .faddr 2 (.t 25), none⟩,
       ⟨some 27, .load false 1 (.t 26), none⟩,
       ⟨some 28, .iaddrS 4 (.t 23) (.t 27), none⟩,
       ⟨some 29, .faddr 1 (.t 28), none⟩,
       ⟨some 30, .load false 1 (.t 29), none⟩,
       ⟨some 31, .bin .eql (.t 30) (.k (.int .i64 (-1))), none⟩] [[], [0], [1], [2], [], [4], [5], [6], [3, 7], [8], [9], [10]])
     (.cond (.t 31) (.seq (.reg [⟨some 32, .mv (.t 0), none⟩,
         ⟨some 33, .nchk (.t 32), none⟩,
         ⟨some 34, .faddr 2 (.t 33), none⟩,
         ⟨some 35, .load false 1 (.t 34), none⟩,
         ⟨some 2, .mv (.t 35), none⟩])
       (.ret))
       (.skip))))
    (.reg [⟨some 13, .mv (.t 0), none⟩,
      ⟨some 14, .nchk (.t 13), none⟩,
      ⟨some 15, .faddr 2 (.t 14), none⟩,
      ⟨some 16, .load false 1 (.t 15), none⟩,
      ⟨some 17, .bin .add (.t 16) (.k (.int .i64 1)), none⟩,
      ⟨some 18, .nchk (.t 13), none⟩,
      ⟨some 19, .faddr 2 (.t 18), none⟩,
      ⟨none, .store 1 (.t 19) (.t 17), none⟩])))))
  (.seq (.reg [⟨some 2, .mv (.k (.int .i64 (-1))), none⟩])
  (.ret)))
theorem b71 : Body Try.prog 71 c71 [.tmp 2] 36 := ⟨by kernel_rfl, _, _, Try.func71, rfl, by kernel_rfl, by kernel_rfl, rfl⟩
def c72 : ACode :=
  .seq (.reg [⟨some 8, .mv (.t 3), none⟩])
  (.cond (.t 8) (.reg [⟨some 9, .mv (.t 0), none⟩,
      ⟨some 10, .mv (.t 1), none⟩,
      ⟨some 11, .mv (.t 2), none⟩,
      ⟨some 12, .mv (.t 0), none⟩,
      ⟨some 13, .nchk (.t 12), none⟩,
      ⟨some 14, .faddr 1 (.t 13), none⟩,
      ⟨some 15, .load false 1 (.t 14), none⟩,
      ⟨some 16, .mv (.t 2), none⟩,
      ⟨some 17, .iaddrS 3 (.t 15) (.t 16), none⟩,
      ⟨some 18, .faddr 0 (.t 17), none⟩,
      ⟨some 19, .load false 1 (.t 18), none⟩,
      ⟨some 20, .call (.k (.fn 76 [] [])) [(.t 9), (.t 10), (.t 11), (.k (.int .i64 (-1))), (.t 19)], none⟩])
    (.reg [⟨some 21, .mv (.t 0), none⟩,
      ⟨some 22, .mv (.t 1), none⟩,
      ⟨some 23, .mv (.t 2), none⟩,
      ⟨some 24, .mv (.t 0), none⟩,
      ⟨some 25, .nchk (.t 24), none⟩,
      ⟨some 26, .faddr 1 (.t 25), none⟩,
      ⟨some 27, .load false 1 (.t 26), none⟩,
      ⟨some 28, .mv (.t 2), none⟩,
      ⟨some 29, .iaddrS 3 (.t 27) (.t 28), none⟩,
      ⟨some 30, .faddr 1 (.t 29), none⟩,
      ⟨some 31, .load false 1 (.t 30), none⟩,
      ⟨some 32, .call (.k (.fn 76 [] [])) [(.t 21), (.t 22), (.t 23), (.t 31), (.k (.int .i64 (-1)))], none⟩]))
theorem b72 : Body Try.prog 72 c72 [] 33 := ⟨by kernel_rfl, _, _, Try.func72, rfl, by kernel_rfl, by kernel_rfl, rfl⟩
def c73 : ACode :=
  .seq (.reg [⟨some 4, .mv (.k (.int .i64 0)), none⟩])
  (.seq (.block 0 (.seq (.reg [⟨some 6, .mv (.t 0), none⟩,
     ⟨some 7, .call (.k (.fn 79 [] [])) [(.t 6)], none⟩,
     ⟨some 8, .un .not (.t 7), none⟩,
     ⟨some 5, .mv (.t 8), none⟩])
   (.cond (.t 5) (.seq (.reg [⟨some 4, .mv (.k (.int .i64 1)), none⟩])
     (.ret))
     (.seq (.reg [⟨some 10, .mv (.t 1), none⟩,
       ⟨some 11, .bin .lss (.t 10) (.k (.int .i64 0)), none⟩,
       ⟨some 12, .mv (.t 11), none⟩,
       ⟨some 13, .mv (.t 1), some (12, false)⟩,
       ⟨some 14, .mv (.t 0), some (12, false)⟩,
       ⟨some 15, .nchk (.t 14), some (12, false)⟩,
       ⟨some 16, .faddr 0 (.t 15), some (12, false)⟩,
       ⟨some 17, .load false 1 (.t 16), some (12, false)⟩,
       ⟨some 18, .len (.t 17), some (12, false)⟩,
       ⟨some 19, .bin .geq (.t 13) (.t 18), some (12, false)⟩,
       ⟨some 20, .pick (.t 12) (.k (.bool true)) (.t 19), none⟩,
       ⟨some 21, .mv (.t 20), none⟩,
       ⟨some 22, .mv (.t 0), some (21, false)⟩,
       ⟨some 23, .nchk (.t 22), some (21, false)⟩,
       ⟨some 24, .faddr 0 (.t 23), some (21, false)⟩,
       ⟨some 25, .load false 1 (.t 24), some (21, false)⟩,
       ⟨some 26, .mv (.t 1), some (21, false)⟩,
       ⟨some 27, .iaddrS 5 (.t 25) (.t 26), some (21, false)⟩,
       ⟨some 28, .faddr 2 (.t 27), some (21, false)⟩,
       ⟨some 29, .load false 1 (.t 28), some (21, false)⟩,
       ⟨some 30, .bin .eql (.t 29) (.k (.int .i64 (-1))), some (21, false)⟩,
       ⟨some 31, .pick (.t 21) (.k (.bool true)) (.t 30), none⟩,
       ⟨some 9, .mv (.t 31), none⟩])
     (.cond (.t 9) (.seq (.reg [⟨some 4, .mv (.k (.int .i64 4)), none⟩])
       (.ret))
       (.skip))))))
  (.seq (.reg [⟨some 4, .mv (.k (.int .i64 0)), none⟩])
  (.ret)))
theorem b73 : Body Try.prog 73 c73 [.tmp 4] 32 := ⟨by kernel_rfl, _, _, Try.func73, rfl, by kernel_rfl, by kernel_rfl, rfl⟩
def c74 : ACode :=
  .seq (.regD [⟨some 12, .mv (.t 0), none⟩,
    ⟨some 13, .nchk (.t 12), none⟩,
    ⟨some 14, .faddr 0 (.t 13), none⟩,
    ⟨some 15, .load false 1 (.t 14), none⟩,
    ⟨some 16, .mv (.t 1), none⟩,
    ⟨some 17, .iaddrS 5 (.t 15) (.t 16), none⟩,
    ⟨some 18, .mv (.t 0), none⟩,
    ⟨some 19, .nchk (.t 18), none⟩,
    ⟨some 20, .faddr 1 (.t 19), none⟩,
    ⟨some 21, .load false 1 (.t 20), none⟩,
    ⟨some 22, .mv (.t 2), none⟩,
    ⟨some 23, .iaddrS 3 (.t 21) (.t 22), none⟩,
    ⟨some 10, .mv (.t 17), none⟩,
    ⟨some 11, .mv (.t 23), none⟩] [[], [0], [1], [2], [], [3, 4], [], [6], [7], [8], [], [9, 10], [5, 0, 1, 2, 3, 4, 5], [11, 12, 0, 1, 2, 3, 4, 5, 6, 7, 8, 9, 10, 11, 12]])
  (.seq (.reg [⟨some 24, .mv (.t 10), none⟩,
    ⟨some 25, .mv (.t 10), none⟩,
    ⟨some 26, .mv (.t 10), none⟩,
    ⟨some 27, .mv (.t 2), none⟩,
    ⟨some 28, .mv (.t 3), none⟩,
    ⟨some 29, .mv (.t 4), none⟩,
    ⟨some 30, .nchk (.t 24), none⟩,
    ⟨some 31, .faddr 2 (.t 30), none⟩,
    ⟨none, .store 1 (.t 31) (.t 27), none⟩,
    ⟨some 32, .nchk (.t 25), none⟩,
    ⟨some 33, .faddr 4 (.t 32), none⟩,
    ⟨none, .store 1 (.t 33) (.t 28), none⟩,
    ⟨some 34, .nchk (.t 26), none⟩,
    ⟨some 35, .faddr 3 (.t 34), none⟩,
    ⟨none, .store 1 (.t 35) (.t 29), none⟩])
  (.seq (.seq (.reg [⟨some 36, .mv (.t 3), none⟩,
    ⟨some 37, .bin .eql (.t 36) (.k (.int .i64 (-1))), none⟩])
  (.cond (.t 37) (.reg [⟨some 38, .mv (.t 11), none⟩,
      ⟨some 39, .mv (.t 1), none⟩,
      ⟨some 40, .nchk (.t 38), none⟩,
      ⟨some 41, .faddr 0 (.t 40), none⟩,
      ⟨none, .store 1 (.t 41) (.t 39), none⟩])
    (.reg [⟨some 42, .mv (.t 0), none⟩,
      ⟨some 43, .nchk (.t 42), none⟩,
      ⟨some 44, .faddr 0 (.t 43), none⟩,
      ⟨some 45, .load false 1 (.t 44), none⟩,
      ⟨some 46, .mv (.t 3), none⟩,
      ⟨some 47, .mv (.t 1), none⟩,
      ⟨some 48, .iaddrS 5 (.t 45) (.t 46), none⟩,
      ⟨some 49, .faddr 3 (.t 48), none⟩,
      ⟨none, .store 1 (.t 49) (.t 47), none⟩])))
  (.seq (.seq (.reg [⟨some 50, .mv (.t 4), none⟩,
    ⟨some 51, .bin .eql (.t 50) (.k (.int .i64 (-1))), none⟩])
  (.cond (.t 51) (.reg [⟨some 52, .mv (.t 11), none⟩,
      ⟨some 53, .mv (.t 1), none⟩,
      ⟨some 54, .nchk (.t 52), none⟩,
      ⟨some 55, .faddr 1 (.t 54), none⟩,
      ⟨none, .store 1 (.t 55) (.t 53), none⟩])
    (.reg [⟨some 56, .mv (.t 0), none⟩,
      ⟨some 57, .nchk (.t 56), none⟩,
      ⟨some 58, .faddr 0 (.t 57), none⟩,
      ⟨some 59, .load false 1 (.t 58), none⟩,
      ⟨some 60, .mv (.t 4), none⟩,
      ⟨some 61, .mv (.t 1), none⟩,
      ⟨some 62, .iaddrS 5 (.t 59) (.t 60), none⟩,
      ⟨some 63, .faddr 4 (.t 62), none⟩,
      ⟨none, .store 1 (.t 63) (.t 61), none⟩])))
  (.reg [⟨some 64, .mv (.t 11), none⟩,
    ⟨some 65, .nchk (.t 64), none⟩,
    ⟨some 66, .faddr 2 (.t 65), none⟩,
    ⟨some 67, .load false 1 (.t 66), none⟩,
    ⟨some 68, .bin .add (.t 67) (.k (.int .i64 1)), none⟩,
    ⟨some 69, .nchk (.t 64), none⟩,
    ⟨some 70, .faddr 2 (.t 69), none⟩,
    ⟨none, .store 1 (.t 70) (.t 68), none⟩]))))
theorem b74 : Body Try.prog 74 c74 [] 71 := ⟨by kernel_rfl, _, _, Try.func74, rfl, by kernel_rfl, by kernel_rfl, rfl⟩
def c75 : ACode :=
  .seq (.reg [⟨some 4, .mv (.k (.int .i64 0)), none⟩])
  (.seq (.block 0 (.seq (.reg [⟨some 6, .mv (.t 0), none⟩,
     ⟨some 7, .call (.k (.fn 80 [] [])) [(.t 6)], none⟩,
     ⟨some 8, .un .not (.t 7), none⟩,
     ⟨some 5, .mv (.t 8), none⟩])
   (.cond (.t 5) (.seq (.reg [⟨some 4, .mv (.k (.int .i64 1)), none⟩])
     (.ret))
     (.seq (.reg [⟨some 10, .mv (.t 1), none⟩,
       ⟨some 11, .bin .lss (.t 10) (.k (.int .i64 0)), none⟩,
       ⟨some 12, .mv (.t 11), none⟩,
       ⟨some 13, .mv (.t 1), some (12, false)⟩,
       ⟨some 14, .mv (.t 0), some (12, false)⟩,
       ⟨some 15, .nchk (.t 14), some (12, false)⟩,
       ⟨some 16, .faddr 0 (.t 15), some (12, false)⟩,
       ⟨some 17, .load false 1 (.t 16), some (12, false)⟩,
       ⟨some 18, .len (.t 17), some (12, false)⟩,
       ⟨some 19, .bin .geq (.t 13) (.t 18), some (12, false)⟩,
       ⟨some 20, .pick (.t 12) (.k (.bool true)) (.t 19), none⟩,
       ⟨some 21, .mv (.t 20), none⟩,
       ⟨some 22, .mv (.t 0), some (21, false)⟩,
       ⟨some 23, .nchk (.t 22), some (21, false)⟩,
       ⟨some 24, .faddr 0 (.t 23), some (21, false)⟩,
       ⟨some 25, .load false 1 (.t 24), some (21, false)⟩,
       ⟨some 26, .mv (.t 1), some (21, false)⟩,
       ⟨some 27, .iaddrS 4 (.t 25) (.t 26), some (21, false)⟩,
       ⟨some 28, .faddr 1 (.t 27), some (21, false)⟩,
       ⟨some 29, .load false 1 (.t 28), some (21, false)⟩,
       ⟨some 30, .bin .eql (.t 29) (.k (.int .i64 (-1))), some (21, false)⟩,
       ⟨some 31, .pick (.t 21) (.k (.bool true)) (.t 30), none⟩,
       ⟨some 9, .mv (.t 31), none⟩])
     (.cond (.t 9) (.seq (.reg [⟨some 4, .mv (.k (.int .i64 4)), none⟩])
       (.ret))
       (.skip))))))
  (.seq (.reg [⟨some 4, .mv (.k (.int .i64 0)), none⟩])
  (.ret)))
theorem b75 : Body Try.prog 75 c75 [.tmp 4] 32 := ⟨by kernel_rfl, _, _, Try.func75, rfl, by kernel_rfl, by kernel_rfl, rfl⟩
def c76 : ACode :=
  .seq (.regD [⟨some 12, .mv (.t 0), none⟩,
    ⟨some 13, .nchk (.t 12), none⟩,
    ⟨some 14, .faddr 0 (.t 13), none⟩,
    ⟨some 15, .load false 1 (.t 14), none⟩,
    ⟨some 16, .mv (.t 1), none⟩,
    ⟨some 17, .iaddrS 4 (.t 15) (.t 16), none⟩,
    ⟨some 18, .mv (.t 0), none⟩,
    ⟨some 19, .nchk (.t 18), none⟩,
    ⟨some 20, .faddr 1 (.t 19), none⟩,
    ⟨some 21, .load false 1 (.t 20), none⟩,
    ⟨some 22, .mv (.t 2), none⟩,
    ⟨some 23, .iaddrS 3 (.t 21) (.t 22), none⟩,
    ⟨some 10, .mv (.t 17), none⟩,
    ⟨some 11, .mv (.t 23), none⟩] [[], [0], [1], [2], [], [3, 4], [], [6], [7], [8], [], [9, 10], [5, 0, 1, 2, 3, 4, 5], [11, 12, 0, 1, 2, 3, 4, 5, 6, 7, 8, 9, 10, 11, 12]])
  (.seq (.reg [⟨some 24, .mv (.t 10), none⟩,
    ⟨some 25, .mv (.t 10), none⟩,
    ⟨some 26, .mv (.t 10), none⟩,
    ⟨some 27, .mv (.t 2), none⟩,
    ⟨some 28, .mv (.t 3), none⟩,
    ⟨some 29, .mv (.t 4), none⟩,
    ⟨some 30, .nchk (.t 24), none⟩,
    ⟨some 31, .faddr 1 (.t 30), none⟩,
    ⟨none, .store 1 (.t 31) (.t 27), none⟩,
    ⟨some 32, .nchk (.t 25), none⟩,
    ⟨some 33, .faddr 3 (.t 32), none⟩,
    ⟨none, .store 1 (.t 33) (.t 28), none⟩,
    ⟨some 34, .nchk (.t 26), none⟩,
    ⟨some 35, .faddr 2 (.t 34), none⟩,
    ⟨none, .store 1 (.t 35) (.t 29), none⟩])
  (.seq (.seq (.reg [⟨some 36, .mv (.t 3), none⟩,
    ⟨some 37, .bin .eql (.t 36) (.k (.int .i64 (-1))), none⟩])
  (.cond (.t 37) (.reg [⟨some 38, .mv (.t 11), none⟩,
      ⟨some 39, .mv (.t 1), none⟩,
      ⟨some 40, .nchk (.t 38), none⟩,
      ⟨some 41, .faddr 0 (.t 40), none⟩,
      ⟨none, .store 1 (.t 41) (.t 39), none⟩])
    (.reg [⟨some 42, .mv (.t 0), none⟩,
      ⟨some 43, .nchk (.t 42), none⟩,
      ⟨some 44, .faddr 0 (.t 43), none⟩,
      ⟨some 45, .load false 1 (.t 44), none⟩,
      ⟨some 46, .mv (.t 3), none⟩,
      ⟨some 47, .mv (.t 1), none⟩,
      ⟨some 48, .iaddrS 4 (.t 45) (.t 46), none⟩,
      ⟨some 49, .faddr 2 (.t 48), none⟩,
      ⟨none, .store 1 (.t 49) (.t 47), none⟩])))
  (.seq (.seq (.reg [⟨some 50, .mv (.t 4), none⟩,
    ⟨some 51, .bin .eql (.t 50) (.k (.int .i64 (-1))), none⟩])
  (.cond (.t 51) (.reg [⟨some 52, .mv (.t 11), none⟩,
      ⟨some 53, .mv (.t 1), none⟩,
      ⟨some 54, .nchk (.t 52), none⟩,
      ⟨some 55, .faddr 1 (.t 54), none⟩,
      ⟨none, .store 1 (.t 55) (.t 53), none⟩])
    (.reg [⟨some 56, .mv (.t 0), none⟩,
      ⟨some 57, .nchk (.t 56), none⟩,
      ⟨some 58, .faddr 0 (.t 57), none⟩,
      ⟨some 59, .load false 1 (.t 58), none⟩,
      ⟨some 60, .mv (.t 4), none⟩,
      ⟨some 61, .mv (.t 1), none⟩,
      ⟨some 62, .iaddrS 4 (.t 59) (.t 60), none⟩,
      ⟨some 63, .faddr 3 (.t 62), none⟩,
      ⟨none, .store 1 (.t 63) (.t 61), none⟩])))
  (.reg [⟨some 64, .mv (.t 11), none⟩,
    ⟨some 65, .nchk (.t 64), none⟩,
    ⟨some 66, .faddr 2 (.t 65), none⟩,
    ⟨some 67, .load false 1 (.t 66), none⟩,
    ⟨some 68, .bin .add (.t 67) (.k (.int .i64 1)), none⟩,
    ⟨some 69, .nchk (.t 64), none⟩,
    ⟨some 70, .faddr 2 (.t 69), none⟩,
    ⟨none, .store 1 (.t 70) (.t 68), none⟩]))))
theorem b76 : Body Try.prog 76 c76 [] 71 := ⟨by kernel_rfl, _, _, Try.func76, rfl, by kernel_rfl, by kernel_rfl, rfl⟩
def c77 : ACode :=
  .seq (.reg [⟨some 6, .mv (.t 0), none⟩,
    ⟨some 7, .nchk (.t 6), none⟩,
    ⟨some 8, .faddr 0 (.t 7), none⟩,
    ⟨some 9, .load false 1 (.t 8), none⟩,
    ⟨some 10, .mv (.t 1), none⟩,
    ⟨some 11, .iaddrS 5 (.t 9) (.t 10), none⟩,
    ⟨some 4, .mv (.t 11), none⟩])
  (.seq (.regD [⟨some 12, .mv (.t 0), none⟩,
    ⟨some 13, .nchk (.t 12), none⟩,
    ⟨some 14, .faddr 1 (.t 13), none⟩,
    ⟨some 15, .load false 1 (.t 14), none⟩,
    ⟨some 16, .mv (.t 4), none⟩,
    ⟨some 17, .nchk (.t 16), none⟩,
    ⟨some 18, .faddr 2 (.t 17), none⟩,
    ⟨some 19, .load false 1 (.t 18), none⟩,
    ⟨some 20, .iaddrS 3 (.t 15) (.t 19), none⟩,
    ⟨some 5, .mv (.t 20), none⟩] [[], [0], [1], [2], [], [4], [5], [6], [3, 7], [8, 0, 1, 2, 3, 4, 5, 6, 7, 8]])
  (.seq (.seq (.reg [⟨some 21, .mv (.t 4), none⟩,
    ⟨some 22, .nchk (.t 21), none⟩,
    ⟨some 23, .faddr 4 (.t 22), none⟩,
    ⟨some 24, .load false 1 (.t 23), none⟩,
    ⟨some 25, .bin .eql (.t 24) (.k (.int .i64 (-1))), none⟩])
  (.cond (.t 25) (.reg [⟨some 26, .mv (.t 5), none⟩,
      ⟨some 27, .mv (.t 4), none⟩,
      ⟨some 28, .nchk (.t 27), none⟩,
      ⟨some 29, .faddr 3 (.t 28), none⟩,
      ⟨some 30, .load false 1 (.t 29), none⟩,
      ⟨some 31, .nchk (.t 26), none⟩,
      ⟨some 32, .faddr 0 (.t 31), none⟩,
      ⟨none, .store 1 (.t 32) (.t 30), none⟩])
    (.regD [⟨some 33, .mv (.t 0), none⟩,
      ⟨some 34, .nchk (.t 33), none⟩,
      ⟨some 35, .faddr 0 (.t 34), none⟩,
      ⟨some 36, .load false 1 (.t 35), none⟩,
      ⟨some 37, .mv (.t 4), none⟩,
      ⟨some 38, .nchk (.t 37), none⟩,
      ⟨some 39, .faddr 4 (.t 38), none⟩,
      ⟨some 40, .load false 1 (.t 39), none⟩,
      ⟨some 41, .mv (.t 4), none⟩,
      ⟨some 42, .nchk (.t 41), none⟩,
      ⟨some 43, .faddr 3 (.t 42), none⟩,
      ⟨some 44, .load false 1 (.t 43), none⟩,
      ⟨some 45, .iaddrS 5 (.t 36) (.t 40), none⟩,
      ⟨some 46, .faddr 3 (.t 45), none⟩,
      ⟨none, .store 1 (.t 46) (.t 44), none⟩] [[], [0], [1], [2], [], [4], [5], [6], [], [8], [9], [10], [3, 7, 0, 1, 2, 3, 4, 5, 6, 7, 8, 9, 10, 11], [12, 0, 1, 2, 3, 4, 5, 6, 7, 8, 9, 10, 11], [13, 11, 0, 1, 2, 3, 4, 5, 6, 7, 8, 9, 10, 11]])))
  (.seq (.seq (.reg [⟨some 47, .mv (.t 4), none⟩,
    ⟨some 48, .nchk (.t 47), none⟩,
    ⟨some 49, .faddr 3 (.t 48), none⟩,
    ⟨some 50, .load false 1 (.t 49), none⟩,
    ⟨some 51, .bin .eql (.t 50) (.k (.int .i64 (-1))), none⟩])
  (.cond (.t 51) (.reg [⟨some 52, .mv (.t 5), none⟩,
      ⟨some 53, .mv (.t 4), none⟩,
      ⟨some 54, .nchk (.t 53), none⟩,
      ⟨some 55, .faddr 4 (.t 54), none⟩,
      ⟨some 56, .load false 1 (.t 55), none⟩,
      ⟨some 57, .nchk (.t 52), none⟩,
      ⟨some 58, .faddr 1 (.t 57), none⟩,
      ⟨none, .store 1 (.t 58) (.t 56), none⟩])
    (.regD [⟨some 59, .mv (.t 0), none⟩,
      ⟨some 60, .nchk (.t 59), none⟩,
      ⟨some 61, .faddr 0 (.t 60), none⟩,
      ⟨some 62, .load false 1 (.t 61), none⟩,
      ⟨some 63, .mv (.t 4), none⟩,
      ⟨some 64, .nchk (.t 63), none⟩,
      ⟨some 65, .faddr 3 (.t 64), none⟩,
      ⟨some 66, .load false 1 (.t 65), none⟩,
      ⟨some 67, .mv (.t 4), none⟩,
      ⟨some 68, .nchk (.t 67), none⟩,
      ⟨some 69, .faddr 4 (.t 68), none⟩,
      ⟨some 70, .load false 1 (.t 69), none⟩,
      ⟨some 71, .iaddrS 5 (.t 62) (.t 66), none⟩,
      ⟨some 72, .faddr 4 (.t 71), none⟩,
      ⟨none, .store 1 (.t 72) (.t 70), none⟩] [[], [0], [1], [2], [], [4], [5], [6], [], [8], [9], [10], [3, 7, 0, 1, 2, 3, 4, 5, 6, 7, 8, 9, 10, 11], [12, 0, 1, 2, 3, 4, 5, 6, 7, 8, 9, 10, 11], [13, 11, 0, 1, 2, 3, 4, 5, 6, 7, 8, 9, 10, 11]])))
  (.seq (.reg [⟨some 73, .mv (.t 5), none⟩,
    ⟨some 74, .nchk (.t 73), none⟩,
    ⟨some 75, .faddr 2 (.t 74), none⟩,
    ⟨some 76, .load false 1 (.t 75), none⟩,
    ⟨some 77, .bin .sub (.t 76) (.k (.int .i64 1)), none⟩,
    ⟨some 78, .nchk (.t 73), none⟩,
    ⟨some 79, .faddr 2 (.t 78), none⟩,
    ⟨none, .store 1 (.t 79) (.t 77), none⟩])
  (.reg [⟨some 80, .mv (.t 4), none⟩,
    ⟨some 81, .mv (.t 4), none⟩,
    ⟨some 82, .mv (.t 4), none⟩,
    ⟨some 83, .nchk (.t 80), none⟩,
    ⟨some 84, .faddr 2 (.t 83), none⟩,
    ⟨none, .store 1 (.t 84) (.k (.int .i64 (-1))), none⟩,
    ⟨some 85, .nchk (.t 81), none⟩,
    ⟨some 86, .faddr 4 (.t 85), none⟩,
    ⟨none, .store 1 (.t 86) (.k (.int .i64 (-1))), none⟩,
    ⟨some 87, .nchk (.t 82), none⟩,
    ⟨some 88, .faddr 3 (.t 87), none⟩,
    ⟨none, .store 1 (.t 88) (.k (.int .i64 (-1))), none⟩])))))
theorem b77 : Body Try.prog 77 c77 [] 89 := ⟨by kernel_rfl, _, _, Try.func77, rfl, by kernel_rfl, by kernel_rfl, rfl⟩
def c78 : ACode :=
  .seq (.reg [⟨some 6, .mv (.t 0), none⟩,
    ⟨some 7, .nchk (.t 6), none⟩,
    ⟨some 8, .faddr 0 (.t 7), none⟩,
    ⟨some 9, .load false 1 (.t 8), none⟩,
    ⟨some 10, .mv (.t 1), none⟩,
    ⟨some 11, .iaddrS 4 (.t 9) (.t 10), none⟩,
    ⟨some 4, .mv (.t 11), none⟩])
  (.seq (.regD [⟨some 12, .mv (.t 0), none⟩,
    ⟨some 13, .nchk (.t 12), none⟩,
    ⟨some 14, .faddr 1 (.t 13), none⟩,
    ⟨some 15, .load false 1 (.t 14), none⟩,
    ⟨some 16, .mv (.t 4), none⟩,
    ⟨some 17, .nchk (.t 16), none⟩,
    ⟨some 18, .faddr 1 (.t 17), none⟩,
    ⟨some 19, .load false 1 (.t 18), none⟩,
    ⟨some 20, .iaddrS 3 (.t 15) (.t 19), none⟩,
    ⟨some 5, .mv (.t 20), none⟩] [[], [0], [1], [2], [], [4], [5], [6], [3, 7], [8, 0, 1, 2, 3, 4, 5, 6, 7, 8]])
  (.seq (.seq (.reg [⟨some 21, .mv (.t 4), none⟩,
    ⟨some 22, .nchk (.t 21), none⟩,
    ⟨some 23, .faddr 3 (.t 22), none⟩,
    ⟨some 24, .load false 1 (.t 23), none⟩,
    ⟨some 25, .bin .eql (.t 24) (.k (.int .i64 (-1))), none⟩])
  (.cond (.t 25) (.reg [⟨some 26, .mv (.t 5), none⟩,
      ⟨some 27, .mv (.t 4), none⟩,
      ⟨some 28, .nchk (.t 27), none⟩,
      ⟨some 29, .faddr 2 (.t 28), none⟩,
      ⟨some 30, .load false 1 (.t 29), none⟩,
      ⟨some 31, .nchk (.t 26), none⟩,
      ⟨some 32, .faddr 0 (.t 31), none⟩,
      ⟨none, .store 1 (.t 32) (.t 30), none⟩])
    (.regD [⟨some 33, .mv (.t 0), none⟩,
      ⟨some 34, .nchk (.t 33), none⟩,
      ⟨some 35, .faddr 0 (.t 34), none⟩,
      ⟨some 36, .load false 1 (.t 35), none⟩,
      ⟨some 37, .mv (.t 4), none⟩,
      ⟨some 38, .nchk (.t 37), none⟩,
      ⟨some 39, .faddr 3 (.t 38), none⟩,
      ⟨some 40, .load false 1 (.t 39), none⟩,
      ⟨some 41, .mv (.t 4), none⟩,
      ⟨some 42, .nchk (.t 41), none⟩,
      ⟨some 43, .faddr 2 (.t 42), none⟩,
      ⟨some 44, .load false 1 (.t 43), none⟩,
      ⟨some 45, .iaddrS 4 (.t 36) (.t 40), none⟩,
      ⟨some 46, .faddr 2 (.t 45), none⟩,
      ⟨none, .store 1 (.t 46) (.t 44), none⟩] [[], [0], [1], [2], [], [4], [5], [6], [], [8], [9], [10], [3, 7, 0, 1, 2, 3, 4, 5, 6, 7, 8, 9, 10, 11], [12, 0, 1, 2, 3, 4, 5, 6, 7, 8, 9, 10, 11], [13, 11, 0, 1, 2, 3, 4, 5, 6, 7, 8, 9, 10, 11]])))
  (.seq (.seq (.reg [⟨some 47, .mv (.t 4), none⟩,
    ⟨some 48, .nchk (.t 47), none⟩,
    ⟨some 49, .faddr 2 (.t 48), none⟩,
    ⟨some 50, .load false 1 (.t 49), none⟩,
    ⟨some 51, .bin .eql (.t 50) (.k (.int .i64 (-1))), none⟩])
  (.cond (.t 51) (.reg [⟨some 52, .mv (.t 5), none⟩,
      ⟨some 53, .mv (.t 4), none⟩,
      ⟨some 54, .nchk (.t 53), none⟩,
      ⟨some 55, .faddr 3 (.t 54), none⟩,
      ⟨some 56, .load false 1 (.t 55), none⟩,
      ⟨some 57, .nchk (.t 52), none⟩,
      ⟨some 58, .faddr 1 (.t 57), none⟩,
      ⟨none, .store 1 (.t 58) (.t 56), none⟩])
    (.regD [⟨some 59, .mv (.t 0), none⟩,
      ⟨some 60, .nchk (.t 59), none⟩,
      ⟨some 61, .faddr 0 (.t 60), none⟩,
      ⟨some 62, .load false 1 (.t 61), none⟩,
      ⟨some 63, .mv (.t 4), none⟩,
      ⟨some 64, .nchk (.t 63), none⟩,
      ⟨some 65, .faddr 2 (.t 64), none⟩,
      ⟨some 66, .load false 1 (.t 65), none⟩,
      ⟨some 67, .mv (.t 4), none⟩,
      ⟨some 68, .nchk (.t 67), none⟩,
      ⟨some 69, .faddr 3 (.t 68), none⟩,
      ⟨some 70, .load false 1 (.t 69), none⟩,
      ⟨some 71, .iaddrS 4 (.t 62) (.t 66), none⟩,
      ⟨some 72, .faddr 3 (.t 71), none⟩,
      ⟨none, .store 1 (.t 72) (.t 70), none⟩] [[], [0], [1], [2], [], [4], [5], [6], [], [8], [9], [10], [3, 7, 0, 1, 2, 3, 4, 5, 6, 7, 8, 9, 10, 11], [12, 0, 1, 2, 3, 4, 5, 6, 7, 8, 9, 10, 11], [13, 11, 0, 1, 2, 3, 4, 5, 6, 7, 8, 9, 10, 11]])))
  (.seq (.reg [⟨some 73, .mv (.t 5), none⟩,
    ⟨some 74, .nchk (.t 73), none⟩,
    ⟨some 75, .faddr 2 (.t 74), none⟩,
    ⟨some 76, .load false 1 (.t 75), none⟩,
    ⟨some 77, .bin .sub (.t 76) (.k (.int .i64 1)), none⟩,
    ⟨some 78, .nchk (.t 73), none⟩,
    ⟨some 79, .faddr 2 (.t 78), none⟩,
    ⟨none, .store 1 (.t 79) (.t 77), none⟩])
  (.reg [⟨some 80, .mv (.t 4), none⟩,
    ⟨some 81, .mv (.t 4), none⟩,
    ⟨some 82, .mv (.t 4), none⟩,
    ⟨some 83, .nchk (.t 80), none⟩,
    ⟨some 84, .faddr 1 (.t 83), none⟩,
    ⟨none, .store 1 (.t 84) (.k (.int .i64 (-1))), none⟩,
    ⟨some 85, .nchk (.t 81), none⟩,
    ⟨some 86, .faddr 3 (.t 85), none⟩,
    ⟨none, .store 1 (.t 86) (.k (.int .i64 (-1))), none⟩,
    ⟨some 87, .nchk (.t 82), none⟩,
    ⟨some 88, .faddr 2 (.t 87), none⟩,
    ⟨none, .store 1 (.t 88) (.k (.int .i64 (-1))), none⟩])))))
theorem b78 : Body Try.prog 78 c78 [] 89 := ⟨by kernel_rfl, _, _, Try.func78, rfl, by kernel_rfl, by kernel_rfl, rfl⟩
def c79 : ACode :=
  .seq (.reg [⟨some 2, .mv (.k (.bool false)), none⟩])
  (.seq (.reg [⟨some 3, .mv (.t 0), none⟩,
    ⟨some 4, .eqp true false (.t 3) (.k .nilp), none⟩,
    ⟨some 5, .mv (.t 4), none⟩,
    ⟨some 6, .mv (.t 0), some (5, true)⟩,
    ⟨some 7, .nchk (.t 6), some (5, true)⟩,
    ⟨some 8, .faddr 0 (.t 7), some (5, true)⟩,
    ⟨some 9, .load false 1 (.t 8), some (5, true)⟩,
    ⟨some 10, .len (.t 9), some (5, true)⟩,
    ⟨some 11, .bin .gtr (.t 10) (.k (.int .i64 0)), some (5, true)⟩,
    ⟨some 12, .pick (.t 5) (.t 11) (.k (.bool false)), none⟩,
    ⟨some 2, .mv (.t 12), none⟩])
  (.ret))
theorem b79 : Body Try.prog 79 c79 [.tmp 2] 13 := ⟨by kernel_rfl, _, _, Try.func79, rfl, by kernel_rfl, by kernel_rfl, rfl⟩
def c80 : ACode :=
  .seq (.reg [⟨some 2, .mv (.k (.bool false)), none⟩])
  (.seq (.reg [⟨some 3, .mv (.t 0), none⟩,
    ⟨some 4, .eqp true false (.t 3) (.k .nilp), none⟩,
    ⟨some 5, .mv (.t 4), none⟩,
    ⟨some 6, .mv (.t 0), some (5, true)⟩,
    ⟨some 7, .nchk (.t 6), some (5, true)⟩,
    ⟨some 8, .faddr 0 (.t 7), some (5, true)⟩,
    ⟨some 9, .load false 1 (.t 8), some (5, true)⟩,
    ⟨some 10, .len (.t 9), some (5, true)⟩,
    ⟨some 11, .bin .gtr (.t 10) (.k (.int .i64 0)), some (5, true)⟩,
    ⟨some 12, .pick (.t 5) (.t 11) (.k (.bool false)), none⟩,
    ⟨some 2, .mv (.t 12), none⟩])
  (.ret))
theorem b80 : Body Try.prog 80 c80 [.tmp 2] 13 := ⟨by kernel_rfl, _, _, Try.func80, rfl, by kernel_rfl, by kernel_rfl, rfl⟩
def c81 : ACode :=
  .seq (.regD [⟨some 12, .mv (.t 0), none⟩,
    ⟨some 13, .nchk (.t 12), none⟩,
    ⟨some 14, .faddr 0 (.t 13), none⟩,
    ⟨some 15, .load false 1 (.t 14), none⟩,
    ⟨some 16, .mv (.t 1), none⟩,
    ⟨some 17, .iaddrS 4 (.t 15) (.t 16), none⟩,
    ⟨some 18, .mv (.t 0), none⟩,
    ⟨some 19, .nchk (.t 18), none⟩,
    ⟨some 20, .faddr 1 (.t 19), none⟩,
    ⟨some 21, .load false 1 (.t 20), none⟩,
    ⟨some 22, .mv (.t 2), none⟩,
    ⟨some 23, .iaddrS 3 (.t 21) (.t 22), none⟩,
    ⟨some 10, .mv (.t 17), none⟩,
    ⟨some 11, .mv (.t 23), none⟩] [[], [0], [1], [2], [], [3, 4], [], [6], [7], [8], [], [9, 10], [5, 0, 1, 2, 3, 4, 5], [11, 12, 0, 1, 2, 3, 4, 5, 6, 7, 8, 9, 10, 11, 12]])
  (.seq (.reg [⟨some 24, .mv (.t 10), none⟩,
    ⟨some 25, .mv (.t 10), none⟩,
    ⟨some 26, .mv (.t 10), none⟩,
    ⟨some 27, .mv (.t 2), none⟩,
    ⟨some 28, .mv (.t 3), none⟩,
    ⟨some 29, .mv (.t 4), none⟩,
    ⟨some 30, .nchk (.t 24), none⟩,
    ⟨some 31, .faddr 1 (.t 30), none⟩,
    ⟨none, .store 1 (.t 31) (.t 27), none⟩,
    ⟨some 32, .nchk (.t 25), none⟩,
    ⟨some 33, .faddr 3 (.t 32), none⟩,
    ⟨none, .store 1 (.t 33) (.t 28), none⟩,
    ⟨some 34, .nchk (.t 26), none⟩,
    ⟨some 35, .faddr 2 (.t 34), none⟩,
    ⟨none, .store 1 (.t 35) (.t 29), none⟩])
  (.seq (.seq (.reg [⟨some 36, .mv (.t 3), none⟩,
    ⟨some 37, .bin .eql (.t 36) (.k (.int .i64 (-1))), none⟩])
  (.cond (.t 37) (.reg [⟨some 38, .mv (.t 11), none⟩,
      ⟨some 39, .mv (.t 1), none⟩,
      ⟨some 40, .nchk (.t 38), none⟩,
      ⟨some 41, .faddr 0 (.t 40), none⟩,
      ⟨none, .store 1 (.t 41) (.t 39), none⟩])
    (.reg [⟨some 42, .mv (.t 0), none⟩,
      ⟨some 43, .nchk (.t 42), none⟩,
      ⟨some 44, .faddr 0 (.t 43), none⟩,
      ⟨some 45, .load false 1 (.t 44), none⟩,
      ⟨some 46, .mv (.t 3), none⟩,
      ⟨some 47, .mv (.t 1), none⟩,
      ⟨some 48, .iaddrS 4 (.t 45) (.t 46), none⟩,
      ⟨some 49, .faddr 2 (.t 48), none⟩,
      ⟨none, .store 1 (.t 49) (.t 47), none⟩])))
  (.seq (.seq (.reg [⟨some 50, .mv (.t 4), none⟩,
    ⟨some 51, .bin .eql (.t 50) (.k (.int .i64 (-1))), none⟩])
  (.cond (.t 51) (.reg [⟨some 52, .mv (.t 11), none⟩,
      ⟨some 53, .mv (.t 1), none⟩,
      ⟨some 54, .nchk (.t 52), none⟩,
      ⟨some 55, .faddr 1 (.t 54), none⟩,
      ⟨none, .store 1 (.t 55) (.t 53), none⟩])
    (.reg [⟨some 56, .mv (.t 0), none⟩,
      ⟨some 57, .nchk (.t 56), none⟩,
      ⟨some 58, .faddr 0 (.t 57), none⟩,
      ⟨some 59, .load false 1 (.t 58), none⟩,
      ⟨some 60, .mv (.t 4), none⟩,
      ⟨some 61, .mv (.t 1), none⟩,
      ⟨some 62, .iaddrS 4 (.t 59) (.t 60), none⟩,
      ⟨some 63, .faddr 3 (.t 62), none⟩,
      ⟨none, .store 1 (.t 63) (.t 61), none⟩])))
  (.reg [⟨some 64, .mv (.t 11), none⟩,
    ⟨some 65, .nchk (.t 64), none⟩,
    ⟨some 66, .faddr 2 (.t 65), none⟩,
    ⟨some 67, .load false 1 (.t 66), none⟩,
    ⟨some 68, .bin .add (.t 67) (.k (.int .i64 1)), none⟩,
    ⟨some 69, .nchk (.t 64), none⟩,
    ⟨some 70, .faddr 2 (.t 69), none⟩,
    ⟨none, .store 1 (.t 70) (.t 68), none⟩]))))
theorem b81 : Body Try.prog 81 c81 [] 71 := ⟨by kernel_rfl, _, _, Try.func81, rfl, by kernel_rfl, by kernel_rfl, rfl⟩
def c82 : ACode :=
  .seq (.reg [⟨some 6, .mv (.k (.int .i64 0)), none⟩,
    ⟨some 7, .mv (.k (.int .i64 0)), none⟩])
  (.seq (.reg [⟨some 12, .mv (.t 0), none⟩,
    ⟨some 13, .mv (.t 1), none⟩,
    ⟨some 14, .call (.k (.fn 91 [] [])) [(.t 12), (.t 13)], none⟩,
    ⟨some 11, .mv (.t 14), none⟩,
    ⟨some 15, .ext (.t 11) 0, none⟩,
    ⟨some 16, .ext (.t 11) 1, none⟩,
    ⟨some 8, .mv (.t 15), none⟩,
    ⟨some 9, .mv (.t 16), none⟩])
  (.seq (.seq (.reg [⟨some 17, .mv (.t 8), none⟩,
    ⟨some 18, .bin .lss (.t 17) (.k (.int .i64 0)), none⟩])
  (.cond (.t 18) (.seq (.reg [⟨some 6, .mv (.k (.int .i64 0)), none⟩,
      ⟨some 7, .mv (.k (.int .i64 4)), none⟩])
    (.ret))
    (.skip)))
  (.seq (.reg [⟨some 19, .mv (.t 0), none⟩,
    ⟨some 20, .call (.k (.fn 95 [] [])) [(.t 19)], none⟩,
    ⟨some 10, .mv (.t 20), none⟩])
  (.seq (.seq (.reg [⟨some 21, .mv (.t 10), none⟩,
    ⟨some 22, .bin .lss (.t 21) (.k (.int .i64 0)), none⟩])
  (.cond (.t 22) (.seq (.reg [⟨some 6, .mv (.k (.int .i64 0)), none⟩,
      ⟨some 7, .mv (.k (.int .i64 5)), none⟩])
    (.ret))
    (.skip)))
  (.seq (.reg [⟨some 23, .mv (.t 0), none⟩,
    ⟨some 24, .mv (.t 8), none⟩,
    ⟨some 25, .mv (.t 9), none⟩,
    ⟨some 26, .bin .add (.t 25) (.k (.int .i64 1)), none⟩,
    ⟨some 27, .mv (.t 10), none⟩,
    ⟨some 28, .call (.k (.fn 93 [] [])) [(.t 23), (.t 24), (.t 26), (.t 27)], none⟩])
  (.seq (.reg [⟨some 29, .mv (.t 0), none⟩,
    ⟨some 30, .nchk (.t 29), none⟩,
    ⟨some 31, .faddr 2 (.t 30), none⟩,
    ⟨some 32, .load false 1 (.t 31), none⟩,
    ⟨some 33, .mv (.t 10), none⟩,
    ⟨some 34, .mv (.t 2), none⟩,
    ⟨some 35, .iaddrS 1 (.t 32) (.t 33), none⟩,
    ⟨none, .store 1 (.t 35) (.t 34), none⟩])
  (.seq (.reg [⟨some 36, .mv (.t 10), none⟩,
    ⟨some 6, .mv (.t 36), none⟩,
    ⟨some 7, .mv (.k (.int .i64 0)), none⟩])
  (.ret))))))))
theorem b82 : Body Try.prog 82 c82 [.tmp 6, .tmp 7] 37 := ⟨by kernel_rfl, _, _, Try.func82, rfl, by kernel_rfl, by kernel_rfl, rfl⟩
def c83 : ACode :=
  .seq (.reg [⟨some 6, .mv (.k (.int .i64 0)), none⟩])
  (.seq (.reg [⟨some 10, .mv (.t 0), none⟩,
    ⟨some 11, .mv (.t 1), none⟩,
    ⟨some 12, .call (.k (.fn 91 [] [])) [(.t 10), (.t 11)], none⟩,
    ⟨some 9, .mv (.t 12), none⟩,
    ⟨some 13, .ext (.t 9) 0, none⟩,
    ⟨some 14, .ext (.t 9) 1, none⟩,
    ⟨some 7, .mv (.t 13), none⟩,
    ⟨some 8, .mv (.t 14), none⟩])
  (.seq (.seq (.reg [⟨some 15, .mv (.t 7), none⟩,
    ⟨some 16, .bin .lss (.t 15) (.k (.int .i64 0)), none⟩])
  (.cond (.t 16) (.seq (.reg [⟨some 6, .mv (.k (.int .i64 4)), none⟩])
    (.ret))
    (.skip)))
  (.seq (.reg [⟨some 17, .mv (.t 0), none⟩,
    ⟨some 18, .nchk (.t 17), none⟩,
    ⟨some 19, .faddr 2 (.t 18), none⟩,
    ⟨some 20, .load false 1 (.t 19), none⟩,
    ⟨some 21, .mv (.t 1), none⟩,
    ⟨some 22, .mv (.t 2), none⟩,
    ⟨some 23, .iaddrS 1 (.t 20) (.t 21), none⟩,
    ⟨none, .store 1 (.t 23) (.t 22), none⟩])
  (.seq (.reg [⟨some 6, .mv (.k (.int .i64 0)), none⟩])
  (.ret)))))
theorem b83 : Body Try.prog 83 c83 [.tmp 6] 24 := ⟨by kernel_rfl, _, _, Try.func83, rfl, by kernel_rfl, by kernel_rfl, rfl⟩
def c84 : ACode :=
  .seq (.reg [⟨some 4, .mv (.k (.int .i64 0)), none⟩,
    ⟨some 5, .mv (.k (.int .i64 0)), none⟩])
  (.seq (.reg [⟨some 9, .mv (.t 0), none⟩,
    ⟨some 10, .mv (.t 1), none⟩,
    ⟨some 11, .call (.k (.fn 91 [] [])) [(.t 9), (.t 10)], none⟩,
    ⟨some 8, .mv (.t 11), none⟩,
    ⟨some 12, .ext (.t 8) 0, none⟩,
    ⟨some 13, .ext (.t 8) 1, none⟩,
    ⟨some 6, .mv (.t 12), none⟩,
    ⟨some 7, .mv (.t 13), none⟩])
  (.seq (.seq (.reg [⟨some 14, .mv (.t 6), none⟩,
    ⟨some 15, .bin .lss (.t 14) (.k (.int .i64 0)), none⟩])
  (.cond (.t 15) (.seq (.reg [⟨some 4, .mv (.k (.int .i64 0)), none⟩,
      ⟨some 5, .mv (.k (.int .i64 4)), none⟩])
    (.ret))
    (.skip)))
  (.seq (.reg [⟨some 16, .mv (.t 6), none⟩,
    ⟨some 4, .mv (.t 16), none⟩,
    ⟨some 5, .mv (.k (.int .i64 0)), none⟩])
  (.ret))))
theorem b84 : Body Try.prog 84 c84 [.tmp 4, .tmp 5] 17 := ⟨by kernel_rfl, _, _, Try.func84, rfl, by kernel_rfl, by kernel_rfl, rfl⟩
def c85 : ACode :=
  .seq (.reg [⟨some 6, .mv (.k (.int .i64 0)), none⟩,
    ⟨some 7, .mv (.k (.int .i64 0)), none⟩])
  (.seq (.reg [⟨some 11, .mv (.t 0), none⟩,
    ⟨some 12, .mv (.t 1), none⟩,
    ⟨some 13, .call (.k (.fn 91 [] [])) [(.t 11), (.t 12)], none⟩,
    ⟨some 10, .mv (.t 13), none⟩,
    ⟨some 14, .ext (.t 10) 0, none⟩,
    ⟨some 15, .ext (.t 10) 1, none⟩,
    ⟨some 8, .mv (.t 14), none⟩,
    ⟨some 9, .mv (.t 15), none⟩])
  (.seq (.seq (.reg [⟨some 16, .mv (.t 8), none⟩,
    ⟨some 17, .bin .lss (.t 16) (.k (.int .i64 0)), none⟩])
  (.cond (.t 17) (.seq (.reg [⟨some 6, .mv (.k (.int .i64 0)), none⟩,
      ⟨some 7, .mv (.k (.int .i64 4)), none⟩])
    (.ret))
    (.skip)))
  (.seq (.reg [⟨some 18, .mv (.t 9), none⟩,
    ⟨some 19, .bin .add (.t 18) (.k (.int .i64 1)), none⟩,
    ⟨some 9, .mv (.t 19), none⟩])
  (.seq (.seq (.reg [⟨some 20, .mv (.t 2), none⟩])
  (.cond (.t 20) (.reg [⟨some 21, .mv (.t 9), none⟩,
      ⟨some 22, .bin .sub (.t 21) (.k (.int .i64 2)), none⟩,
      ⟨some 9, .mv (.t 22), none⟩])
    (.skip)))
  (.seq (.seq (.reg [⟨some 23, .mv (.t 9), none⟩,
    ⟨some 24, .bin .lss (.t 23) (.k (.int .i64 0)), none⟩,
    ⟨some 25, .mv (.t 24), none⟩,
    ⟨some 26, .mv (.t 9), some (25, false)⟩,
    ⟨some 27, .mv (.t 0), some (25, false)⟩,
    ⟨some 28, .nchk (.t 27), some (25, false)⟩,
    ⟨some 29, .faddr 1 (.t 28), some (25, false)⟩,
    ⟨some 30, .load false 1 (.t 29), some (25, false)⟩,
    ⟨some 31, .mv (.t 8), some (25, false)⟩,
    ⟨some 32, .iaddrS 1 (.t 30) (.t 31), some (25, false)⟩,
    ⟨some 33, .load false 1 (.t 32), some (25, false)⟩,
    ⟨some 34, .len (.t 33), some (25, false)⟩,
    ⟨some 35, .bin .geq (.t 26) (.t 34), some (25, false)⟩,
    ⟨some 36, .pick (.t 25) (.k (.bool true)) (.t 35), none⟩])
  (.cond (.t 36) (.seq (.reg [⟨some 6, .mv (.k (.int .i64 0)), none⟩,
      ⟨some 7, .mv (.k (.int .i64 9)), none⟩])
    (.ret))
    (.skip)))
  (.seq (.reg [⟨some 37, .mv (.t 0), none⟩,
    ⟨some 38, .nchk (.t 37), none⟩,
    ⟨some 39, .faddr 1 (.t 38), none⟩,
    ⟨some 40, .load false 1 (.t 39), none⟩,
    ⟨some 41, .mv (.t 8), none⟩,
    ⟨some 42, .iaddrS 1 (.t 40) (.t 41), none⟩,
    ⟨some 43, .load false 1 (.t 42), none⟩,
    ⟨some 44, .mv (.t 9), none⟩,
    ⟨some 45, .iaddrS 1 (.t 43) (.t 44), none⟩,
    ⟨some 46, .load false 1 (.t 45), none⟩,
    ⟨some 6, .mv (.t 46), none⟩,
    ⟨some 7, .mv (.k (.int .i64 0)), none⟩])
  (.ret)))))))
theorem b85 : Body Try.prog 85 c85 [.tmp 6, .tmp 7] 47 := ⟨by kernel_rfl, _, _, Try.func85, rfl, by kernel_rfl, by kernel_rfl, rfl⟩
def c86 : ACode :=
  .seq (.reg [⟨some 6, .mv (.k (.int .i64 0)), none⟩,
    ⟨some 7, .mv (.k (.int .i64 0)), none⟩])
  (.seq (.seq (.reg [⟨some 9, .mv (.t 0), none⟩,
    ⟨some 10, .mv (.t 1), none⟩,
    ⟨some 11, .call (.k (.fn 55 [] [])) [(.t 9), (.t 10)], none⟩,
    ⟨some 8, .mv (.t 11), none⟩])
  (.seq (.reg [⟨some 12, .mv (.t 8), none⟩,
    ⟨some 13, .bin .neq (.t 12) (.k (.int .i64 0)), none⟩])
  (.cond (.t 13) (.seq (.reg [⟨some 14, .mv (.t 8), none⟩,
      ⟨some 6, .mv (.k (.int .i64 0)), none⟩,
      ⟨some 7, .mv (.t 14), none⟩])
    (.ret))
    (.skip))))
  (.seq (.reg [⟨some 15, .mv (.t 0), none⟩,
    ⟨some 16, .nchk (.t 15), none⟩,
    ⟨some 17, .faddr 1 (.t 16), none⟩,
    ⟨some 18, .load false 1 (.t 17), none⟩,
    ⟨some 19, .mv (.t 1), none⟩,
    ⟨some 20, .iaddrS 3 (.t 18) (.t 19), none⟩,
    ⟨some 21, .faddr 1 (.t 20), none⟩,
    ⟨some 22, .load false 1 (.t 21), none⟩,
    ⟨some 6, .mv (.t 22), none⟩])
  (.seq (.seq (.reg [⟨some 23, .mv (.t 2), none⟩])
  (.cond (.t 23) (.reg [⟨some 24, .mv (.t 0), none⟩,
      ⟨some 25, .nchk (.t 24), none⟩,
      ⟨some 26, .faddr 1 (.t 25), none⟩,
      ⟨some 27, .load false 1 (.t 26), none⟩,
      ⟨some 28, .mv (.t 1), none⟩,
      ⟨some 29, .iaddrS 3 (.t 27) (.t 28), none⟩,
      ⟨some 30, .faddr 0 (.t 29), none⟩,
      ⟨some 31, .load false 1 (.t 30), none⟩,
      ⟨some 6, .mv (.t 31), none⟩])
    (.skip)))
  (.seq (.seq (.reg [⟨some 32, .mv (.t 6), none⟩,
    ⟨some 33, .bin .eql (.t 32) (.k (.int .i64 (-1))), none⟩])
  (.cond (.t 33) (.seq (.reg [⟨some 6, .mv (.k (.int .i64 0)), none⟩,
      ⟨some 7, .mv (.k (.int .i64 4)), none⟩])
    (.ret))
    (.skip)))
  (.seq (.reg [⟨some 34, .mv (.t 6), none⟩,
    ⟨some 6, .mv (.t 34), none⟩,
    ⟨some 7, .mv (.k (.int .i64 0)), none⟩])
  (.ret))))))
theorem b86 : Body Try.prog 86 c86 [.tmp 6, .tmp 7] 35 := ⟨by kernel_rfl, _, _, Try.func86, rfl, by kernel_rfl, by kernel_rfl, rfl⟩
def c87 : ACode :=
  .seq (.reg [⟨some 6, .mv (.k (.int .i64 0)), none⟩,
    ⟨some 7, .mv (.k (.int .i64 0)), none⟩])
  (.seq (.seq (.reg [⟨some 9, .mv (.t 1), none⟩,
    ⟨some 10, .bin .lss (.t 9) (.k (.int .i64 0)), none⟩,
    ⟨some 11, .mv (.t 10), none⟩,
    ⟨some 12, .mv (.t 1), some (11, false)⟩,
    ⟨some 13, .mv (.t 0), some (11, false)⟩,
    ⟨some 14, .nchk (.t 13), some (11, false)⟩,
    ⟨some 15, .faddr 1 (.t 14), some (11, false)⟩,
    ⟨some 16, .load false 1 (.t 15), some (11, false)⟩,
    ⟨some 17, .len (.t 16), some (11, false)⟩,
    ⟨some 18, .bin .geq (.t 12) (.t 17), some (11, false)⟩,
    ⟨some 19, .pick (.t 11) (.k (.bool true)) (.t 18), none⟩])
  (.cond (.t 19) (.seq (.reg [⟨some 6, .mv (.k (.int .i64 0)), none⟩,
      ⟨some 7, .mv (.k (.int .i64 7)), none⟩])
    (.ret))
    (.skip)))
  (.seq (.reg [⟨some 20, .mv (.t 0), none⟩,
    ⟨some 21, .nchk (.t 20), none⟩,
    ⟨some 22, .faddr 1 (.t 21), none⟩,
    ⟨some 23, .load false 1 (.t 22), none⟩,
    ⟨some 24, .mv (.t 1), none⟩,
    ⟨some 25, .iaddrS 1 (.t 23) (.t 24), none⟩,
    ⟨some 26, .load false 1 (.t 25), none⟩,
    ⟨some 27, .len (.t 26), none⟩,
    ⟨some 8, .mv (.t 27), none⟩])
  (.seq (.seq (.reg [⟨some 28, .mv (.t 8), none⟩,
    ⟨some 29, .bin .eql (.t 28) (.k (.int .i64 0)), none⟩])
  (.cond (.t 29) (.seq (.reg [⟨some 6, .mv (.k (.int .i64 0)), none⟩,
      ⟨some 7, .mv (.k (.int .i64 4)), none⟩])
    (.ret))
    (.skip)))
  (.seq (.seq (.reg [⟨some 30, .mv (.t 2), none⟩])
  (.cond (.t 30) (.seq (.reg [⟨some 31, .mv (.t 0), none⟩,
      ⟨some 32, .nchk (.t 31), none⟩,
      ⟨some 33, .faddr 1 (.t 32), none⟩,
      ⟨some 34, .load false 1 (.t 33), none⟩,
      ⟨some 35, .mv (.t 1), none⟩,
      ⟨some 36, .iaddrS 1 (.t 34) (.t 35), none⟩,
      ⟨some 37, .load false 1 (.t 36), none⟩,
      ⟨some 38, .iaddrS 1 (.t 37) (.k (.int .i64 0)), none⟩,
      ⟨some 39, .load false 1 (.t 38), none⟩,
      ⟨some 6, .mv (.t 39), none⟩,
      ⟨some 7, .mv (.k (.int .i64 0)), none⟩])
    (.ret))
    (.skip)))
  (.seq (.reg [⟨some 40, .mv (.t 0), none⟩,
    ⟨some 41, .nchk (.t 40), none⟩,
    ⟨some 42, .faddr 1 (.t 41), none⟩,
    ⟨some 43, .load false 1 (.t 42), none⟩,
    ⟨some 44, .mv (.t 1), none⟩,
    ⟨some 45, .iaddrS 1 (.t 43) (.t 44), none⟩,
    ⟨some 46, .load false 1 (.t 45), none⟩,
    ⟨some 47, .mv (.t 8), none⟩,
    ⟨some 48, .bin .sub (.t 47) (.k (.int .i64 1)), none⟩,
    ⟨some 49, .iaddrS 1 (.t 46) (.t 48), none⟩,
    ⟨some 50, .load false 1 (.t 49), none⟩,
    ⟨some 6, .mv (.t 50), none⟩,
    ⟨some 7, .mv (.k (.int .i64 0)), none⟩])
  (.ret))))))
theorem b87 : Body Try.prog 87 c87 [.tmp 6, .tmp 7] 51 := ⟨by kernel_rfl, _, _, Try.func87, rfl, by kernel_rfl, by kernel_rfl, rfl⟩
def c88 : ACode :=
  .seq (.reg [⟨some 4, .mv (.k (.int .i64 0)), none⟩,
    ⟨some 5, .mv (.k (.int .i64 0)), none⟩])
  (.seq (.seq (.reg [⟨some 6, .mv (.t 1), none⟩,
    ⟨some 7, .bin .lss (.t 6) (.k (.int .i64 0)), none⟩,
    ⟨some 8, .mv (.t 7), none⟩,
    ⟨some 9, .mv (.t 1), some (8, false)⟩,
    ⟨some 10, .mv (.t 0), some (8, false)⟩,
    ⟨some 11, .nchk (.t 10), some (8, false)⟩,
    ⟨some 12, .faddr 1 (.t 11), some (8, false)⟩,
    ⟨some 13, .load false 1 (.t 12), some (8, false)⟩,
    ⟨some 14, .len (.t 13), some (8, false)⟩,
    ⟨some 15, .bin .geq (.t 9) (.t 14), some (8, false)⟩,
    ⟨some 16, .pick (.t 8) (.k (.bool true)) (.t 15), none⟩])
  (.cond (.t 16) (.seq (.reg [⟨some 4, .mv (.k (.int .i64 0)), none⟩,
      ⟨some 5, .mv (.k (.int .i64 7)), none⟩])
    (.ret))
    (.skip)))
  (.seq (.reg [⟨some 17, .mv (.t 0), none⟩,
    ⟨some 18, .nchk (.t 17), none⟩,
    ⟨some 19, .faddr 1 (.t 18), none⟩,
    ⟨some 20, .load false 1 (.t 19), none⟩,
    ⟨some 21, .mv (.t 1), none⟩,
    ⟨some 22, .iaddrS 1 (.t 20) (.t 21), none⟩,
    ⟨some 23, .load false 1 (.t 22), none⟩,
    ⟨some 24, .len (.t 23), none⟩,
    ⟨some 4, .mv (.t 24), none⟩,
    ⟨some 5, .mv (.k (.int .i64 0)), none⟩])
  (.ret)))
theorem b88 : Body Try.prog 88 c88 [.tmp 4, .tmp 5] 25 := ⟨by kernel_rfl, _, _, Try.func88, rfl, by kernel_rfl, by kernel_rfl, rfl⟩
def c89 : ACode :=
  .seq (.reg [⟨some 8, .mv (.k (.int .i64 0)), none⟩,
    ⟨some 9, .mv (.k (.int .i64 0)), none⟩])
  (.seq (.seq (.reg [⟨some 11, .mv (.t 1), none⟩,
    ⟨some 12, .bin .lss (.t 11) (.k (.int .i64 0)), none⟩,
    ⟨some 13, .mv (.t 12), none⟩,
    ⟨some 14, .mv (.t 1), some (13, false)⟩,
    ⟨some 15, .mv (.t 0), some (13, false)⟩,
    ⟨some 16, .nchk (.t 15), some (13, false)⟩,
    ⟨some 17, .faddr 1 (.t 16), some (13, false)⟩,
    ⟨some 18, .load false 1 (.t 17), some (13, false)⟩,
    ⟨some 19, .len (.t 18), some (13, false)⟩,
    ⟨some 20, .bin .geq (.t 14) (.t 19), some (13, false)⟩,
    ⟨some 21, .pick (.t 13) (.k (.bool true)) (.t 20), none⟩])
  (.cond (.t 21) (.seq (.reg [⟨some 8, .mv (.k (.int .i64 0)), none⟩,
      ⟨some 9, .mv (.k (.int .i64 7)), none⟩])
    (.ret))
    (.skip)))
  (.seq (.reg [⟨some 22, .mv (.t 0), none⟩,
    ⟨some 23, .call (.k (.fn 95 [] [])) [(.t 22)], none⟩,
    ⟨some 10, .mv (.t 23), none⟩])
  (.seq (.seq (.reg [⟨some 24, .mv (.t 10), none⟩,
    ⟨some 25, .bin .lss (.t 24) (.k (.int .i64 0)), none⟩])
  (.cond (.t 25) (.seq (.reg [⟨some 8, .mv (.k (.int .i64 0)), none⟩,
      ⟨some 9, .mv (.k (.int .i64 5)), none⟩])
    (.ret))
    (.skip)))
  (.seq (.reg [⟨some 26, .mv (.t 0), none⟩,
    ⟨some 27, .mv (.t 1), none⟩,
    ⟨some 28, .mv (.t 0), none⟩,
    ⟨some 29, .mv (.t 1), none⟩,
    ⟨some 30, .mv (.t 3), none⟩,
    ⟨some 31, .call (.k (.fn 94 [] [])) [(.t 28), (.t 29), (.t 30)], none⟩,
    ⟨some 32, .mv (.t 10), none⟩,
    ⟨some 33, .call (.k (.fn 93 [] [])) [(.t 26), (.t 27), (.t 31), (.t 32)], none⟩])
  (.seq (.reg [⟨some 34, .mv (.t 0), none⟩,
    ⟨some 35, .nchk (.t 34), none⟩,
    ⟨some 36, .faddr 2 (.t 35), none⟩,
    ⟨some 37, .load false 1 (.t 36), none⟩,
    ⟨some 38, .mv (.t 10), none⟩,
    ⟨some 39, .mv (.t 2), none⟩,
    ⟨some 40, .iaddrS 1 (.t 37) (.t 38), none⟩,
    ⟨none, .store 1 (.t 40) (.t 39), none⟩])
  (.seq (.reg [⟨some 41, .mv (.t 10), none⟩,
    ⟨some 8, .mv (.t 41), none⟩,
    ⟨some 9, .mv (.k (.int .i64 0)), none⟩])
  (.ret)))))))
theorem b89 : Body Try.prog 89 c89 [.tmp 8, .tmp 9] 42 := ⟨by kernel_rfl, _, _, Try.func89, rfl, by kernel_rfl, by kernel_rfl, rfl⟩
def c90 : ACode :=
  .seq (.reg [⟨some 9, .load false 1 (.t 1), none⟩,
    ⟨some 10, .load false 1 (.t 2), none⟩,
    ⟨some 11, .load false 1 (.t 3), none⟩,
    ⟨some 12, .un .not (.t 11), none⟩,
    ⟨some 13, .call (.k (.fn 86 [] [])) [(.t 9), (.t 10), (.t 12)], none⟩,
    ⟨some 8, .mv (.t 13), none⟩,
    ⟨some 14, .ext (.t 8) 0, none⟩,
    ⟨some 15, .ext (.t 8) 1, none⟩,
    ⟨some 5, .mv (.t 14), none⟩,
    ⟨some 6, .mv (.t 15), none⟩])
  (.block 0 (.loop (.seq (.seq (.reg [⟨some 16, .mv (.t 6), none⟩,
      ⟨some 17, .bin .eql (.t 16) (.k (.int .i64 0)), none⟩,
      ⟨some 18, .mv (.t 17), none⟩,
      ⟨some 19, .mv (.t 5), some (18, true)⟩,
      ⟨some 20, .bin .neq (.t 19) (.k (.int .i64 (-1))), some (18, true)⟩,
      ⟨some 21, .pick (.t 18) (.t 20) (.k (.bool false)), none⟩])
    (.cond (.t 21) (.skip)
      (.exit 0)))
    (.block 1 (.seq (.reg [⟨some 22, .load false 1 (.t 1), none⟩,
       ⟨some 23, .mv (.t 5), none⟩,
       ⟨some 24, .load false 1 (.t 3), none⟩,
       ⟨some 25, .call (.k (.fn 58 [] [])) [(.t 22), (.t 23), (.t 24)], none⟩,
       ⟨some 7, .mv (.t 25), none⟩])
     (.seq (.seq (.reg [⟨some 26, .mv (.t 0), none⟩,
       ⟨some 27, .mv (.t 5), none⟩,
       ⟨some 28, .load false 1 (.t 1), none⟩,
       ⟨some 29, .nchk (.t 28), none⟩,
       ⟨some 30, .faddr 0 (.t 29), none⟩,
       ⟨some 31, .load false 1 (.t 30), none⟩,
       ⟨some 32, .mv (.t 5), none⟩,
       ⟨some 33, .iaddrS 4 (.t 31) (.t 32), none⟩,
       ⟨some 34, .faddr 0 (.t 33), none⟩,
       ⟨some 35, .load false 1 (.t 34), none⟩,
       ⟨some 36, .call (.t 26) [(.t 27), (.t 35)], none⟩,
       ⟨some 37, .un .not (.t 36), none⟩])
     (.cond (.t 37) (.ret)
       (.skip)))
     (.reg [⟨some 38, .mv (.t 7), none⟩,
       ⟨some 5, .mv (.t 38), none⟩])))))))
theorem b90 : Body Try.prog 90 c90 [] 39 := ⟨by kernel_rfl, _, _, Try.func90, rfl, by kernel_rfl, by kernel_rfl, rfl⟩
def c91 : ACode :=
  .seq (.reg [⟨some 4, .mv (.k (.int .i64 0)), none⟩,
    ⟨some 5, .mv (.k (.int .i64 0)), none⟩])
  (.seq (.seq (.reg [⟨some 6, .mv (.k (.int .i64 0)), none⟩])
  (.block 0 (.loop (.seq (.seq (.reg [⟨some 8, .mv (.t 6), none⟩,
      ⟨some 9, .mv (.t 0), none⟩,
      ⟨some 10, .nchk (.t 9), none⟩,
      ⟨some 11, .faddr 1 (.t 10), none⟩,
      ⟨some 12, .load false 1 (.t 11), none⟩,
      ⟨some 13, .len (.t 12), none⟩,
      ⟨some 14, .bin .lss (.t 8) (.t 13), none⟩])
    (.cond (.t 14) (.skip)
      (.exit 0)))
    (.seq (.block 1 (.seq (.reg [⟨some 7, .mv (.k (.int .i64 0)), none⟩])
     (.block 2 (.loop (.seq (.seq (.reg [⟨some 17, .mv (.t 7), none⟩,
         ⟨some 18, .mv (.t 0), none⟩,
         ⟨some 19, .nchk (.t 18), none⟩,
         ⟨some 20, .faddr 1 (.t 19), none⟩,
         ⟨some 21, .load false 1 (.t 20), none⟩,
         ⟨some 22, .mv (.t 6), none⟩,
         ⟨some 23, .iaddrS 1 (.t 21) (.t 22), none⟩,
         ⟨some 24, .load false 1 (.t 23), none⟩,
         ⟨some 25, .len (.t 24), none⟩,
         ⟨some 26, .bin .lss (.t 17) (.t 25), none⟩])
       (.cond (.t 26) (.skip)
         (.exit 2)))
       (.seq (.block 3 (.seq (.reg [⟨some 29, .mv (.t 0), none⟩,
          ⟨some 30, .nchk (.t 29), none⟩,
          ⟨some 31, .faddr 1 (.t 30), none⟩,
          ⟨some 32, .load false 1 (.t 31), none⟩,
          ⟨some 33, .mv (.t 6), none⟩,
          ⟨some 34, .iaddrS 1 (.t 32) (.t 33), none⟩,
          ⟨some 35, .load false 1 (.t 34), none⟩,
          ⟨some 36, .mv (.t 7), none⟩,
          ⟨some 37, .iaddrS 1 (.t 35) (.t 36), none⟩,
          ⟨some 38, .load false 1 (.t 37), none⟩,
          ⟨some 39, .mv (.t 1), none⟩,
          ⟨some 40, .bin .eql (.t 38) (.t 39), none⟩])
        (.cond (.t 40) (.seq (.reg [⟨some 41, .mv (.t 6), none⟩,
            ⟨some 42, .mv (.t 7), none⟩,
            ⟨some 4, .mv (.t 41), none⟩,
            ⟨some 5, .mv (.t 42), none⟩])
          (.ret))
          (.skip))))
       (.reg [⟨some 27, .mv (.t 7), none⟩,
         ⟨some 28, .bin .add (.t 27) (.k (.int .i64 1)), none⟩,
         ⟨some 7, .mv (.t 28), none⟩])))))))
    (.reg [⟨some 15, .mv (.t 6), none⟩,
      ⟨some 16, .bin .add (.t 15) (.k (.int .i64 1)), none⟩,
      ⟨some 6, .mv (.t 16), none⟩]))))))
  (.seq (.reg [⟨some 4, .mv (.k (.int .i64 (-1))), none⟩,
    ⟨some 5, .mv (.k (.int .i64 (-1))), none⟩])
  (.ret)))
theorem b91 : Body Try.prog 91 c91 [.tmp 4, .tmp 5] 43 := ⟨by kernel_rfl, _, _, Try.func91, rfl, by kernel_rfl, by kernel_rfl, rfl⟩
def c92 : ACode :=
  .seq (.reg [⟨some 7, .mv (.t 0), none⟩,
    ⟨some 8, .nchk (.t 7), none⟩,
    ⟨some 9, .faddr 1 (.t 8), none⟩,
    ⟨some 10, .load false 1 (.t 9), none⟩,
    ⟨some 11, .mv (.t 1), none⟩,
    ⟨some 12, .iaddrS 1 (.t 10) (.t 11), none⟩,
    ⟨some 13, .load false 1 (.t 12), none⟩,
    ⟨some 6, .mv (.t 13), none⟩])
  (.regD [⟨some 14, .mv (.t 0), none⟩,
    ⟨some 15, .nchk (.t 14), none⟩,
    ⟨some 16, .faddr 1 (.t 15), none⟩,
    ⟨some 17, .load false 1 (.t 16), none⟩,
    ⟨some 18, .mv (.t 1), none⟩,
    ⟨some 19, .bslice 1 0 [] [], none⟩,
    ⟨some 20, .mv (.t 6), none⟩,
    ⟨some 21, .mv (.t 2), none⟩,
    ⟨some 22, .slS 1 (.t 20) none (some (.t 21)) none, none⟩,
    ⟨some 23, .append 1 8 (.t 19) (.t 22), none⟩,
    ⟨some 24, .mv (.t 6), none⟩,
    ⟨some 25, .mv (.t 2), none⟩,
    ⟨some 26, .bin .add (.t 25) (.k (.int .i64 1)), none⟩,
    ⟨some 27, .slS 1 (.t 24) (some (.t 26)) none none, none⟩,
    ⟨some 28, .append 1 8 (.t 23) (.t 27), none⟩,
    ⟨some 29, .iaddrS 1 (.t 17) (.t 18), none⟩,
    ⟨none, .store 1 (.t 29) (.t 28), none⟩] [[], [0], [1], [2], [], [], [], [], [6, 7], [5, 8], [], [], [11], [10, 12], [9, 13, 9], [3, 4, 0, 1, 2, 3, 4, 5, 6, 7, 8, 9, 10, 11, 12, 13, 14], [15, 14, 14, 0, 1, 2, 3, 4, 5, 6, 7, 8, 9, 10, 11, 12, 13, 14]])
theorem b92 : Body Try.prog 92 c92 [] 30 := ⟨by kernel_rfl, _, _, Try.func92, rfl, by kernel_rfl, by kernel_rfl, rfl⟩
def c93 : ACode :=
  .seq (.reg [⟨some 9, .mv (.t 0), none⟩,
    ⟨some 10, .nchk (.t 9), none⟩,
    ⟨some 11, .faddr 1 (.t 10), none⟩,
    ⟨some 12, .load false 1 (.t 11), none⟩,
    ⟨some 13, .mv (.t 1), none⟩,
    ⟨some 14, .iaddrS 1 (.t 12) (.t 13), none⟩,
    ⟨some 15, .load false 1 (.t 14), none⟩,
    ⟨some 8, .mv (.t 15), none⟩])
  (.regD [⟨some 16, .mv (.t 0), none⟩,
    ⟨some 17, .nchk (.t 16), none⟩,
    ⟨some 18, .faddr 1 (.t 17), none⟩,
    ⟨some 19, .load false 1 (.t 18), none⟩,
    ⟨some 20, .mv (.t 1), none⟩,
    ⟨some 21, .bslice 1 0 [] [], none⟩,
    ⟨some 22, .mv (.t 8), none⟩,
    ⟨some 23, .mv (.t 2), none⟩,
    ⟨some 24, .slS 1 (.t 22) none (some (.t 23)) none, none⟩,
    ⟨some 25, .append 1 8 (.t 21) (.t 24), none⟩,
    ⟨some 26, .mv (.t 3), none⟩,
    ⟨some 27, .bslice 1 1 [(.int .i64 0)] [(0, 1, (.t 26))], none⟩,
    ⟨some 28, .append 1 8 (.t 25) (.t 27), none⟩,
    ⟨some 29, .mv (.t 8), none⟩,
    ⟨some 30, .mv (.t 2), none⟩,
    ⟨some 31, .slS 1 (.t 29) (some (.t 30)) none none, none⟩,
    ⟨some 32, .append 1 8 (.t 28) (.t 31), none⟩,
    ⟨some 33, .iaddrS 1 (.t 19) (.t 20), none⟩,
    ⟨none, .store 1 (.t 33) (.t 32), none⟩] [[], [0], [1], [2], [], [], [], [], [6, 7], [5, 8], [], [10], [9, 11, 9], [], [], [13, 14], [12, 15, 12], [3, 4, 0, 1, 2, 3, 4, 5, 6, 7, 8, 9, 10, 11, 12, 13, 14, 15, 16], [17, 16, 16, 0, 1, 2, 3, 4, 5, 6, 7, 8, 9, 10, 11, 12, 13, 14, 15, 16]])
theorem b93 : Body Try.prog 93 c93 [] 34 := ⟨by kernel_rfl, _, _, Try.func93, rfl, by kernel_rfl, by kernel_rfl, rfl⟩
def c94 : ACode :=
  .seq (.reg [⟨some 6, .mv (.k (.int .i64 0)), none⟩])
  (.seq (.seq (.reg [⟨some 7, .mv (.t 2), none⟩])
  (.cond (.t 7) (.seq (.reg [⟨some 6, .mv (.k (.int .i64 0)), none⟩])
    (.ret))
    (.skip)))
  (.seq (.reg [⟨some 8, .mv (.t 0), none⟩,
    ⟨some 9, .nchk (.t 8), none⟩,
    ⟨some 10, .faddr 1 (.t 9), none⟩,
    ⟨some 11, .load false 1 (.t 10), none⟩,
    ⟨some 12, .mv (.t 1), none⟩,
    ⟨some 13, .iaddrS 1 (.t 11) (.t 12), none⟩,
    ⟨some 14, .load false 1 (.t 13), none⟩,
    ⟨some 15, .len (.t 14), none⟩,
    ⟨some 6, .mv (.t 15), none⟩])
  (.ret)))
theorem b94 : Body Try.prog 94 c94 [.tmp 6] 16 := ⟨by kernel_rfl, _, _, Try.func94, rfl, by kernel_rfl, by kernel_rfl, rfl⟩
def c95 : ACode :=
  .seq (.reg [⟨some 2, .mv (.k (.int .i64 0)), none⟩])
  (.seq (.seq (.reg [⟨some 3, .mv (.k (.int .i64 0)), none⟩])
  (.block 0 (.loop (.seq (.seq (.reg [⟨some 6, .mv (.t 3), none⟩,
      ⟨some 7, .mv (.t 0), none⟩,
      ⟨some 8, .nchk (.t 7), none⟩,
      ⟨some 9, .faddr 0 (.t 8), none⟩,
      ⟨some 10, .load false 1 (.t 9), none⟩,
      ⟨some 11, .bin .lss (.t 6) (.t 10), none⟩])
    (.cond (.t 11) (.skip)
      (.exit 0)))
    (.seq (.block 1 (.seq (.reg [⟨some 15, .mv (.t 0), none⟩,
       ⟨some 16, .mv (.t 3), none⟩,
       ⟨some 17, .call (.k (.fn 91 [] [])) [(.t 15), (.t 16)], none⟩,
       ⟨some 14, .mv (.t 17), none⟩,
       ⟨some 18, .ext (.t 14) 0, none⟩,
       ⟨some 19, .ext (.t 14) 1, none⟩,
       ⟨some 4, .mv (.t 18), none⟩,
       ⟨some 5, .mv (.t 19), none⟩])
     (.seq (.reg [⟨some 20, .mv (.t 4), none⟩,
       ⟨some 21, .bin .lss (.t 20) (.k (.int .i64 0)), none⟩])
     (.cond (.t 21) (.seq (.reg [⟨some 22, .mv (.t 3), none⟩,
         ⟨some 2, .mv (.t 22), none⟩])
       (.ret))
       (.skip)))))
    (.reg [⟨some 12, .mv (.t 3), none⟩,
      ⟨some 13, .bin .add (.t 12) (.k (.int .i64 1)), none⟩,
      ⟨some 3, .mv (.t 13), none⟩]))))))
  (.seq (.reg [⟨some 2, .mv (.k (.int .i64 (-1))), none⟩])
  (.ret)))
theorem b95 : Body Try.prog 95 c95 [.tmp 2] 23 := ⟨by kernel_rfl, _, _, Try.func95, rfl, by kernel_rfl, by kernel_rfl, rfl⟩
end Go.Proofs.Ytnddcnnangjgeaa
