/-
  Abstract code of functions, printed by a program, and that it is theirs.
-/
import Derived.Test.YtggkpagngnnjjaaProg
import Derived.Test.YtggkpagngnnjjaaAmSev
set_option linter.unusedSimpArgs false
set_option linter.unusedVariables false
namespace Go.Proofs.Ytggkpagngnnjjaa
open Go.Am
def c9 : ACode :=
  .seq (.reg [⟨some 6, .mv (.k (.bool false)), none⟩])
  (.seq (.seq (.reg [⟨some 12, .mv (.t 2), none⟩,
    ⟨some 13, .len (.t 12), none⟩,
    ⟨some 14, .bin .gtr (.t 13) (.k (.int .i64 100)), none⟩])
  (.cond (.t 14) (.seq (.reg [⟨some 15, .call (.k (.fn 11 [] [])) [], none⟩,
      ⟨some 6, .mv (.t 15), none⟩])
    (.ret))
    (.skip)))
  (.seq (.reg [⟨some 17, .mv (.t 0), none⟩,
    ⟨some 18, .mv (.t 1), none⟩,
    ⟨some 19, .call (.k (.fn 26 [] [])) [(.t 17), (.t 18)], none⟩,
    ⟨some 16, .mv (.t 19), none⟩,
    ⟨some 20, .ext (.t 16) 0, none⟩,
    ⟨some 21, .ext (.t 16) 1, none⟩,
    ⟨some 7, .mv (.t 20), none⟩,
    ⟨some 8, .mv (.t 21), none⟩])
  (.seq (.reg [⟨some 23, .mv (.t 0), none⟩,
    ⟨some 24, .mv (.t 1), none⟩,
    ⟨some 25, .call (.k (.fn 29 [] [])) [(.t 23), (.t 24)], none⟩,
    ⟨some 22, .mv (.t 25), none⟩,
    ⟨some 26, .ext (.t 22) 0, none⟩,
    ⟨some 27, .ext (.t 22) 1, none⟩,
    ⟨some 9, .new [(.int .i64 0), (.int .i64 0), (.int .i64 0), .nils], none⟩,
    ⟨none, .store 4 (.t 9) (.t 26), none⟩,
    ⟨some 10, .mv (.t 27), none⟩])
  (.seq (.seq (.reg [⟨some 28, .mv (.t 8), none⟩,
    ⟨some 29, .mv (.t 10), none⟩,
    ⟨some 30, .bin .neq (.t 28) (.t 29), none⟩,
    ⟨some 31, .mv (.t 30), none⟩,
    ⟨some 32, .mv (.t 7), some (31, false)⟩,
    ⟨some 33, .eqp false false (.t 32) (.k .nilp), some (31, false)⟩,
    ⟨some 34, .mv (.t 8), some (31, false)⟩,
    ⟨some 35, .bin .neq (.t 34) (.k (.int .i64 0)), some (31, false)⟩,
    ⟨some 36, .eqb true (.t 33) (.t 35), some (31, false)⟩,
    ⟨some 37, .pick (.t 31) (.k (.bool true)) (.t 36), none⟩])
  (.cond (.t 37) (.seq (.reg [⟨some 6, .mv (.k (.bool false)), none⟩])
    (.ret))
    (.skip)))
  (.seq (.seq (.reg [⟨some 38, .mv (.t 8), none⟩,
    ⟨some 39, .bin .neq (.t 38) (.k (.int .i64 0)), none⟩])
  (.cond (.t 39) (.seq (.reg [⟨some 41, .mv (.t 7), none⟩,
      ⟨some 42, .call (.k (.fn 21 [] [])) [(.t 41), (.k (.int .i64 0))], none⟩,
      ⟨some 40, .mv (.t 42), none⟩,
      ⟨some 43, .ext (.t 40) 0, none⟩,
      ⟨some 44, .ext (.t 40) 1, none⟩,
      ⟨some 8, .mv (.t 44), none⟩])
    (.seq (.reg [⟨some 46, .mv (.t 7), none⟩,
      ⟨some 47, .call (.k (.fn 14 [] [])) [(.t 46), (.k (.int .i64 0))], none⟩,
      ⟨some 45, .mv (.t 47), none⟩,
      ⟨some 48, .ext (.t 45) 0, none⟩,
      ⟨some 49, .ext (.t 45) 1, none⟩,
      ⟨some 10, .mv (.t 49), none⟩])
    (.seq (.reg [⟨some 50, .mv (.t 8), none⟩,
      ⟨some 51, .bin .eql (.t 50) (.k (.int .i64 1)), none⟩,
      ⟨some 52, .mv (.t 51), none⟩,
      ⟨some 53, .mv (.t 10), some (52, true)⟩,
      ⟨some 54, .bin .eql (.t 53) (.k (.int .i64 1)), some (52, true)⟩,
      ⟨some 55, .pick (.t 52) (.t 54) (.k (.bool false)), none⟩,
      ⟨some 56, .mv (.t 55), none⟩,
      ⟨some 57, .mv (.t 7), some (56, true)⟩,
      ⟨some 58, .call (.k (.fn 27 [] [])) [(.t 57), (.k (.int .i64 0)), (.k (.int .i64 0))], some (56, true)⟩,
      ⟨some 59, .bin .eql (.t 58) (.k (.int .i64 1)), some (56, true)⟩,
      ⟨some 60, .pick (.t 56) (.t 59) (.k (.bool false)), none⟩,
      ⟨some 61, .mv (.t 60), none⟩,
      ⟨some 62, .mv (.t 7), some (61, true)⟩,
      ⟨some 63, .call (.k (.fn 23 [] [])) [(.t 62), (.k (.int .i64 0)), (.k (.bool true))], some (61, true)⟩,
      ⟨some 64, .bin .eql (.t 63) (.k (.int .i64 1)), some (61, true)⟩,
      ⟨some 65, .pick (.t 61) (.t 64) (.k (.bool false)), none⟩,
      ⟨some 66, .mv (.t 65), none⟩,
      ⟨some 67, .mv (.t 7), some (66, true)⟩,
      ⟨some 68, .call (.k (.fn 30 [] [])) [(.t 67), (.k (.int .i64 0)), (.k (.int .i64 0))], some (66, true)⟩,
      ⟨some 69, .bin .eql (.t 68) (.k (.int .i64 1)), some (66, true)⟩,
      ⟨some 70, .pick (.t 66) (.t 69) (.k (.bool false)), none⟩,
      ⟨some 71, .mv (.t 70), none⟩,
      ⟨some 72, .mv (.t 7), some (71, true)⟩,
      ⟨some 73, .call (.k (.fn 15 [] [])) [(.t 72)], some (71, true)⟩,
      ⟨some 74, .bin .eql (.t 73) (.k (.int .i64 0)), some (71, true)⟩,
      ⟨some 75, .pick (.t 71) (.t 74) (.k (.bool false)), none⟩,
      ⟨some 76, .mv (.t 75), none⟩,
      ⟨some 77, .mv (.t 7), some (76, true)⟩,
      ⟨some 78, .call (.k (.fn 31 [] [])) [(.t 77)], some (76, true)⟩,
      ⟨some 79, .len (.t 78), some (76, true)⟩,
      ⟨some 80, .bin .eql (.t 79) (.k (.int .i64 0)), some (76, true)⟩,
      ⟨some 81, .pick (.t 76) (.t 80) (.k (.bool false)), none⟩,
      ⟨some 82, .mv (.t 81), none⟩,
      ⟨some 83, .mv (.t 7), some (82, true)⟩,
      ⟨some 84, .call (.k (.fn 19 [] [])) [(.t 83)], some (82, true)⟩,
      ⟨some 85, .len (.t 84), some (82, true)⟩,
      ⟨some 86, .bin .eql (.t 85) (.k (.int .i64 0)), some (82, true)⟩,
      ⟨some 87, .pick (.t 82) (.t 86) (.k (.bool false)), none⟩,
      ⟨some 88, .mv (.t 87), none⟩,
      ⟨some 89, .mv (.t 7), some (88, true)⟩,
      ⟨some 90, .call (.k (.fn 17 [] [])) [(.t 89)], some (88, true)⟩,
      ⟨some 91, .fld false 2 1 (.t 90), some (88, true)⟩,
      ⟨some 92, .bin .eql (.t 91) (.k (.int .i64 0)), some (88, true)⟩,
      ⟨some 93, .pick (.t 88) (.t 92) (.k (.bool false)), none⟩,
      ⟨some 94, .mv (.t 93), none⟩,
      ⟨some 95, .call (.k (.fn 11 [] [])) [], some (94, true)⟩,
      ⟨some 96, .pick (.t 94) (.t 95) (.k (.bool false)), none⟩,
      ⟨some 6, .mv (.t 96), none⟩])
    (.ret))))
    (.skip)))
  (.seq (.seq (.reg [⟨some 11, .mv (.k (.int .i64 0)), none⟩])
  (.block 0 (.loop (.seq (.seq (.reg [⟨some 97, .mv (.t 11), none⟩,
      ⟨some 98, .mv (.t 2), none⟩,
      ⟨some 99, .len (.t 98), none⟩,
      ⟨some 100, .bin .lss (.t 97) (.t 99), none⟩])
    (.cond (.t 100) (.skip)
      (.exit 0)))
    (.seq (.block 1 (.seq (.regD [⟨some 103, .mv (.t 7), none⟩,
       ⟨some 104, .mv (.t 2), none⟩,
       ⟨some 105, .mv (.t 11), none⟩,
       ⟨some 106, .iaddrS 5 (.t 104) (.t 105), none⟩,
       ⟨some 107, .load true 5 (.t 106), none⟩,
       ⟨some 108, .call (.k (.fn 32 [] [])) [(.t 103), (.t 9), (.t 107)], none⟩,
       ⟨some 109, .un .not (.t 108), none⟩,
       ⟨some 110, .mv (.t 109), none⟩,
       ⟨some 111, .mv (.t 7), some (110, false)⟩,
       ⟨some 112, .call (.k (.fn 15 [] [])) [(.t 111)], some (110, false)⟩,
       ⟨some 113, .faddr 3 (.t 9), some (110, false)⟩,
       ⟨some 114, .load false 1 (.t 113), some (110, false)⟩,
       ⟨some 115, .len (.t 114), some (110, false)⟩,
       ⟨some 116, .bin .neq (.t 112) (.t 115), some (110, false)⟩,
       ⟨some 117, .pick (.t 110) (.k (.bool true)) (.t 116), none⟩] [[], [], [], [1, 2], [3], [0, 4], [5], [6, 5], [7], [8, 7, 7], [7], [10, 7], [11, 7], [9, 12, 7], [7, 13]])
     (.cond (.t 117) (.seq (.reg [⟨some 6, .mv (.k (.bool false)), none⟩])
       (.ret))
       (.skip))))
    (.reg [⟨some 101, .mv (.t 11), none⟩,
      ⟨some 102, .bin .add (.t 101) (.k (.int .i64 1)), none⟩,
      ⟨some 11, .mv (.t 102), none⟩]))))))
  (.seq (.regD [⟨some 118, .mv (.t 7), none⟩,
    ⟨some 119, .call (.k (.fn 17 [] [])) [(.t 118)], none⟩,
    ⟨some 120, .load true 4 (.t 9), none⟩,
    ⟨some 121, .call (.k (.fn 16 [] [])) [(.t 119), (.t 120)], none⟩,
    ⟨some 122, .mv (.t 121), none⟩,
    ⟨some 123, .mv (.t 7), some (122, true)⟩,
    ⟨some 124, .call (.k (.fn 31 [] [])) [(.t 123)], some (122, true)⟩,
    ⟨some 125, .build [(.int .i64 0), (.int .i64 0), (.int .i64 0), .nils] [(3, 1, (.t 124))], some (122, true)⟩,
    ⟨some 126, .faddr 3 (.t 9), some (122, true)⟩,
    ⟨some 127, .load false 1 (.t 126), some (122, true)⟩,
    ⟨some 128, .build [(.int .i64 0), (.int .i64 0), (.int .i64 0), .nils] [(3, 1, (.t 127))], some (122, true)⟩,
    ⟨some 129, .call (.k (.fn 16 [] [])) [(.t 125), (.t 128)], some (122, true)⟩,
    ⟨some 130, .pick (.t 122) (.t 129) (.k (.bool false)), none⟩,
    ⟨some 131, .mv (.t 130), none⟩,
    ⟨some 132, .call (.k (.fn 11 [] [])) [], some (131, true)⟩,
    ⟨some 133, .pick (.t 131) (.t 132) (.k (.bool false)), none⟩,
    ⟨some 6, .mv (.t 133), none⟩] [[], [0], [], [1, 2, 1], [3, 3], [4], [5, 4, 4], [6, 4], [4], [8, 4], [9, 4], [7, 10, 6, 4], [4, 11], [12, 11], [13, 13], [13, 14], [15, 14, 0, 1, 2, 3, 4, 5, 6, 7, 8, 9, 10, 11, 12, 13, 14, 15]])
  (.ret))))))))
theorem b9 : Body Try.prog 9 c9 [.tmp 6] 134 := ⟨by kernel_rfl, _, _, Try.func9, rfl, by kernel_rfl, by kernel_rfl, rfl⟩
def c11 : ACode :=
  .seq (.reg [⟨some 0, .mv (.k (.bool false)), none⟩])
  (.seq (.reg [⟨some 9, .call (.k (.fn 28 [] [])) [], none⟩,
    ⟨some 10, .call (.k (.fn 12 [] [])) [(.t 9)], none⟩,
    ⟨some 8, .mv (.t 10), none⟩,
    ⟨some 11, .ext (.t 8) 0, none⟩,
    ⟨some 12, .ext (.t 8) 1, none⟩,
    ⟨some 1, .mv (.t 11), none⟩,
    ⟨some 2, .mv (.t 12), none⟩])
  (.seq (.seq (.reg [⟨some 13, .mv (.t 2), none⟩,
    ⟨some 14, .bin .neq (.t 13) (.k (.int .i64 0)), none⟩,
    ⟨some 15, .mv (.t 14), none⟩,
    ⟨some 16, .mv (.t 1), some (15, false)⟩,
    ⟨some 17, .eqp false false (.t 16) (.k .nilp), some (15, false)⟩,
    ⟨some 18, .pick (.t 15) (.k (.bool true)) (.t 17), none⟩])
  (.cond (.t 18) (.seq (.reg [⟨some 0, .mv (.k (.bool false)), none⟩])
    (.ret))
    (.skip)))
  (.seq (.reg [⟨some 20, .mv (.t 1), none⟩,
    ⟨some 21, .call (.k (.fn 21 [] [])) [(.t 20), (.k (.int .i64 13))], none⟩,
    ⟨some 19, .mv (.t 21), none⟩,
    ⟨some 22, .ext (.t 19) 0, none⟩,
    ⟨some 23, .ext (.t 19) 1, none⟩,
    ⟨some 3, .mv (.t 22), none⟩,
    ⟨some 2, .mv (.t 23), none⟩])
  (.seq (.reg [⟨some 25, .mv (.t 1), none⟩,
    ⟨some 26, .call (.k (.fn 25 [] [])) [(.t 25), (.k (.int .i64 2)), (.k (.int .i64 3))], none⟩,
    ⟨some 24, .mv (.t 26), none⟩,
    ⟨some 27, .ext (.t 24) 0, none⟩,
    ⟨some 28, .ext (.t 24) 1, none⟩,
    ⟨some 4, .mv (.t 27), none⟩,
    ⟨some 5, .mv (.t 28), none⟩])
  (.seq (.reg [⟨some 30, .mv (.t 1), none⟩,
    ⟨some 31, .call (.k (.fn 14 [] [])) [(.t 30), (.k (.int .i64 6))], none⟩,
    ⟨some 29, .mv (.t 31), none⟩,
    ⟨some 32, .ext (.t 29) 0, none⟩,
    ⟨some 33, .ext (.t 29) 1, none⟩,
    ⟨some 6, .mv (.t 32), none⟩,
    ⟨some 7, .mv (.t 33), none⟩])
  (.seq (.reg [⟨some 34, .mv (.t 2), none⟩,
    ⟨some 35, .bin .eql (.t 34) (.k (.int .i64 0)), none⟩,
    ⟨some 36, .mv (.t 35), none⟩,
    ⟨some 37, .mv (.t 5), some (36, true)⟩,
    ⟨some 38, .bin .eql (.t 37) (.k (.int .i64 0)), some (36, true)⟩,
    ⟨some 39, .pick (.t 36) (.t 38) (.k (.bool false)), none⟩,
    ⟨some 40, .mv (.t 39), none⟩,
    ⟨some 41, .mv (.t 7), some (40, true)⟩,
    ⟨some 42, .bin .eql (.t 41) (.k (.int .i64 0)), some (40, true)⟩,
    ⟨some 43, .pick (.t 40) (.t 42) (.k (.bool false)), none⟩,
    ⟨some 44, .mv (.t 43), none⟩,
    ⟨some 45, .mv (.t 6), some (44, true)⟩,
    ⟨some 46, .bin .eql (.t 45) (.k (.int .i64 3)), some (44, true)⟩,
    ⟨some 47, .pick (.t 44) (.t 46) (.k (.bool false)), none⟩,
    ⟨some 48, .mv (.t 47), none⟩,
    ⟨some 49, .mv (.t 3), some (48, true)⟩,
    ⟨some 50, .build [(.int .i64 0), (.int .i64 0)] [(0, 1, (.k (.int .i64 5))), (1, 1, (.k (.int .i64 1)))], some (48, true)⟩,
    ⟨some 51, .build [(.int .i64 0), (.int .i64 0)] [(0, 1, (.k (.int .i64 6))), (1, 1, (.k (.int .i64 1)))], some (48, true)⟩,
    ⟨some 52, .build [(.int .i64 0), (.int .i64 0)] [(0, 1, (.k (.int .i64 2))), (1, 1, (.k (.int .i64 2)))], some (48, true)⟩,
    ⟨some 53, .bslice 2 3 [(.int .i64 0), (.int .i64 0), (.int .i64 0), (.int .i64 0), (.int .i64 0), (.int .i64 0)] [(0, 2, (.t 50)), (2, 2, (.t 51)), (4, 2, (.t 52))], some (48, true)⟩,
    ⟨some 54, .call (.k (.fn 24 [] [])) [(.t 49), (.t 53)], some (48, true)⟩,
    ⟨some 55, .pick (.t 48) (.t 54) (.k (.bool false)), none⟩,
    ⟨some 56, .mv (.t 55), none⟩,
    ⟨some 57, .mv (.t 4), some (56, true)⟩,
    ⟨some 58, .build [(.int .i64 0), (.int .i64 0)] [(0, 1, (.k (.int .i64 5))), (1, 1, (.k (.int .i64 3)))], some (56, true)⟩,
    ⟨some 59, .build [(.int .i64 0), (.int .i64 0)] [(0, 1, (.k (.int .i64 6))), (1, 1, (.k (.int .i64 3)))], some (56, true)⟩,
    ⟨some 60, .bslice 2 2 [(.int .i64 0), (.int .i64 0), (.int .i64 0), (.int .i64 0)] [(0, 2, (.t 58)), (2, 2, (.t 59))], some (56, true)⟩,
    ⟨some 61, .call (.k (.fn 24 [] [])) [(.t 57), (.t 60)], some (56, true)⟩,
    ⟨some 62, .pick (.t 56) (.t 61) (.k (.bool false)), none⟩,
    ⟨some 0, .mv (.t 62), none⟩])
  (.ret)))))))
theorem b11 : Body Try.prog 11 c11 [.tmp 0] 63 := ⟨by kernel_rfl, _, _, Try.func11, rfl, by kernel_rfl, by kernel_rfl, rfl⟩
def c12 : ACode :=
  .seq (.reg [⟨some 1, .box (.t 0), none⟩,
    ⟨some 2, .mv (.k .nilp), none⟩,
    ⟨some 3, .mv (.k (.int .i64 0)), none⟩])
  (.seq (.seq (.reg [⟨some 9, .load true 4 (.t 1), none⟩,
    ⟨some 10, .call (.k (.fn 18 [] [])) [(.t 9)], none⟩,
    ⟨some 4, .mv (.t 10), none⟩])
  (.seq (.reg [⟨some 11, .mv (.t 4), none⟩,
    ⟨some 12, .bin .neq (.t 11) (.k (.int .i64 0)), none⟩])
  (.cond (.t 12) (.seq (.reg [⟨some 13, .mv (.t 4), none⟩,
      ⟨some 2, .mv (.k .nilp), none⟩,
      ⟨some 3, .mv (.t 13), none⟩])
    (.ret))
    (.skip))))
  (.seq (.reg [⟨some 15, .faddr 0 (.t 1), none⟩,
    ⟨some 16, .load false 1 (.t 15), none⟩,
    ⟨some 17, .faddr 2 (.t 1), none⟩,
    ⟨some 18, .load false 1 (.t 17), none⟩,
    ⟨some 19, .call (.k (.fn 26 [] [])) [(.t 16), (.t 18)], none⟩,
    ⟨some 14, .mv (.t 19), none⟩,
    ⟨some 20, .ext (.t 14) 0, none⟩,
    ⟨some 21, .ext (.t 14) 1, none⟩,
    ⟨some 5, .mv (.t 20), none⟩,
    ⟨some 6, .mv (.t 21), none⟩])
  (.seq (.reg [⟨some 22, .mv (.t 5), none⟩,
    ⟨some 23, .faddr 1 (.t 1), none⟩,
    ⟨some 24, .load false 1 (.t 23), none⟩,
    ⟨some 25, .nchk (.t 22), none⟩,
    ⟨some 26, .faddr 1 (.t 25), none⟩,
    ⟨none, .store 1 (.t 26) (.t 24), none⟩])
  (.seq (.seq (.reg [⟨some 27, .faddr 3 (.t 1), none⟩,
    ⟨some 28, .load false 1 (.t 27), none⟩,
    ⟨some 29, .len (.t 28), none⟩,
    ⟨some 30, .mv (.k (.int .i64 0)), none⟩])
  (.block 0 (.loop (.seq (.reg [⟨some 31, .bin .lss (.t 30) (.t 29), none⟩])
    (.seq (.cond (.t 31) (.skip)
      (.exit 0))
    (.seq (.block 1 (.seq (.reg [⟨some 32, .iaddrS 2 (.t 28) (.t 30), none⟩,
       ⟨some 33, .load true 2 (.t 32), none⟩,
       ⟨some 8, .new [(.int .i64 0), (.int .i64 0)], none⟩,
       ⟨none, .store 2 (.t 8) (.t 33), none⟩])
     (.reg [⟨some 34, .mv (.t 5), none⟩,
       ⟨some 35, .load true 2 (.t 8), none⟩,
       ⟨some 36, .call (.k (.fn 36 [] [])) [(.t 34), (.t 35)], none⟩])))
    (.reg [⟨some 37, .bin .add (.t 30) (.k (.int .i64 1)), none⟩,
      ⟨some 30, .mv (.t 37), none⟩])))))))
  (.seq (.reg [⟨some 38, .mv (.t 5), none⟩,
    ⟨some 2, .mv (.t 38), none⟩,
    ⟨some 3, .mv (.k (.int .i64 0)), none⟩])
  (.ret))))))
theorem b12 : Body Try.prog 12 c12 [.tmp 2, .tmp 3] 39 := ⟨by kernel_rfl, _, _, Try.func12, rfl, by kernel_rfl, by kernel_rfl, rfl⟩
def c13 : ACode :=
  .seq (.reg [⟨some 1, .box (.t 0), none⟩,
    ⟨some 2, .mv (.k .nilf), none⟩])
  (.seq (.reg [⟨some 3, .mkfn 37 [] [(.t 1)], none⟩,
    ⟨some 2, .mv (.t 3), none⟩])
  (.ret))
theorem b13 : Body Try.prog 13 c13 [.tmp 2] 4 := ⟨by kernel_rfl, _, _, Try.func13, rfl, by kernel_rfl, by kernel_rfl, rfl⟩
def c14 : ACode :=
  .seq (.reg [⟨some 4, .mv (.k (.int .i64 0)), none⟩,
    ⟨some 5, .mv (.k (.int .i64 0)), none⟩])
  (.seq (.reg [⟨some 10, .mv (.t 0), none⟩,
    ⟨some 11, .mv (.t 1), none⟩,
    ⟨some 12, .call (.k (.fn 40 [] [])) [(.t 10), (.t 11)], none⟩,
    ⟨some 9, .mv (.t 12), none⟩,
    ⟨some 13, .ext (.t 9) 0, none⟩,
    ⟨some 14, .ext (.t 9) 1, none⟩,
    ⟨some 6, .mv (.t 13), none⟩,
    ⟨some 5, .mv (.t 14), none⟩])
  (.seq (.seq (.reg [⟨some 15, .mv (.t 5), none⟩,
    ⟨some 16, .bin .neq (.t 15) (.k (.int .i64 0)), none⟩])
  (.cond (.t 16) (.seq (.reg [⟨some 17, .mv (.t 5), none⟩,
      ⟨some 4, .mv (.k (.int .i64 0)), none⟩,
      ⟨some 5, .mv (.t 17), none⟩])
    (.ret))
    (.skip)))
  (.seq (.reg [⟨some 19, .mv (.t 0), none⟩,
    ⟨some 20, .nchk (.t 19), none⟩,
    ⟨some 21, .faddr 4 (.t 20), none⟩,
    ⟨some 22, .load false 1 (.t 21), none⟩,
    ⟨some 23, .mv (.t 6), none⟩,
    ⟨some 24, .call (.k (.fn 41 [] [])) [(.t 22), (.t 23)], none⟩,
    ⟨some 18, .mv (.t 24), none⟩,
    ⟨some 25, .ext (.t 18) 0, none⟩,
    ⟨some 26, .ext (.t 18) 1, none⟩,
    ⟨some 7, .new [(.int .i64 0), (.int .i64 0)], none⟩,
    ⟨none, .store 2 (.t 7) (.t 25), none⟩,
    ⟨some 8, .mv (.t 26), none⟩])
  (.seq (.reg [⟨some 27, .mv (.t 0), none⟩,
    ⟨some 28, .mv (.t 1), none⟩,
    ⟨some 29, .nchk (.t 27), none⟩,
    ⟨some 30, .faddr 5 (.t 29), none⟩,
    ⟨some 31, .iaddrA 1024 1 (.t 30) (.t 28), none⟩,
    ⟨none, .store 1 (.t 31) (.k (.int .i64 0)), none⟩])
  (.seq (.reg [⟨some 32, .mv (.t 0), none⟩,
    ⟨some 33, .nchk (.t 32), none⟩,
    ⟨some 34, .faddr 3 (.t 33), none⟩,
    ⟨some 35, .load false 1 (.t 34), none⟩,
    ⟨some 36, .bin .sub (.t 35) (.k (.int .i64 1)), none⟩,
    ⟨some 37, .nchk (.t 32), none⟩,
    ⟨some 38, .faddr 3 (.t 37), none⟩,
    ⟨none, .store 1 (.t 38) (.t 36), none⟩])
  (.seq (.reg [⟨some 39, .faddr 1 (.t 7), none⟩,
    ⟨some 40, .load false 1 (.t 39), none⟩,
    ⟨some 4, .mv (.t 40), none⟩,
    ⟨some 5, .mv (.k (.int .i64 0)), none⟩])
  (.ret)))))))
theorem b14 : Body Try.prog 14 c14 [.tmp 4, .tmp 5] 41 := ⟨by kernel_rfl, _, _, Try.func14, rfl, by kernel_rfl, by kernel_rfl, rfl⟩
def c15 : ACode :=
  .seq (.reg [⟨some 2, .mv (.k (.int .i64 0)), none⟩])
  (.seq (.seq (.reg [⟨some 3, .mv (.t 0), none⟩,
    ⟨some 4, .call (.k (.fn 38 [] [])) [(.t 3)], none⟩,
    ⟨some 5, .un .not (.t 4), none⟩])
  (.cond (.t 5) (.seq (.reg [⟨some 2, .mv (.k (.int .i64 0)), none⟩])
    (.ret))
    (.skip)))
  (.seq (.reg [⟨some 6, .mv (.t 0), none⟩,
    ⟨some 7, .nchk (.t 6), none⟩,
    ⟨some 8, .faddr 3 (.t 7), none⟩,
    ⟨some 9, .load false 1 (.t 8), none⟩,
    ⟨some 2, .mv (.t 9), none⟩])
  (.ret)))
theorem b15 : Body Try.prog 15 c15 [.tmp 2] 10 := ⟨by kernel_rfl, _, _, Try.func15, rfl, by kernel_rfl, by kernel_rfl, rfl⟩
def c16 : ACode :=
  .seq (.reg [⟨some 2, .box (.t 0), none⟩,
    ⟨some 3, .box (.t 1), none⟩,
    ⟨some 4, .mv (.k (.bool false)), none⟩])
  (.seq (.seq (.reg [⟨some 6, .faddr 0 (.t 2), none⟩,
    ⟨some 7, .load false 1 (.t 6), none⟩,
    ⟨some 8, .faddr 0 (.t 3), none⟩,
    ⟨some 9, .load false 1 (.t 8), none⟩,
    ⟨some 10, .bin .neq (.t 7) (.t 9), none⟩,
    ⟨some 11, .mv (.t 10), none⟩,
    ⟨some 12, .faddr 2 (.t 2), some (11, false)⟩,
    ⟨some 13, .load false 1 (.t 12), some (11, false)⟩,
    ⟨some 14, .faddr 2 (.t 3), some (11, false)⟩,
    ⟨some 15, .load false 1 (.t 14), some (11, false)⟩,
    ⟨some 16, .bin .neq (.t 13) (.t 15), some (11, false)⟩,
    ⟨some 17, .pick (.t 11) (.k (.bool true)) (.t 16), none⟩,
    ⟨some 18, .mv (.t 17), none⟩,
    ⟨some 19, .faddr 1 (.t 2), some (18, false)⟩,
    ⟨some 20, .load false 1 (.t 19), some (18, false)⟩,
    ⟨some 21, .faddr 1 (.t 3), some (18, false)⟩,
    ⟨some 22, .load false 1 (.t 21), some (18, false)⟩,
    ⟨some 23, .bin .neq (.t 20) (.t 22), some (18, false)⟩,
    ⟨some 24, .pick (.t 18) (.k (.bool true)) (.t 23), none⟩,
    ⟨some 25, .mv (.t 24), none⟩,
    ⟨some 26, .faddr 3 (.t 2), some (25, false)⟩,
    ⟨some 27, .load false 1 (.t 26), some (25, false)⟩,
    ⟨some 28, .len (.t 27), some (25, false)⟩,
    ⟨some 29, .faddr 3 (.t 3), some (25, false)⟩,
    ⟨some 30, .load false 1 (.t 29), some (25, false)⟩,
    ⟨some 31, .len (.t 30), some (25, false)⟩,
    ⟨some 32, .bin .neq (.t 28) (.t 31), some (25, false)⟩,
    ⟨some 33, .pick (.t 25) (.k (.bool true)) (.t 32), none⟩])
  (.cond (.t 33) (.seq (.reg [⟨some 4, .mv (.k (.bool false)), none⟩])
    (.ret))
    (.skip)))
  (.seq (.seq (.reg [⟨some 5, .mv (.k (.int .i64 0)), none⟩])
  (.block 0 (.loop (.seq (.seq (.reg [⟨some 34, .mv (.t 5), none⟩,
      ⟨some 35, .faddr 3 (.t 2), none⟩,
      ⟨some 36, .load false 1 (.t 35), none⟩,
      ⟨some 37, .len (.t 36), none⟩,
      ⟨some 38, .bin .lss (.t 34) (.t 37), none⟩])
    (.cond (.t 38) (.skip)
      (.exit 0)))
    (.seq (.block 1 (.seq (.regD [⟨some 41, .faddr 3 (.t 2), none⟩,
       ⟨some 42, .load false 1 (.t 41), none⟩,
       ⟨some 43, .mv (.t 5), none⟩,
       ⟨some 44, .iaddrS 2 (.t 42) (.t 43), none⟩,
       ⟨some 45, .load true 2 (.t 44), none⟩,
       ⟨some 46, .faddr 3 (.t 3), none⟩,
       ⟨some 47, .load false 1 (.t 46), none⟩,
       ⟨some 48, .mv (.t 5), none⟩,
       ⟨some 49, .iaddrS 2 (.t 47) (.t 48), none⟩,
       ⟨some 50, .load true 2 (.t 49), none⟩,
       ⟨some 51, .eqs true [false, false] (.t 45) (.t 50), none⟩] [[], [0], [], [1, 2], [3], [], [5], [], [6, 7], [8], [4, 9]])
     (.cond (.t 51) (.seq (.reg [⟨some 4, .mv (.k (.bool false)), none⟩])
       (.ret))
       (.skip))))
    (.reg [⟨some 39, .mv (.t 5), none⟩,
      ⟨some 40, .bin .add (.t 39) (.k (.int .i64 1)), none⟩,
      ⟨some 5, .mv (.t 40), none⟩]))))))
  (.seq (.reg [⟨some 4, .mv (.k (.bool true)), none⟩])
  (.ret))))
theorem b16 : Body Try.prog 16 c16 [.tmp 4] 52 := ⟨by kernel_rfl, _, _, Try.func16, rfl, by kernel_rfl, by kernel_rfl, rfl⟩
def c17 : ACode :=
  .seq (.reg [⟨some 2, .new [(.int .i64 0), (.int .i64 0), (.int .i64 0), .nils], none⟩])
  (.seq (.seq (.reg [⟨some 5, .mv (.t 0), none⟩,
    ⟨some 6, .call (.k (.fn 38 [] [])) [(.t 5)], none⟩,
    ⟨some 7, .un .not (.t 6), none⟩])
  (.cond (.t 7) (.seq (.reg [⟨some 8, .build [(.int .i64 0), (.int .i64 0), (.int .i64 0), .nils] [], none⟩,
      ⟨none, .store 4 (.t 2) (.t 8), none⟩])
    (.ret))
    (.skip)))
  (.seq (.regD [⟨some 9, .mv (.t 0), none⟩,
    ⟨some 10, .nchk (.t 9), none⟩,
    ⟨some 11, .faddr 0 (.t 10), none⟩,
    ⟨some 12, .load false 1 (.t 11), none⟩,
    ⟨some 13, .mv (.t 0), none⟩,
    ⟨some 14, .nchk (.t 13), none⟩,
    ⟨some 15, .faddr 1 (.t 14), none⟩,
    ⟨some 16, .load false 1 (.t 15), none⟩,
    ⟨some 17, .mv (.t 0), none⟩,
    ⟨some 18, .nchk (.t 17), none⟩,
    ⟨some 19, .faddr 2 (.t 18), none⟩,
    ⟨some 20, .load false 1 (.t 19), none⟩,
    ⟨some 21, .build [(.int .i64 0), (.int .i64 0), (.int .i64 0), .nils] [(0, 1, (.t 12)), (1, 1, (.t 16)), (2, 1, (.t 20))], none⟩,
    ⟨some 3, .new [(.int .i64 0), (.int .i64 0), (.int .i64 0), .nils], none⟩,
    ⟨none, .store 4 (.t 3) (.t 21), none⟩] [[], [0], [1], [2], [], [4], [5], [6], [], [8], [9], [10], [3, 7, 11], [], [13, 12, 0, 1, 2, 3, 4, 5, 6, 7, 8, 9, 10, 11, 12, 13]])
  (.seq (.seq (.reg [⟨some 22, .mv (.t 0), none⟩,
    ⟨some 23, .call (.k (.fn 13 [] [])) [(.t 22)], none⟩])
  (.block 0 (.rangeF (.t 23) [24] (.reg [⟨some 4, .new [(.int .i64 0), (.int .i64 0)], none⟩,
       ⟨none, .store 2 (.t 4) (.t 24), none⟩])
     (.block 1 (.reg [⟨some 25, .faddr 3 (.t 3), none⟩,
        ⟨some 26, .load false 1 (.t 25), none⟩,
        ⟨some 27, .load true 2 (.t 4), none⟩,
        ⟨some 28, .bslice 2 1 [(.int .i64 0), (.int .i64 0)] [(0, 2, (.t 27))], none⟩,
        ⟨some 29, .append 2 16 (.t 26) (.t 28), none⟩,
        ⟨some 30, .faddr 3 (.t 3), none⟩,
        ⟨none, .store 1 (.t 30) (.t 29), none⟩])))))
  (.seq (.reg [⟨some 31, .load true 4 (.t 3), none⟩,
    ⟨none, .store 4 (.t 2) (.t 31), none⟩])
  (.ret)))))
theorem b17 : Body Try.prog 17 c17 [.cell 2 true 4] 32 := ⟨by kernel_rfl, _, _, Try.func17, rfl, by kernel_rfl, by kernel_rfl, rfl⟩
def c18 : ACode :=
  .seq (.reg [⟨some 1, .box (.t 0), none⟩,
    ⟨some 2, .mv (.k (.int .i64 0)), none⟩])
  (.seq (.seq (.reg [⟨some 10, .faddr 1 (.t 1), none⟩,
    ⟨some 11, .load false 1 (.t 10), none⟩,
    ⟨some 12, .bin .lss (.t 11) (.k (.int .i64 0)), none⟩])
  (.cond (.t 12) (.seq (.reg [⟨some 2, .mv (.k (.int .i64 2)), none⟩])
    (.ret))
    (.skip)))
  (.seq (.seq (.reg [⟨some 13, .faddr 0 (.t 1), none⟩,
    ⟨some 14, .load false 1 (.t 13), none⟩,
    ⟨some 15, .faddr 2 (.t 1), none⟩,
    ⟨some 16, .load false 1 (.t 15), none⟩,
    ⟨some 17, .call (.k (.fn 42 [] [])) [(.t 14), (.t 16)], none⟩,
    ⟨some 3, .mv (.t 17), none⟩])
  (.seq (.reg [⟨some 18, .mv (.t 3), none⟩,
    ⟨some 19, .bin .neq (.t 18) (.k (.int .i64 0)), none⟩])
  (.cond (.t 19) (.seq (.reg [⟨some 20, .mv (.t 3), none⟩,
      ⟨some 2, .mv (.t 20), none⟩])
    (.ret))
    (.skip))))
  (.seq (.reg [⟨some 4, .new (List.replicate 1024 (.bool false)), none⟩])
  (.seq (.reg [⟨some 5, .mv (.k (.bool true)), none⟩,
    ⟨some 6, .mv (.k (.bool false)), none⟩])
  (.seq (.seq (.reg [⟨some 21, .faddr 3 (.t 1), none⟩,
    ⟨some 22, .load false 1 (.t 21), none⟩,
    ⟨some 23, .len (.t 22), none⟩,
    ⟨some 24, .mv (.k (.int .i64 0)), none⟩])
  (.block 0 (.loop (.seq (.reg [⟨some 25, .bin .lss (.t 24) (.t 23), none⟩])
    (.seq (.cond (.t 25) (.skip)
      (.exit 0))
    (.seq (.block 1 (.seq (.reg [⟨some 26, .mv (.t 24), none⟩,
       ⟨some 27, .iaddrS 2 (.t 22) (.t 24), none⟩,
       ⟨some 28, .load true 2 (.t 27), none⟩,
       ⟨some 8, .new [(.int .i64 0), (.int .i64 0)], none⟩,
       ⟨some 7, .mv (.t 26), none⟩,
       ⟨none, .store 2 (.t 8) (.t 28), none⟩])
     (.seq (.seq (.reg [⟨some 29, .load true 2 (.t 8), none⟩,
       ⟨some 30, .call (.k (.fn 43 [] [])) [(.t 29)], none⟩,
       ⟨some 9, .mv (.t 30), none⟩])
     (.seq (.reg [⟨some 31, .mv (.t 9), none⟩,
       ⟨some 32, .bin .neq (.t 31) (.k (.int .i64 0)), none⟩])
     (.cond (.t 32) (.seq (.reg [⟨some 33, .mv (.t 9), none⟩,
         ⟨some 2, .mv (.t 33), none⟩])
       (.ret))
       (.skip))))
     (.seq (.regD [⟨some 34, .mv (.t 5), none⟩,
       ⟨some 35, .mv (.t 34), none⟩,
       ⟨some 36, .mv (.t 7), some (35, true)⟩,
       ⟨some 37, .bin .eql (.t 36) (.k (.int .i64 0)), some (35, true)⟩,
       ⟨some 38, .mv (.t 37), some (35, true)⟩,
       ⟨some 39, .faddr 3 (.t 1), some (38, false)⟩,
       ⟨some 40, .load false 1 (.t 39), some (38, false)⟩,
       ⟨some 41, .mv (.t 7), some (38, false)⟩,
       ⟨some 42, .bin .sub (.t 41) (.k (.int .i64 1)), some (38, false)⟩,
       ⟨some 43, .iaddrS 2 (.t 40) (.t 42), some (38, false)⟩,
       ⟨some 44, .load true 2 (.t 43), some (38, false)⟩,
       ⟨some 45, .load true 2 (.t 8), some (38, false)⟩,
       ⟨some 46, .call (.k (.fn 44 [] [])) [(.t 44), (.t 45)], some (38, false)⟩,
       ⟨some 47, .bin .leq (.t 46) (.k (.int .i64 0)), some (38, false)⟩,
       ⟨some 48, .pick (.t 38) (.k (.bool true)) (.t 47), some (35, true)⟩,
       ⟨some 49, .pick (.t 35) (.t 48) (.k (.bool false)), none⟩,
       ⟨some 5, .mv (.t 49), none⟩] [[], [0], [1], [2, 1], [3, 1, 1], [4], [5, 4], [4], [7, 4], [6, 8, 4], [9, 4], [4], [10, 11, 4, 4], [12, 4], [4, 13, 1], [1, 14], [15, 12, 0, 1, 2, 3, 4, 5, 6, 7, 8, 9, 10, 11, 12, 13, 14, 15]])
     (.seq (.reg [⟨some 50, .mv (.t 6), none⟩,
       ⟨some 51, .mv (.t 50), none⟩,
       ⟨some 52, .faddr 0 (.t 8), some (51, false)⟩,
       ⟨some 53, .load false 1 (.t 52), some (51, false)⟩,
       ⟨some 54, .iaddrA 1024 1 (.t 4) (.t 53), some (51, false)⟩,
       ⟨some 55, .load false 1 (.t 54), some (51, false)⟩,
       ⟨some 56, .pick (.t 51) (.k (.bool true)) (.t 55), none⟩,
       ⟨some 6, .mv (.t 56), none⟩])
     (.reg [⟨some 57, .faddr 0 (.t 8), none⟩,
       ⟨some 58, .load false 1 (.t 57), none⟩,
       ⟨some 59, .iaddrA 1024 1 (.t 4) (.t 58), none⟩,
       ⟨none, .store 1 (.t 59) (.k (.bool true)), none⟩]))))))
    (.reg [⟨some 60, .bin .add (.t 24) (.k (.int .i64 1)), none⟩,
      ⟨some 24, .mv (.t 60), none⟩])))))))
  (.seq (.block 2 (.seq (.reg [⟨some 62, .mv (.t 5), none⟩,
     ⟨some 63, .un .not (.t 62), none⟩,
     ⟨some 61, .mv (.t 63), none⟩])
   (.cond (.t 61) (.seq (.reg [⟨some 2, .mv (.k (.int .i64 6)), none⟩])
     (.ret))
     (.seq (.reg [⟨some 65, .mv (.t 6), none⟩,
       ⟨some 64, .mv (.t 65), none⟩])
     (.cond (.t 64) (.seq (.reg [⟨some 2, .mv (.k (.int .i64 8)), none⟩])
       (.ret))
       (.skip))))))
  (.seq (.reg [⟨some 2, .mv (.k (.int .i64 0)), none⟩])
  (.ret))))))))
theorem b18 : Body Try.prog 18 c18 [.tmp 2] 66 := ⟨by kernel_rfl, _, _, Try.func18, rfl, by kernel_rfl, by kernel_rfl, rfl⟩
def c19 : ACode :=
  .seq (.reg [⟨some 2, .mv (.k .nils), none⟩])
  (.seq (.reg [⟨some 3, .new [.nils], none⟩])
  (.seq (.seq (.reg [⟨some 6, .mv (.t 0), none⟩,
    ⟨some 7, .call (.k (.fn 13 [] [])) [(.t 6)], none⟩])
  (.block 0 (.rangeF (.t 7) [8] (.reg [⟨some 4, .new [(.int .i64 0), (.int .i64 0)], none⟩,
       ⟨none, .store 2 (.t 4) (.t 8), none⟩])
     (.block 1 (.seq (.seq (.reg [⟨some 9, .load false 1 (.t 3), none⟩,
        ⟨some 10, .len (.t 9), none⟩,
        ⟨some 11, .bin .sub (.t 10) (.k (.int .i64 1)), none⟩,
        ⟨some 5, .mv (.t 11), none⟩])
      (.seq (.regD [⟨some 12, .mv (.t 5), none⟩,
        ⟨some 13, .bin .geq (.t 12) (.k (.int .i64 0)), none⟩,
        ⟨some 14, .mv (.t 13), none⟩,
        ⟨some 15, .load false 1 (.t 3), some (14, true)⟩,
        ⟨some 16, .mv (.t 5), some (14, true)⟩,
        ⟨some 17, .iaddrS 3 (.t 15) (.t 16), some (14, true)⟩,
        ⟨some 18, .faddr 2 (.t 17), some (14, true)⟩,
        ⟨some 19, .load false 1 (.t 18), some (14, true)⟩,
        ⟨some 20, .faddr 1 (.t 4), some (14, true)⟩,
        ⟨some 21, .load false 1 (.t 20), some (14, true)⟩,
        ⟨some 22, .bin .eql (.t 19) (.t 21), some (14, true)⟩,
        ⟨some 23, .pick (.t 14) (.t 22) (.k (.bool false)), none⟩,
        ⟨some 24, .mv (.t 23), none⟩,
        ⟨some 25, .load false 1 (.t 3), some (24, true)⟩,
        ⟨some 26, .mv (.t 5), some (24, true)⟩,
        ⟨some 27, .iaddrS 3 (.t 25) (.t 26), some (24, true)⟩,
        ⟨some 28, .faddr 1 (.t 27), some (24, true)⟩,
        ⟨some 29, .load false 1 (.t 28), some (24, true)⟩,
        ⟨some 30, .faddr 0 (.t 4), some (24, true)⟩,
        ⟨some 31, .load false 1 (.t 30), some (24, true)⟩,
        ⟨some 32, .bin .eql (.t 29) (.t 31), some (24, true)⟩,
        ⟨some 33, .pick (.t 24) (.t 32) (.k (.bool false)), none⟩] [[], [0], [1], [2], [2], [3, 4, 2], [5, 2], [6, 2], [2], [8, 2], [7, 9, 2], [2, 10], [11, 2], [12], [12], [13, 14, 12], [15, 12], [16, 12], [12], [18, 12], [17, 19, 12], [12, 20]])
      (.cond (.t 33) (.seq (.reg [⟨some 34, .load false 1 (.t 3), none⟩,
          ⟨some 35, .mv (.t 5), none⟩,
          ⟨some 36, .iaddrS 3 (.t 34) (.t 35), none⟩,
          ⟨some 37, .faddr 1 (.t 36), none⟩,
          ⟨some 38, .load false 1 (.t 37), none⟩,
          ⟨some 39, .bin .add (.t 38) (.k (.int .i64 1)), none⟩,
          ⟨some 40, .iaddrS 3 (.t 34) (.t 35), none⟩,
          ⟨some 41, .faddr 1 (.t 40), none⟩,
          ⟨none, .store 1 (.t 41) (.t 39), none⟩])
        (.exit 1))
        (.skip))))
      (.reg [⟨some 42, .load false 1 (.t 3), none⟩,
        ⟨some 43, .faddr 0 (.t 4), none⟩,
        ⟨some 44, .load false 1 (.t 43), none⟩,
        ⟨some 45, .faddr 0 (.t 4), none⟩,
        ⟨some 46, .load false 1 (.t 45), none⟩,
        ⟨some 47, .bin .add (.t 46) (.k (.int .i64 1)), none⟩,
        ⟨some 48, .faddr 1 (.t 4), none⟩,
        ⟨some 49, .load false 1 (.t 48), none⟩,
        ⟨some 50, .build [(.int .i64 0), (.int .i64 0), (.int .i64 0)] [(0, 1, (.t 44)), (1, 1, (.t 47)), (2, 1, (.t 49))], none⟩,
        ⟨some 51, .bslice 3 1 [(.int .i64 0), (.int .i64 0), (.int .i64 0)] [(0, 3, (.t 50))], none⟩,
        ⟨some 52, .append 3 24 (.t 42) (.t 51), none⟩,
        ⟨none, .store 1 (.t 3) (.t 52), none⟩]))))))
  (.seq (.reg [⟨some 53, .load false 1 (.t 3), none⟩,
    ⟨some 2, .mv (.t 53), none⟩])
  (.ret))))
theorem b19 : Body Try.prog 19 c19 [.tmp 2] 54 := ⟨by kernel_rfl, _, _, Try.func19, rfl, by kernel_rfl, by kernel_rfl, rfl⟩
def c21 : ACode :=
  .seq (.reg [⟨some 2, .box (.t 0), none⟩,
    ⟨some 3, .box (.t 1), none⟩,
    ⟨some 4, .mv (.k .nils), none⟩,
    ⟨some 5, .mv (.k (.int .i64 0)), none⟩])
  (.seq (.block 0 (.seq (.reg [⟨some 7, .load false 1 (.t 2), none⟩,
     ⟨some 8, .call (.k (.fn 38 [] [])) [(.t 7)], none⟩,
     ⟨some 9, .un .not (.t 8), none⟩,
     ⟨some 6, .mv (.t 9), none⟩])
   (.cond (.t 6) (.seq (.reg [⟨some 4, .mv (.k .nils), none⟩,
       ⟨some 5, .mv (.k (.int .i64 1)), none⟩])
     (.ret))
     (.seq (.reg [⟨some 11, .load false 1 (.t 3), none⟩,
       ⟨some 12, .bin .lss (.t 11) (.k (.int .i64 0)), none⟩,
       ⟨some 13, .mv (.t 12), none⟩,
       ⟨some 14, .load false 1 (.t 3), some (13, false)⟩,
       ⟨some 15, .bin .gtr (.t 14) (.k (.int .i64 1000000000000)), some (13, false)⟩,
       ⟨some 16, .pick (.t 13) (.k (.bool true)) (.t 15), none⟩,
       ⟨some 10, .mv (.t 16), none⟩])
     (.cond (.t 10) (.seq (.reg [⟨some 4, .mv (.k .nils), none⟩,
         ⟨some 5, .mv (.k (.int .i64 7)), none⟩])
       (.ret))
       (.skip))))))
  (.seq (.reg [⟨some 17, .load false 1 (.t 2), none⟩,
    ⟨some 18, .mkfn 46 [] [(.t 2), (.t 3)], none⟩,
    ⟨some 19, .call (.k (.fn 45 [] [])) [(.t 17), (.t 18)], none⟩,
    ⟨some 4, .mv (.t 19), none⟩,
    ⟨some 5, .mv (.k (.int .i64 0)), none⟩])
  (.ret)))
theorem b21 : Body Try.prog 21 c21 [.tmp 4, .tmp 5] 20 := ⟨by kernel_rfl, _, _, Try.func21, rfl, by kernel_rfl, by kernel_rfl, rfl⟩
def c23 : ACode :=
  .seq (.reg [⟨some 6, .mv (.k (.int .i64 0)), none⟩])
  (.seq (.seq (.reg [⟨some 11, .mv (.t 2), none⟩,
    ⟨some 12, .un .not (.t 11), none⟩])
  (.cond (.t 12) (.seq (.reg [⟨some 14, .mv (.t 0), none⟩,
      ⟨some 15, .mv (.t 1), none⟩,
      ⟨some 16, .call (.k (.fn 14 [] [])) [(.t 14), (.t 15)], none⟩,
      ⟨some 13, .mv (.t 16), none⟩,
      ⟨some 17, .ext (.t 13) 0, none⟩,
      ⟨some 18, .ext (.t 13) 1, none⟩,
      ⟨some 7, .mv (.t 17), none⟩,
      ⟨some 8, .mv (.t 18), none⟩])
    (.seq (.reg [⟨some 19, .mv (.t 8), none⟩,
      ⟨some 6, .mv (.t 19), none⟩])
    (.ret)))
    (.skip)))
  (.seq (.seq (.reg [⟨some 21, .mv (.t 0), none⟩,
    ⟨some 22, .mv (.t 1), none⟩,
    ⟨some 23, .call (.k (.fn 40 [] [])) [(.t 21), (.t 22)], none⟩,
    ⟨some 20, .mv (.t 23), none⟩,
    ⟨some 24, .ext (.t 20) 0, none⟩,
    ⟨some 25, .ext (.t 20) 1, none⟩,
    ⟨some 9, .mv (.t 24), none⟩,
    ⟨some 10, .mv (.t 25), none⟩])
  (.seq (.reg [⟨some 26, .mv (.t 10), none⟩,
    ⟨some 27, .bin .neq (.t 26) (.k (.int .i64 0)), none⟩])
  (.cond (.t 27) (.seq (.reg [⟨some 28, .mv (.t 10), none⟩,
      ⟨some 6, .mv (.t 28), none⟩])
    (.ret))
    (.skip))))
  (.seq (.seq (.reg [⟨some 29, .mv (.t 0), none⟩,
    ⟨some 30, .nchk (.t 29), none⟩,
    ⟨some 31, .faddr 1 (.t 30), none⟩,
    ⟨some 32, .load false 1 (.t 31), none⟩,
    ⟨some 33, .bin .lss (.t 32) (.k (.int .i64 1000000000000)), none⟩])
  (.cond (.t 33) (.reg [⟨some 34, .mv (.t 0), none⟩,
      ⟨some 35, .nchk (.t 34), none⟩,
      ⟨some 36, .faddr 1 (.t 35), none⟩,
      ⟨some 37, .load false 1 (.t 36), none⟩,
      ⟨some 38, .bin .add (.t 37) (.k (.int .i64 1)), none⟩,
      ⟨some 39, .nchk (.t 34), none⟩,
      ⟨some 40, .faddr 1 (.t 39), none⟩,
      ⟨none, .store 1 (.t 40) (.t 38), none⟩])
    (.skip)))
  (.seq (.reg [⟨some 6, .mv (.k (.int .i64 0)), none⟩])
  (.ret)))))
theorem b23 : Body Try.prog 23 c23 [.tmp 6] 41 := ⟨by kernel_rfl, _, _, Try.func23, rfl, by kernel_rfl, by kernel_rfl, rfl⟩
def c24 : ACode :=
  .seq (.reg [⟨some 4, .mv (.k (.bool false)), none⟩])
  (.seq (.seq (.reg [⟨some 6, .mv (.t 0), none⟩,
    ⟨some 7, .len (.t 6), none⟩,
    ⟨some 8, .mv (.t 1), none⟩,
    ⟨some 9, .len (.t 8), none⟩,
    ⟨some 10, .bin .neq (.t 7) (.t 9), none⟩])
  (.cond (.t 10) (.seq (.reg [⟨some 4, .mv (.k (.bool false)), none⟩])
    (.ret))
    (.skip)))
  (.seq (.seq (.reg [⟨some 5, .mv (.k (.int .i64 0)), none⟩])
  (.block 0 (.loop (.seq (.seq (.reg [⟨some 11, .mv (.t 5), none⟩,
      ⟨some 12, .mv (.t 0), none⟩,
      ⟨some 13, .len (.t 12), none⟩,
      ⟨some 14, .bin .lss (.t 11) (.t 13), none⟩])
    (.cond (.t 14) (.skip)
      (.exit 0)))
    (.seq (.block 1 (.seq (.regD [⟨some 17, .mv (.t 0), none⟩,
       ⟨some 18, .mv (.t 5), none⟩,
       ⟨some 19, .iaddrS 2 (.t 17) (.t 18), none⟩,
       ⟨some 20, .load true 2 (.t 19), none⟩,
       ⟨some 21, .mv (.t 1), none⟩,
       ⟨some 22, .mv (.t 5), none⟩,
       ⟨some 23, .iaddrS 2 (.t 21) (.t 22), none⟩,
       ⟨some 24, .load true 2 (.t 23), none⟩,
       ⟨some 25, .eqs true [false, false] (.t 20) (.t 24), none⟩] [[], [], [0, 1], [2], [], [], [4, 5], [6], [3, 7]])
     (.cond (.t 25) (.seq (.reg [⟨some 4, .mv (.k (.bool false)), none⟩])
       (.ret))
       (.skip))))
    (.reg [⟨some 15, .mv (.t 5), none⟩,
      ⟨some 16, .bin .add (.t 15) (.k (.int .i64 1)), none⟩,
      ⟨some 5, .mv (.t 16), none⟩]))))))
  (.seq (.reg [⟨some 4, .mv (.k (.bool true)), none⟩])
  (.ret))))
theorem b24 : Body Try.prog 24 c24 [.tmp 4] 26 := ⟨by kernel_rfl, _, _, Try.func24, rfl, by kernel_rfl, by kernel_rfl, rfl⟩
def c25 : ACode :=
  .seq (.reg [⟨some 4, .box (.t 1), none⟩,
    ⟨some 5, .box (.t 2), none⟩,
    ⟨some 6, .mv (.k .nils), none⟩,
    ⟨some 7, .mv (.k (.int .i64 0)), none⟩])
  (.seq (.block 0 (.seq (.reg [⟨some 10, .mv (.t 0), none⟩,
     ⟨some 11, .call (.k (.fn 38 [] [])) [(.t 10)], none⟩,
     ⟨some 12, .un .not (.t 11), none⟩,
     ⟨some 9, .mv (.t 12), none⟩])
   (.cond (.t 9) (.seq (.reg [⟨some 6, .mv (.k .nils), none⟩,
       ⟨some 7, .mv (.k (.int .i64 1)), none⟩])
     (.ret))
     (.seq (.reg [⟨some 14, .load false 1 (.t 4), none⟩,
       ⟨some 15, .bin .lss (.t 14) (.k (.int .i64 0)), none⟩,
       ⟨some 16, .mv (.t 15), none⟩,
       ⟨some 17, .load false 1 (.t 5), some (16, false)⟩,
       ⟨some 18, .bin .neq (.t 17) (.k (.int .i64 3)), some (16, false)⟩,
       ⟨some 19, .mv (.t 18), some (16, false)⟩,
       ⟨some 20, .load false 1 (.t 5), some (19, true)⟩,
       ⟨some 21, .bin .neq (.t 20) (.k (.int .i64 4)), some (19, true)⟩,
       ⟨some 22, .pick (.t 19) (.t 21) (.k (.bool false)), some (16, false)⟩,
       ⟨some 23, .pick (.t 16) (.k (.bool true)) (.t 22), none⟩,
       ⟨some 13, .mv (.t 23), none⟩])
     (.cond (.t 13) (.seq (.reg [⟨some 6, .mv (.k .nils), none⟩,
         ⟨some 7, .mv (.k (.int .i64 2)), none⟩])
       (.ret))
       (.skip))))))
  (.seq (.reg [⟨some 24, .mv (.t 0), none⟩,
    ⟨some 25, .nchk (.t 24), none⟩,
    ⟨some 26, .faddr 3 (.t 25), none⟩,
    ⟨some 27, .load false 1 (.t 26), none⟩,
    ⟨some 8, .new [(.int .i64 0)], none⟩,
    ⟨none, .store 1 (.t 8) (.t 27), none⟩])
  (.seq (.reg [⟨some 28, .mv (.t 0), none⟩,
    ⟨some 29, .mkfn 47 [] [(.t 8), (.t 4), (.t 5)], none⟩,
    ⟨some 30, .call (.k (.fn 45 [] [])) [(.t 28), (.t 29)], none⟩,
    ⟨some 6, .mv (.t 30), none⟩,
    ⟨some 7, .mv (.k (.int .i64 0)), none⟩])
  (.ret))))
theorem b25 : Body Try.prog 25 c25 [.tmp 6, .tmp 7] 31 := ⟨by kernel_rfl, _, _, Try.func25, rfl, by kernel_rfl, by kernel_rfl, rfl⟩
def c26 : ACode :=
  .seq (.reg [⟨some 4, .mv (.k .nilp), none⟩,
    ⟨some 5, .mv (.k (.int .i64 0)), none⟩])
  (.seq (.seq (.reg [⟨some 9, .mv (.t 0), none⟩,
    ⟨some 10, .mv (.t 1), none⟩,
    ⟨some 11, .call (.k (.fn 42 [] [])) [(.t 9), (.t 10)], none⟩,
    ⟨some 6, .mv (.t 11), none⟩])
  (.seq (.reg [⟨some 12, .mv (.t 6), none⟩,
    ⟨some 13, .bin .neq (.t 12) (.k (.int .i64 0)), none⟩])
  (.cond (.t 13) (.seq (.reg [⟨some 14, .mv (.t 6), none⟩,
      ⟨some 4, .mv (.k .nilp), none⟩,
      ⟨some 5, .mv (.t 14), none⟩])
    (.ret))
    (.skip))))
  (.seq (.reg [⟨some 16, .call (.k (.fn 48 [] [])) [(.k (.int .i64 1024)), (.k (.int .i64 1))], none⟩,
    ⟨some 15, .mv (.t 16), none⟩,
    ⟨some 17, .ext (.t 15) 0, none⟩,
    ⟨some 18, .ext (.t 15) 1, none⟩,
    ⟨some 7, .mv (.t 17), none⟩,
    ⟨some 8, .mv (.t 18), none⟩])
  (.seq (.reg [⟨some 19, .mv (.t 0), none⟩,
    ⟨some 20, .mv (.t 1), none⟩,
    ⟨some 21, .mv (.t 7), none⟩,
    ⟨some 22, .build ((.int .i64 0) :: (.int .i64 0) :: (.int .i64 0) :: (.int .i64 0) :: .nilp :: List.replicate 1024 (.int .i64 0)) [(0, 1, (.t 19)), (2, 1, (.t 20)), (4, 1, (.t 21))], none⟩,
    ⟨some 23, .box (.t 22), none⟩,
    ⟨some 4, .mv (.t 23), none⟩,
    ⟨some 5, .mv (.k (.int .i64 0)), none⟩])
  (.ret))))
theorem b26 : Body Try.prog 26 c26 [.tmp 4, .tmp 5] 24 := ⟨by kernel_rfl, _, _, Try.func26, rfl, by kernel_rfl, by kernel_rfl, rfl⟩
def c27 : ACode :=
  .seq (.reg [⟨some 6, .mv (.k (.int .i64 0)), none⟩])
  (.seq (.seq (.reg [⟨some 9, .mv (.t 0), none⟩,
    ⟨some 10, .call (.k (.fn 38 [] [])) [(.t 9)], none⟩,
    ⟨some 11, .un .not (.t 10), none⟩])
  (.cond (.t 11) (.seq (.reg [⟨some 6, .mv (.k (.int .i64 1)), none⟩])
    (.ret))
    (.skip)))
  (.seq (.reg [⟨some 12, .mv (.t 1), none⟩,
    ⟨some 13, .mv (.t 2), none⟩,
    ⟨some 14, .build [(.int .i64 0), (.int .i64 0)] [(0, 1, (.t 12)), (1, 1, (.t 13))], none⟩,
    ⟨some 7, .new [(.int .i64 0), (.int .i64 0)], none⟩,
    ⟨none, .store 2 (.t 7) (.t 14), none⟩])
  (.seq (.seq (.reg [⟨some 15, .load true 2 (.t 7), none⟩,
    ⟨some 16, .call (.k (.fn 43 [] [])) [(.t 15)], none⟩,
    ⟨some 8, .mv (.t 16), none⟩])
  (.seq (.reg [⟨some 17, .mv (.t 8), none⟩,
    ⟨some 18, .bin .neq (.t 17) (.k (.int .i64 0)), none⟩])
  (.cond (.t 18) (.seq (.reg [⟨some 19, .mv (.t 8), none⟩,
      ⟨some 6, .mv (.t 19), none⟩])
    (.ret))
    (.skip))))
  (.seq (.seq (.reg [⟨some 20, .mv (.t 0), none⟩,
    ⟨some 21, .mv (.t 1), none⟩,
    ⟨some 22, .nchk (.t 20), none⟩,
    ⟨some 23, .faddr 5 (.t 22), none⟩,
    ⟨some 24, .iaddrA 1024 1 (.t 23) (.t 21), none⟩,
    ⟨some 25, .load false 1 (.t 24), none⟩,
    ⟨some 26, .bin .neq (.t 25) (.k (.int .i64 0)), none⟩])
  (.cond (.t 26) (.seq (.reg [⟨some 6, .mv (.k (.int .i64 8)), none⟩])
    (.ret))
    (.skip)))
  (.seq (.reg [⟨some 27, .mv (.t 0), none⟩,
    ⟨some 28, .load true 2 (.t 7), none⟩,
    ⟨some 29, .call (.k (.fn 36 [] [])) [(.t 27), (.t 28)], none⟩])
  (.seq (.reg [⟨some 6, .mv (.k (.int .i64 0)), none⟩])
  (.ret)))))))
theorem b27 : Body Try.prog 27 c27 [.tmp 6] 30 := ⟨by kernel_rfl, _, _, Try.func27, rfl, by kernel_rfl, by kernel_rfl, rfl⟩
def c28 : ACode :=
  .seq (.reg [⟨some 0, .new [(.int .i64 0), (.int .i64 0), (.int .i64 0), .nils], none⟩])
  (.seq (.reg [⟨some 1, .build [(.int .i64 0), (.int .i64 0)] [(0, 1, (.k (.int .i64 5))), (1, 1, (.k (.int .i64 3)))], none⟩,
    ⟨some 2, .build [(.int .i64 0), (.int .i64 0)] [(0, 1, (.k (.int .i64 6))), (1, 1, (.k (.int .i64 3)))], none⟩,
    ⟨some 3, .build [(.int .i64 0), (.int .i64 0)] [(0, 1, (.k (.int .i64 2))), (1, 1, (.k (.int .i64 7)))], none⟩,
    ⟨some 4, .build [(.int .i64 0), (.int .i64 0)] [(0, 1, (.k (.int .i64 9))), (1, 1, (.k (.int .i64 12)))], none⟩,
    ⟨some 5, .bslice 2 4 [(.int .i64 0), (.int .i64 0), (.int .i64 0), (.int .i64 0), (.int .i64 0), (.int .i64 0), (.int .i64 0), (.int .i64 0)] [(0, 2, (.t 1)), (2, 2, (.t 2)), (4, 2, (.t 3)), (6, 2, (.t 4))], none⟩,
    ⟨some 6, .build [(.int .i64 0), (.int .i64 0), (.int .i64 0), .nils] [(0, 1, (.k (.int .i64 10))), (2, 1, (.k (.int .i64 1))), (3, 1, (.t 5))], none⟩,
    ⟨none, .store 4 (.t 0) (.t 6), none⟩])
  (.ret))
theorem b28 : Body Try.prog 28 c28 [.cell 0 true 4] 7 := ⟨by kernel_rfl, _, _, Try.func28, rfl, by kernel_rfl, by kernel_rfl, rfl⟩
def c29 : ACode :=
  .seq (.reg [⟨some 4, .new [(.int .i64 0), (.int .i64 0), (.int .i64 0), .nils], none⟩,
    ⟨some 5, .mv (.k (.int .i64 0)), none⟩])
  (.seq (.seq (.reg [⟨some 6, .mv (.t 0), none⟩,
    ⟨some 7, .mv (.t 1), none⟩,
    ⟨some 8, .call (.k (.fn 33 [] [])) [(.t 6), (.t 7)], none⟩,
    ⟨some 9, .un .not (.t 8), none⟩])
  (.cond (.t 9) (.seq (.reg [⟨some 10, .build [(.int .i64 0), (.int .i64 0), (.int .i64 0), .nils] [], none⟩,
      ⟨none, .store 4 (.t 4) (.t 10), none⟩,
      ⟨some 5, .mv (.k (.int .i64 2)), none⟩])
    (.ret))
    (.skip)))
  (.seq (.reg [⟨some 11, .mv (.t 0), none⟩,
    ⟨some 12, .mv (.t 1), none⟩,
    ⟨some 13, .build [(.int .i64 0), (.int .i64 0), (.int .i64 0), .nils] [(0, 1, (.t 11)), (2, 1, (.t 12))], none⟩,
    ⟨none, .store 4 (.t 4) (.t 13), none⟩,
    ⟨some 5, .mv (.k (.int .i64 0)), none⟩])
  (.ret)))
theorem b29 : Body Try.prog 29 c29 [.cell 4 true 4, .tmp 5] 14 := ⟨by kernel_rfl, _, _, Try.func29, rfl, by kernel_rfl, by kernel_rfl, rfl⟩
def c30 : ACode :=
  .seq (.reg [⟨some 6, .mv (.k (.int .i64 0)), none⟩])
  (.seq (.seq (.reg [⟨some 8, .mv (.t 0), none⟩,
    ⟨some 9, .call (.k (.fn 38 [] [])) [(.t 8)], none⟩,
    ⟨some 10, .un .not (.t 9), none⟩])
  (.cond (.t 10) (.seq (.reg [⟨some 6, .mv (.k (.int .i64 1)), none⟩])
    (.ret))
    (.skip)))
  (.seq (.seq (.reg [⟨some 11, .mv (.t 1), none⟩,
    ⟨some 12, .mv (.t 2), none⟩,
    ⟨some 13, .call (.k (.fn 42 [] [])) [(.t 11), (.t 12)], none⟩,
    ⟨some 7, .mv (.t 13), none⟩])
  (.seq (.reg [⟨some 14, .mv (.t 7), none⟩,
    ⟨some 15, .bin .neq (.t 14) (.k (.int .i64 0)), none⟩])
  (.cond (.t 15) (.seq (.reg [⟨some 16, .mv (.t 7), none⟩,
      ⟨some 6, .mv (.t 16), none⟩])
    (.ret))
    (.skip))))
  (.seq (.reg [⟨some 17, .mv (.t 0), none⟩,
    ⟨some 18, .mv (.t 0), none⟩,
    ⟨some 19, .mv (.t 1), none⟩,
    ⟨some 20, .mv (.t 2), none⟩,
    ⟨some 21, .nchk (.t 17), none⟩,
    ⟨some 22, .faddr 0 (.t 21), none⟩,
    ⟨none, .store 1 (.t 22) (.t 19), none⟩,
    ⟨some 23, .nchk (.t 18), none⟩,
    ⟨some 24, .faddr 2 (.t 23), none⟩,
    ⟨none, .store 1 (.t 24) (.t 20), none⟩])
  (.seq (.reg [⟨some 6, .mv (.k (.int .i64 0)), none⟩])
  (.ret)))))
theorem b30 : Body Try.prog 30 c30 [.tmp 6] 25 := ⟨by kernel_rfl, _, _, Try.func30, rfl, by kernel_rfl, by kernel_rfl, rfl⟩
def c31 : ACode :=
  .seq (.reg [⟨some 2, .mv (.k .nils), none⟩])
  (.seq (.reg [⟨some 3, .new [.nils], none⟩])
  (.seq (.seq (.reg [⟨some 5, .mv (.t 0), none⟩,
    ⟨some 6, .call (.k (.fn 13 [] [])) [(.t 5)], none⟩])
  (.block 0 (.rangeF (.t 6) [7] (.reg [⟨some 4, .new [(.int .i64 0), (.int .i64 0)], none⟩,
       ⟨none, .store 2 (.t 4) (.t 7), none⟩])
     (.block 1 (.seq (.reg [⟨some 8, .load false 1 (.t 3), none⟩,
        ⟨some 9, .load true 2 (.t 4), none⟩,
        ⟨some 10, .bslice 2 1 [(.int .i64 0), (.int .i64 0)] [(0, 2, (.t 9))], none⟩,
        ⟨some 11, .append 2 16 (.t 8) (.t 10), none⟩,
        ⟨none, .store 1 (.t 3) (.t 11), none⟩])
      (.seq (.reg [⟨some 12, .load false 1 (.t 3), none⟩,
        ⟨some 13, .len (.t 12), none⟩,
        ⟨some 14, .bin .gtr (.t 13) (.k (.int .i64 1024)), none⟩])
      (.cond (.t 14) (.exit 0)
        (.skip))))))))
  (.seq (.reg [⟨some 15, .load false 1 (.t 3), none⟩,
    ⟨some 2, .mv (.t 15), none⟩])
  (.ret))))
theorem b31 : Body Try.prog 31 c31 [.tmp 2] 16 := ⟨by kernel_rfl, _, _, Try.func31, rfl, by kernel_rfl, by kernel_rfl, rfl⟩
def c32 : ACode :=
  .seq (.reg [⟨some 5, .box (.t 2), none⟩,
    ⟨some 6, .mv (.k (.bool false)), none⟩])
  (.seq (.reg [⟨some 7, .mv (.k (.int .i64 0)), none⟩,
    ⟨some 8, .mv (.k (.int .i64 0)), none⟩])
  (.seq (.seq (.reg [⟨some 22, .faddr 0 (.t 5), none⟩,
    ⟨some 23, .load false 1 (.t 22), none⟩,
    ⟨some 24, .bin .rem (.t 23) (.k (.int .u8 8)), none⟩])
  (.block 0 (.seq (.reg [⟨some 45, .bin .eql (.t 24) (.k (.int .u8 3)), none⟩,
     ⟨some 44, .mv (.t 45), none⟩])
   (.cond (.t 44) (.seq (.reg [⟨some 47, .mv (.t 0), none⟩,
       ⟨some 48, .faddr 1 (.t 5), none⟩,
       ⟨some 49, .load false 1 (.t 48), none⟩,
       ⟨some 50, .call (.k (.fn 14 [] [])) [(.t 47), (.t 49)], none⟩,
       ⟨some 46, .mv (.t 50), none⟩,
       ⟨some 51, .ext (.t 46) 0, none⟩,
       ⟨some 52, .ext (.t 46) 1, none⟩,
       ⟨some 9, .mv (.t 51), none⟩,
       ⟨some 10, .mv (.t 52), none⟩])
     (.seq (.regD [⟨some 54, .mv (.t 1), none⟩,
       ⟨some 55, .nchk (.t 54), none⟩,
       ⟨some 56, .load true 4 (.t 55), none⟩,
       ⟨some 57, .faddr 1 (.t 5), none⟩,
       ⟨some 58, .load false 1 (.t 57), none⟩,
       ⟨some 59, .call (.k (.fn 49 [] [])) [(.t 56), (.t 58)], none⟩,
       ⟨some 53, .mv (.t 59), none⟩,
       ⟨some 60, .ext (.t 53) 0, none⟩,
       ⟨some 61, .ext (.t 53) 1, none⟩,
       ⟨some 62, .ext (.t 53) 2, none⟩,
       ⟨some 11, .new [(.int .i64 0), (.int .i64 0), (.int .i64 0), .nils], none⟩,
       ⟨none, .store 4 (.t 11) (.t 60), none⟩,
       ⟨some 12, .mv (.t 61), none⟩,
       ⟨some 13, .mv (.t 62), none⟩] [[], [0], [1], [], [3], [2, 4], [5], [6], [6], [6], [], [10, 7, 5, 0, 1, 2, 3, 4, 5, 6, 7, 10], [8, 11, 0, 1, 2, 3, 4, 5, 6, 7, 8, 10, 11], [9, 12, 0, 1, 2, 3, 4, 5, 6, 7, 8, 9, 10, 11, 12]])
     (.seq (.reg [⟨some 63, .mv (.t 1), none⟩,
       ⟨some 64, .load true 4 (.t 11), none⟩,
       ⟨some 65, .nchk (.t 63), none⟩,
       ⟨none, .store 4 (.t 65) (.t 64), none⟩])
     (.seq (.reg [⟨some 66, .mv (.t 9), none⟩,
       ⟨some 67, .mv (.t 12), none⟩,
       ⟨some 68, .bin .eql (.t 66) (.t 67), none⟩,
       ⟨some 69, .mv (.t 68), none⟩,
       ⟨some 70, .mv (.t 10), some (69, true)⟩,
       ⟨some 71, .mv (.t 13), some (69, true)⟩,
       ⟨some 72, .bin .eql (.t 70) (.t 71), some (69, true)⟩,
       ⟨some 73, .pick (.t 69) (.t 72) (.k (.bool false)), none⟩,
       ⟨some 6, .mv (.t 73), none⟩])
     (.ret)))))
     (.seq (.reg [⟨some 75, .bin .eql (.t 24) (.k (.int .u8 4)), none⟩,
       ⟨some 74, .mv (.t 75), none⟩])
     (.cond (.t 74) (.seq (.reg [⟨some 77, .mv (.t 0), none⟩,
         ⟨some 78, .faddr 3 (.t 5), none⟩,
         ⟨some 79, .load false 1 (.t 78), none⟩,
         ⟨some 80, .call (.k (.fn 21 [] [])) [(.t 77), (.t 79)], none⟩,
         ⟨some 76, .mv (.t 80), none⟩,
         ⟨some 81, .ext (.t 76) 0, none⟩,
         ⟨some 82, .ext (.t 76) 1, none⟩,
         ⟨some 14, .mv (.t 81), none⟩,
         ⟨some 15, .mv (.t 82), none⟩])
       (.seq (.regD [⟨some 84, .mv (.t 1), none⟩,
         ⟨some 85, .nchk (.t 84), none⟩,
         ⟨some 86, .load true 4 (.t 85), none⟩,
         ⟨some 87, .faddr 3 (.t 5), none⟩,
         ⟨some 88, .load false 1 (.t 87), none⟩,
         ⟨some 89, .call (.k (.fn 50 [] [])) [(.t 86), (.t 88)], none⟩,
         ⟨some 83, .mv (.t 89), none⟩,
         ⟨some 90, .ext (.t 83) 0, none⟩,
         ⟨some 91, .ext (.t 83) 1, none⟩,
         ⟨some 16, .mv (.t 90), none⟩,
         ⟨some 17, .mv (.t 91), none⟩] [[], [0], [1], [], [3], [2, 4], [5], [6], [6], [7, 5, 0, 1, 2, 3, 4, 5, 6, 7], [8, 9, 0, 1, 2, 3, 4, 5, 6, 7, 8, 9]])
       (.seq (.reg [⟨some 92, .mv (.t 14), none⟩,
         ⟨some 93, .mv (.t 16), none⟩,
         ⟨some 94, .call (.k (.fn 24 [] [])) [(.t 92), (.t 93)], none⟩,
         ⟨some 95, .mv (.t 94), none⟩,
         ⟨some 96, .mv (.t 15), some (95, true)⟩,
         ⟨some 97, .mv (.t 17), some (95, true)⟩,
         ⟨some 98, .bin .eql (.t 96) (.t 97), some (95, true)⟩,
         ⟨some 99, .pick (.t 95) (.t 98) (.k (.bool false)), none⟩,
         ⟨some 6, .mv (.t 99), none⟩])
       (.ret))))
       (.seq (.reg [⟨some 101, .bin .eql (.t 24) (.k (.int .u8 5)), none⟩,
         ⟨some 100, .mv (.t 101), none⟩])
       (.cond (.t 100) (.seq (.reg [⟨some 103, .mv (.t 0), none⟩,
           ⟨some 104, .faddr 2 (.t 5), none⟩,
           ⟨some 105, .load false 1 (.t 104), none⟩,
           ⟨some 106, .faddr 1 (.t 5), none⟩,
           ⟨some 107, .load false 1 (.t 106), none⟩,
           ⟨some 108, .call (.k (.fn 25 [] [])) [(.t 103), (.t 105), (.t 107)], none⟩,
           ⟨some 102, .mv (.t 108), none⟩,
           ⟨some 109, .ext (.t 102) 0, none⟩,
           ⟨some 110, .ext (.t 102) 1, none⟩,
           ⟨some 18, .mv (.t 109), none⟩,
           ⟨some 19, .mv (.t 110), none⟩])
         (.seq (.regD [⟨some 112, .mv (.t 1), none⟩,
           ⟨some 113, .nchk (.t 112), none⟩,
           ⟨some 114, .load true 4 (.t 113), none⟩,
           ⟨some 115, .faddr 2 (.t 5), none⟩,
           ⟨some 116, .load false 1 (.t 115), none⟩,
           ⟨some 117, .faddr 1 (.t 5), none⟩,
           ⟨some 118, .load false 1 (.t 117), none⟩,
           ⟨some 119, .call (.k (.fn 51 [] [])) [(.t 114), (.t 116), (.t 118)], none⟩,
           ⟨some 111, .mv (.t 119), none⟩,
           ⟨some 120, .ext (.t 111) 0, none⟩,
           ⟨some 121, .ext (.t 111) 1, none⟩,
           ⟨some 20, .mv (.t 120), none⟩,
           ⟨some 21, .mv (.t 121), none⟩] [[], [0], [1], [], [3], [], [5], [2, 4, 6], [7], [8], [8], [9, 7, 0, 1, 2, 3, 4, 5, 6, 7, 8, 9], [10, 11, 0, 1, 2, 3, 4, 5, 6, 7, 8, 9, 10, 11]])
         (.seq (.reg [⟨some 122, .mv (.t 18), none⟩,
           ⟨some 123, .mv (.t 20), none⟩,
           ⟨some 124, .call (.k (.fn 24 [] [])) [(.t 122), (.t 123)], none⟩,
           ⟨some 125, .mv (.t 124), none⟩,
           ⟨some 126, .mv (.t 19), some (125, true)⟩,
           ⟨some 127, .mv (.t 21), some (125, true)⟩,
           ⟨some 128, .bin .eql (.t 126) (.t 127), some (125, true)⟩,
           ⟨some 129, .pick (.t 125) (.t 128) (.k (.bool false)), none⟩,
           ⟨some 6, .mv (.t 129), none⟩])
         (.ret))))
         (.seq (.reg [⟨some 131, .bin .eql (.t 24) (.k (.int .u8 6)), none⟩,
           ⟨some 130, .mv (.t 131), none⟩])
         (.cond (.t 130) (.seq (.reg [⟨some 132, .mv (.t 0), none⟩,
             ⟨some 133, .faddr 1 (.t 5), none⟩,
             ⟨some 134, .load false 1 (.t 133), none⟩,
             ⟨some 135, .faddr 4 (.t 5), none⟩,
             ⟨some 136, .load false 1 (.t 135), none⟩,
             ⟨some 137, .call (.k (.fn 23 [] [])) [(.t 132), (.t 134), (.t 136)], none⟩,
             ⟨some 7, .mv (.t 137), none⟩])
           (.regD [⟨some 139, .mv (.t 1), none⟩,
             ⟨some 140, .mv (.t 1), none⟩,
             ⟨some 141, .nchk (.t 140), none⟩,
             ⟨some 142, .load true 4 (.t 141), none⟩,
             ⟨some 143, .faddr 1 (.t 5), none⟩,
             ⟨some 144, .load false 1 (.t 143), none⟩,
             ⟨some 145, .faddr 4 (.t 5), none⟩,
             ⟨some 146, .load false 1 (.t 145), none⟩,
             ⟨some 147, .call (.k (.fn 52 [] [])) [(.t 142), (.t 144), (.t 146)], none⟩,
             ⟨some 138, .mv (.t 147), none⟩,
             ⟨some 148, .ext (.t 138) 0, none⟩,
             ⟨some 149, .ext (.t 138) 1, none⟩,
             ⟨some 150, .nchk (.t 139), none⟩,
             ⟨none, .store 4 (.t 150) (.t 148), none⟩,
             ⟨some 8, .mv (.t 149), none⟩] [[], [], [1], [2], [], [4], [], [6], [3, 5, 7], [8], [9], [9], [0, 0, 1, 2, 3, 4, 5, 6, 7, 8, 9, 10], [12, 10, 8, 0, 1, 2, 3, 4, 5, 6, 7, 8, 9, 10], [11, 13, 0, 1, 2, 3, 4, 5, 6, 7, 8, 9, 10, 11, 12, 13]]))
           (.seq (.reg [⟨some 152, .bin .eql (.t 24) (.k (.int .u8 7)), none⟩,
             ⟨some 151, .mv (.t 152), none⟩])
           (.cond (.t 151) (.seq (.reg [⟨some 153, .mv (.t 0), none⟩,
               ⟨some 154, .faddr 3 (.t 5), none⟩,
               ⟨some 155, .load false 1 (.t 154), none⟩,
               ⟨some 156, .faddr 2 (.t 5), none⟩,
               ⟨some 157, .load false 1 (.t 156), none⟩,
               ⟨some 158, .call (.k (.fn 30 [] [])) [(.t 153), (.t 155), (.t 157)], none⟩,
               ⟨some 7, .mv (.t 158), none⟩])
             (.regD [⟨some 160, .mv (.t 1), none⟩,
               ⟨some 161, .mv (.t 1), none⟩,
               ⟨some 162, .nchk (.t 161), none⟩,
               ⟨some 163, .load true 4 (.t 162), none⟩,
               ⟨some 164, .faddr 3 (.t 5), none⟩,
               ⟨some 165, .load false 1 (.t 164), none⟩,
               ⟨some 166, .faddr 2 (.t 5), none⟩,
               ⟨some 167, .load false 1 (.t 166), none⟩,
               ⟨some 168, .call (.k (.fn 53 [] [])) [(.t 163), (.t 165), (.t 167)], none⟩,
               ⟨some 159, .mv (.t 168), none⟩,
               ⟨some 169, .ext (.t 159) 0, none⟩,
               ⟨some 170, .ext (.t 159) 1, none⟩,
               ⟨some 171, .nchk (.t 160), none⟩,
               ⟨none, .store 4 (.t 171) (.t 169), none⟩,
               ⟨some 8, .mv (.t 170), none⟩] [[], [], [1], [2], [], [4], [], [6], [3, 5, 7], [8], [9], [9], [0, 0, 1, 2, 3, 4, 5, 6, 7, 8, 9, 10], [12, 10, 8, 0, 1, 2, 3, 4, 5, 6, 7, 8, 9, 10], [11, 13, 0, 1, 2, 3, 4, 5, 6, 7, 8, 9, 10, 11, 12, 13]]))
             (.seq (.reg [⟨some 25, .mv (.t 0), none⟩,
               ⟨some 26, .faddr 1 (.t 5), none⟩,
               ⟨some 27, .load false 1 (.t 26), none⟩,
               ⟨some 28, .faddr 3 (.t 5), none⟩,
               ⟨some 29, .load false 1 (.t 28), none⟩,
               ⟨some 30, .call (.k (.fn 27 [] [])) [(.t 25), (.t 27), (.t 29)], none⟩,
               ⟨some 7, .mv (.t 30), none⟩])
             (.regD [⟨some 32, .mv (.t 1), none⟩,
               ⟨some 33, .mv (.t 1), none⟩,
               ⟨some 34, .nchk (.t 33), none⟩,
               ⟨some 35, .load true 4 (.t 34), none⟩,
               ⟨some 36, .faddr 1 (.t 5), none⟩,
               ⟨some 37, .load false 1 (.t 36), none⟩,
               ⟨some 38, .faddr 3 (.t 5), none⟩,
               ⟨some 39, .load false 1 (.t 38), none⟩,
               ⟨some 40, .call (.k (.fn 54 [] [])) [(.t 35), (.t 37), (.t 39)], none⟩,
               ⟨some 31, .mv (.t 40), none⟩,
               ⟨some 41, .ext (.t 31) 0, none⟩,
               ⟨some 42, .ext (.t 31) 1, none⟩,
               ⟨some 43, .nchk (.t 32), none⟩,
               ⟨none, .store 4 (.t 43) (.t 41), none⟩,
               ⟨some 8, .mv (.t 42), none⟩] [[], [], [1], [2], [], [4], [], [6], [3, 5, 7], [8], [9], [9], [0, 0, 1, 2, 3, 4, 5, 6, 7, 8, 9, 10], [12, 10, 8, 0, 1, 2, 3, 4, 5, 6, 7, 8, 9, 10], [11, 13, 0, 1, 2, 3, 4, 5, 6, 7, 8, 9, 10, 11, 12, 13]]))))))))))))))
  (.seq (.reg [⟨some 172, .mv (.t 7), none⟩,
    ⟨some 173, .mv (.t 8), none⟩,
    ⟨some 174, .bin .eql (.t 172) (.t 173), none⟩,
    ⟨some 6, .mv (.t 174), none⟩])
  (.ret))))
theorem b32 : Body Try.prog 32 c32 [.tmp 6] 175 := ⟨by kernel_rfl, _, _, Try.func32, rfl, by kernel_rfl, by kernel_rfl, rfl⟩
def c33 : ACode :=
  .seq (.reg [⟨some 4, .mv (.k (.bool false)), none⟩])
  (.seq (.reg [⟨some 5, .mv (.t 0), none⟩,
    ⟨some 6, .bin .geq (.t 5) (.k (.int .i64 0)), none⟩,
    ⟨some 7, .mv (.t 6), none⟩,
    ⟨some 8, .mv (.t 0), some (7, true)⟩,
    ⟨some 9, .bin .leq (.t 8) (.k (.int .i64 1000000000000)), some (7, true)⟩,
    ⟨some 10, .pick (.t 7) (.t 9) (.k (.bool false)), none⟩,
    ⟨some 11, .mv (.t 10), none⟩,
    ⟨some 12, .mv (.t 1), some (11, true)⟩,
    ⟨some 13, .bin .geq (.t 12) (.k (.int .i64 0)), some (11, true)⟩,
    ⟨some 14, .pick (.t 11) (.t 13) (.k (.bool false)), none⟩,
    ⟨some 15, .mv (.t 14), none⟩,
    ⟨some 16, .mv (.t 1), some (15, true)⟩,
    ⟨some 17, .bin .leq (.t 16) (.k (.int .i64 1024)), some (15, true)⟩,
    ⟨some 18, .pick (.t 15) (.t 17) (.k (.bool false)), none⟩,
    ⟨some 4, .mv (.t 18), none⟩])
  (.ret))
theorem b33 : Body Try.prog 33 c33 [.tmp 4] 19 := ⟨by kernel_rfl, _, _, Try.func33, rfl, by kernel_rfl, by kernel_rfl, rfl⟩
def c34 : ACode :=
  .seq (.reg [⟨some 1, .box (.t 0), none⟩,
    ⟨some 2, .mv (.k (.bool false)), none⟩])
  (.seq (.reg [⟨some 3, .faddr 0 (.t 1), none⟩,
    ⟨some 4, .load false 1 (.t 3), none⟩,
    ⟨some 5, .bin .geq (.t 4) (.k (.int .i64 0)), none⟩,
    ⟨some 6, .mv (.t 5), none⟩,
    ⟨some 7, .faddr 0 (.t 1), some (6, true)⟩,
    ⟨some 8, .load false 1 (.t 7), some (6, true)⟩,
    ⟨some 9, .bin .lss (.t 8) (.k (.int .i64 1024)), some (6, true)⟩,
    ⟨some 10, .pick (.t 6) (.t 9) (.k (.bool false)), none⟩,
    ⟨some 11, .mv (.t 10), none⟩,
    ⟨some 12, .faddr 1 (.t 1), some (11, true)⟩,
    ⟨some 13, .load false 1 (.t 12), some (11, true)⟩,
    ⟨some 14, .bin .geq (.t 13) (.k (.int .i64 0)), some (11, true)⟩,
    ⟨some 15, .pick (.t 11) (.t 14) (.k (.bool false)), none⟩,
    ⟨some 16, .mv (.t 15), none⟩,
    ⟨some 17, .faddr 1 (.t 1), some (16, true)⟩,
    ⟨some 18, .load false 1 (.t 17), some (16, true)⟩,
    ⟨some 19, .bin .leq (.t 18) (.k (.int .i64 1000000000000)), some (16, true)⟩,
    ⟨some 20, .pick (.t 16) (.t 19) (.k (.bool false)), none⟩,
    ⟨some 2, .mv (.t 20), none⟩])
  (.ret))
theorem b34 : Body Try.prog 34 c34 [.tmp 2] 21 := ⟨by kernel_rfl, _, _, Try.func34, rfl, by kernel_rfl, by kernel_rfl, rfl⟩
def c35 : ACode :=
  .seq (.reg [⟨some 2, .box (.t 0), none⟩,
    ⟨some 3, .box (.t 1), none⟩,
    ⟨some 4, .mv (.k (.bool false)), none⟩])
  (.seq (.reg [⟨some 5, .faddr 1 (.t 2), none⟩,
    ⟨some 6, .load false 1 (.t 5), none⟩,
    ⟨some 7, .faddr 1 (.t 3), none⟩,
    ⟨some 8, .load false 1 (.t 7), none⟩,
    ⟨some 9, .bin .lss (.t 6) (.t 8), none⟩,
    ⟨some 10, .mv (.t 9), none⟩,
    ⟨some 11, .faddr 1 (.t 2), some (10, false)⟩,
    ⟨some 12, .load false 1 (.t 11), some (10, false)⟩,
    ⟨some 13, .faddr 1 (.t 3), some (10, false)⟩,
    ⟨some 14, .load false 1 (.t 13), some (10, false)⟩,
    ⟨some 15, .bin .eql (.t 12) (.t 14), some (10, false)⟩,
    ⟨some 16, .mv (.t 15), some (10, false)⟩,
    ⟨some 17, .faddr 0 (.t 2), some (16, true)⟩,
    ⟨some 18, .load false 1 (.t 17), some (16, true)⟩,
    ⟨some 19, .faddr 0 (.t 3), some (16, true)⟩,
    ⟨some 20, .load false 1 (.t 19), some (16, true)⟩,
    ⟨some 21, .bin .lss (.t 18) (.t 20), some (16, true)⟩,
    ⟨some 22, .pick (.t 16) (.t 21) (.k (.bool false)), some (10, false)⟩,
    ⟨some 23, .pick (.t 10) (.k (.bool true)) (.t 22), none⟩,
    ⟨some 4, .mv (.t 23), none⟩])
  (.ret))
theorem b35 : Body Try.prog 35 c35 [.tmp 4] 24 := ⟨by kernel_rfl, _, _, Try.func35, rfl, by kernel_rfl, by kernel_rfl, rfl⟩
def c36 : ACode :=
  .seq (.reg [⟨some 3, .box (.t 1), none⟩])
  (.seq (.reg [⟨some 9, .mv (.t 0), none⟩,
    ⟨some 10, .nchk (.t 9), none⟩,
    ⟨some 11, .faddr 4 (.t 10), none⟩,
    ⟨some 12, .load false 1 (.t 11), none⟩,
    ⟨some 13, .call (.k (.fn 55 [] [])) [(.t 12), (.k (.int .i64 0)), (.k (.bool false))], none⟩,
    ⟨some 8, .mv (.t 13), none⟩,
    ⟨some 14, .ext (.t 8) 0, none⟩,
    ⟨some 15, .ext (.t 8) 1, none⟩,
    ⟨some 4, .mv (.t 14), none⟩,
    ⟨some 5, .mv (.t 15), none⟩])
  (.seq (.block 0 (.loop (.seq (.seq (.reg [⟨some 16, .mv (.t 5), none⟩,
      ⟨some 17, .bin .eql (.t 16) (.k (.int .i64 0)), none⟩])
    (.cond (.t 17) (.skip)
      (.exit 0)))
    (.block 1 (.seq (.reg [⟨some 19, .mv (.t 0), none⟩,
       ⟨some 20, .nchk (.t 19), none⟩,
       ⟨some 21, .faddr 4 (.t 20), none⟩,
       ⟨some 22, .load false 1 (.t 21), none⟩,
       ⟨some 23, .mv (.t 4), none⟩,
       ⟨some 24, .call (.k (.fn 56 [] [])) [(.t 22), (.t 23)], none⟩,
       ⟨some 18, .mv (.t 24), none⟩,
       ⟨some 25, .ext (.t 18) 0, none⟩,
       ⟨some 26, .ext (.t 18) 1, none⟩,
       ⟨some 6, .new [(.int .i64 0), (.int .i64 0)], none⟩,
       ⟨none, .store 2 (.t 6) (.t 25), none⟩,
       ⟨some 7, .mv (.t 26), none⟩])
     (.seq (.seq (.reg [⟨some 27, .load true 2 (.t 6), none⟩,
       ⟨some 28, .load true 2 (.t 3), none⟩,
       ⟨some 29, .call (.k (.fn 44 [] [])) [(.t 27), (.t 28)], none⟩,
       ⟨some 30, .bin .lss (.t 29) (.k (.int .i64 0)), none⟩])
     (.cond (.t 30) (.exit 0)
       (.skip)))
     (.reg [⟨some 32, .mv (.t 0), none⟩,
       ⟨some 33, .nchk (.t 32), none⟩,
       ⟨some 34, .faddr 4 (.t 33), none⟩,
       ⟨some 35, .load false 1 (.t 34), none⟩,
       ⟨some 36, .mv (.t 4), none⟩,
       ⟨some 37, .call (.k (.fn 57 [] [])) [(.t 35), (.t 36), (.k (.bool true))], none⟩,
       ⟨some 31, .mv (.t 37), none⟩,
       ⟨some 38, .ext (.t 31) 0, none⟩,
       ⟨some 39, .ext (.t 31) 1, none⟩,
       ⟨some 4, .mv (.t 38), none⟩,
       ⟨some 5, .mv (.t 39), none⟩])))))))
  (.seq (.seq (.reg [⟨some 40, .mv (.t 5), none⟩,
    ⟨some 41, .bin .eql (.t 40) (.k (.int .i64 0)), none⟩])
  (.cond (.t 41) (.regD [⟨some 43, .mv (.t 0), none⟩,
      ⟨some 44, .nchk (.t 43), none⟩,
      ⟨some 45, .faddr 4 (.t 44), none⟩,
      ⟨some 46, .load false 1 (.t 45), none⟩,
      ⟨some 47, .mv (.t 4), none⟩,
      ⟨some 48, .load true 2 (.t 3), none⟩,
      ⟨some 49, .call (.k (.fn 58 [] [])) [(.t 46), (.t 47), (.t 48)], none⟩,
      ⟨some 42, .mv (.t 49), none⟩,
      ⟨some 50, .ext (.t 42) 0, none⟩,
      ⟨some 51, .ext (.t 42) 1, none⟩,
      ⟨some 4, .mv (.t 50), none⟩] [[], [0], [1], [2], [], [], [3, 4, 5], [6], [7], [7], [8, 6, 0, 1, 2, 3, 4, 5, 6, 7, 8]])
    (.regD [⟨some 53, .mv (.t 0), none⟩,
      ⟨some 54, .nchk (.t 53), none⟩,
      ⟨some 55, .faddr 4 (.t 54), none⟩,
      ⟨some 56, .load false 1 (.t 55), none⟩,
      ⟨some 57, .load true 2 (.t 3), none⟩,
      ⟨some 58, .call (.k (.fn 59 [] [])) [(.t 56), (.k (.int .i64 0)), (.t 57), (.k (.bool true))], none⟩,
      ⟨some 52, .mv (.t 58), none⟩,
      ⟨some 59, .ext (.t 52) 0, none⟩,
      ⟨some 60, .ext (.t 52) 1, none⟩,
      ⟨some 4, .mv (.t 59), none⟩] [[], [0], [1], [2], [], [3, 4], [5], [6], [6], [7, 5, 0, 1, 2, 3, 4, 5, 6, 7]])))
  (.seq (.regD [⟨some 61, .mv (.t 0), none⟩,
    ⟨some 62, .faddr 0 (.t 3), none⟩,
    ⟨some 63, .load false 1 (.t 62), none⟩,
    ⟨some 64, .mv (.t 4), none⟩,
    ⟨some 65, .bin .add (.t 64) (.k (.int .i64 1)), none⟩,
    ⟨some 66, .nchk (.t 61), none⟩,
    ⟨some 67, .faddr 5 (.t 66), none⟩,
    ⟨some 68, .iaddrA 1024 1 (.t 67) (.t 63), none⟩,
    ⟨none, .store 1 (.t 68) (.t 65), none⟩] [[], [], [1], [], [3], [0], [5], [6, 2, 0, 1, 2, 3, 4], [7, 4, 0, 1, 2, 3, 4]])
  (.reg [⟨some 69, .mv (.t 0), none⟩,
    ⟨some 70, .nchk (.t 69), none⟩,
    ⟨some 71, .faddr 3 (.t 70), none⟩,
    ⟨some 72, .load false 1 (.t 71), none⟩,
    ⟨some 73, .bin .add (.t 72) (.k (.int .i64 1)), none⟩,
    ⟨some 74, .nchk (.t 69), none⟩,
    ⟨some 75, .faddr 3 (.t 74), none⟩,
    ⟨none, .store 1 (.t 75) (.t 73), none⟩])))))
theorem b36 : Body Try.prog 36 c36 [] 76 := ⟨by kernel_rfl, _, _, Try.func36, rfl, by kernel_rfl, by kernel_rfl, rfl⟩
def c37 : ACode :=
  .seq (.reg [⟨some 2, .box (.t 0), none⟩])
  (.seq (.seq (.reg [⟨some 5, .load false 1 (.t 1), none⟩,
    ⟨some 6, .call (.k (.fn 38 [] [])) [(.t 5)], none⟩,
    ⟨some 7, .un .not (.t 6), none⟩])
  (.cond (.t 7) (.ret)
    (.skip)))
  (.seq (.reg [⟨some 8, .load false 1 (.t 1), none⟩,
    ⟨some 9, .nchk (.t 8), none⟩,
    ⟨some 10, .faddr 4 (.t 9), none⟩,
    ⟨some 11, .load false 1 (.t 10), none⟩,
    ⟨some 12, .call (.k (.fn 39 [] [])) [(.t 11), (.k (.int .i64 0)), (.k (.bool false))], none⟩])
  (.block 0 (.rangeF (.t 12) [13, 14] (.reg [⟨some 4, .new [(.int .i64 0), (.int .i64 0)], none⟩,
       ⟨none, .store 2 (.t 4) (.t 14), none⟩])
     (.block 1 (.seq (.reg [⟨some 15, .load false 1 (.t 2), none⟩,
        ⟨some 16, .load true 2 (.t 4), none⟩,
        ⟨some 17, .call (.t 15) [(.t 16)], none⟩,
        ⟨some 18, .un .not (.t 17), none⟩])
      (.cond (.t 18) (.ret)
        (.skip))))))))
theorem b37 : Body Try.prog 37 c37 [] 19 := ⟨by kernel_rfl, _, _, Try.func37, rfl, by kernel_rfl, by kernel_rfl, rfl⟩
def c38 : ACode :=
  .seq (.reg [⟨some 2, .mv (.k (.bool false)), none⟩])
  (.seq (.reg [⟨some 3, .mv (.t 0), none⟩,
    ⟨some 4, .eqp true false (.t 3) (.k .nilp), none⟩,
    ⟨some 5, .mv (.t 4), none⟩,
    ⟨some 6, .mv (.t 0), some (5, true)⟩,
    ⟨some 7, .nchk (.t 6), some (5, true)⟩,
    ⟨some 8, .faddr 4 (.t 7), some (5, true)⟩,
    ⟨some 9, .load false 1 (.t 8), some (5, true)⟩,
    ⟨some 10, .eqp true false (.t 9) (.k .nilp), some (5, true)⟩,
    ⟨some 11, .pick (.t 5) (.t 10) (.k (.bool false)), none⟩,
    ⟨some 2, .mv (.t 11), none⟩])
  (.ret))
theorem b38 : Body Try.prog 38 c38 [.tmp 2] 12 := ⟨by kernel_rfl, _, _, Try.func38, rfl, by kernel_rfl, by kernel_rfl, rfl⟩
def c39 : ACode :=
  .seq (.reg [⟨some 3, .box (.t 0), none⟩,
    ⟨some 4, .box (.t 1), none⟩,
    ⟨some 5, .box (.t 2), none⟩,
    ⟨some 6, .mv (.k .nilf), none⟩])
  (.seq (.reg [⟨some 7, .mkfn 60 [] [(.t 3), (.t 4), (.t 5)], none⟩,
    ⟨some 6, .mv (.t 7), none⟩])
  (.ret))
theorem b39 : Body Try.prog 39 c39 [.tmp 6] 8 := ⟨by kernel_rfl, _, _, Try.func39, rfl, by kernel_rfl, by kernel_rfl, rfl⟩
def c40 : ACode :=
  .seq (.reg [⟨some 4, .mv (.k (.int .i64 0)), none⟩,
    ⟨some 5, .mv (.k (.int .i64 0)), none⟩])
  (.seq (.block 0 (.seq (.reg [⟨some 7, .mv (.t 0), none⟩,
     ⟨some 8, .call (.k (.fn 38 [] [])) [(.t 7)], none⟩,
     ⟨some 9, .un .not (.t 8), none⟩,
     ⟨some 6, .mv (.t 9), none⟩])
   (.cond (.t 6) (.seq (.reg [⟨some 4, .mv (.k (.int .i64 0)), none⟩,
       ⟨some 5, .mv (.k (.int .i64 1)), none⟩])
     (.ret))
     (.seq (.reg [⟨some 11, .mv (.t 1), none⟩,
       ⟨some 12, .bin .lss (.t 11) (.k (.int .i64 0)), none⟩,
       ⟨some 13, .mv (.t 12), none⟩,
       ⟨some 14, .mv (.t 1), some (13, false)⟩,
       ⟨some 15, .bin .geq (.t 14) (.k (.int .i64 1024)), some (13, false)⟩,
       ⟨some 16, .pick (.t 13) (.k (.bool true)) (.t 15), none⟩,
       ⟨some 17, .mv (.t 16), none⟩,
       ⟨some 18, .mv (.t 0), some (17, false)⟩,
       ⟨some 19, .mv (.t 1), some (17, false)⟩,
       ⟨some 20, .nchk (.t 18), some (17, false)⟩,
       ⟨some 21, .faddr 5 (.t 20), some (17, false)⟩,
       ⟨some 22, .iaddrA 1024 1 (.t 21) (.t 19), some (17, false)⟩,
       ⟨some 23, .load false 1 (.t 22), some (17, false)⟩,
       ⟨some 24, .bin .eql (.t 23) (.k (.int .i64 0)), some (17, false)⟩,
       ⟨some 25, .pick (.t 17) (.k (.bool true)) (.t 24), none⟩,
       ⟨some 10, .mv (.t 25), none⟩])
     (.cond (.t 10) (.seq (.reg [⟨some 4, .mv (.k (.int .i64 0)), none⟩,
         ⟨some 5, .mv (.k (.int .i64 4)), none⟩])
       (.ret))
       (.skip))))))
  (.seq (.reg [⟨some 26, .mv (.t 0), none⟩,
    ⟨some 27, .mv (.t 1), none⟩,
    ⟨some 28, .nchk (.t 26), none⟩,
    ⟨some 29, .faddr 5 (.t 28), none⟩,
    ⟨some 30, .iaddrA 1024 1 (.t 29) (.t 27), none⟩,
    ⟨some 31, .load false 1 (.t 30), none⟩,
    ⟨some 32, .bin .sub (.t 31) (.k (.int .i64 1)), none⟩,
    ⟨some 4, .mv (.t 32), none⟩,
    ⟨some 5, .mv (.k (.int .i64 0)), none⟩])
  (.ret)))
theorem b40 : Body Try.prog 40 c40 [.tmp 4, .tmp 5] 33 := ⟨by kernel_rfl, _, _, Try.func40, rfl, by kernel_rfl, by kernel_rfl, rfl⟩
def c41 : ACode :=
  .seq (.reg [⟨some 4, .new [(.int .i64 0), (.int .i64 0)], none⟩,
    ⟨some 5, .mv (.k (.int .i64 0)), none⟩])
  (.seq (.seq (.reg [⟨some 7, .mv (.t 0), none⟩,
    ⟨some 8, .mv (.t 1), none⟩,
    ⟨some 9, .call (.k (.fn 62 [] [])) [(.t 7), (.t 8)], none⟩,
    ⟨some 6, .mv (.t 9), none⟩])
  (.seq (.reg [⟨some 10, .mv (.t 6), none⟩,
    ⟨some 11, .bin .neq (.t 10) (.k (.int .i64 0)), none⟩])
  (.cond (.t 11) (.seq (.reg [⟨some 12, .load true 2 (.t 4), none⟩,
      ⟨some 13, .mv (.t 6), none⟩,
      ⟨none, .store 2 (.t 4) (.t 12), none⟩,
      ⟨some 5, .mv (.t 13), none⟩])
    (.ret))
    (.skip))))
  (.seq (.reg [⟨some 14, .mv (.t 0), none⟩,
    ⟨some 15, .mv (.t 1), none⟩,
    ⟨some 16, .call (.k (.fn 63 [] [])) [(.t 14), (.t 15)], none⟩])
  (.seq (.regD [⟨some 17, .mv (.t 0), none⟩,
    ⟨some 18, .nchk (.t 17), none⟩,
    ⟨some 19, .faddr 0 (.t 18), none⟩,
    ⟨some 20, .load false 1 (.t 19), none⟩,
    ⟨some 21, .mv (.t 1), none⟩,
    ⟨some 22, .mv (.t 0), none⟩,
    ⟨some 23, .nchk (.t 22), none⟩,
    ⟨some 24, .faddr 0 (.t 23), none⟩,
    ⟨some 25, .load false 1 (.t 24), none⟩,
    ⟨some 26, .mv (.t 1), none⟩,
    ⟨some 27, .iaddrS 5 (.t 25) (.t 26), none⟩,
    ⟨some 28, .faddr 0 (.t 27), none⟩,
    ⟨some 29, .load true 2 (.t 28), none⟩,
    ⟨some 30, .load true 2 (.t 4), none⟩,
    ⟨none, .store 2 (.t 4) (.t 29), none⟩,
    ⟨some 31, .iaddrS 5 (.t 20) (.t 21), none⟩,
    ⟨some 32, .faddr 0 (.t 31), none⟩,
    ⟨none, .store 2 (.t 32) (.t 30), none⟩] [[], [0], [1], [2], [], [], [5], [6], [7], [], [8, 9], [10], [11], [], [12, 5, 6, 7, 8, 9, 10, 11, 12, 13], [3, 4, 0, 1, 2, 3, 4, 5, 6, 7, 8, 9, 10, 11, 12, 13, 14], [15, 0, 1, 2, 3, 4, 5, 6, 7, 8, 9, 10, 11, 12, 13, 14], [16, 13, 14, 0, 1, 2, 3, 4, 5, 6, 7, 8, 9, 10, 11, 12, 13, 14]])
  (.seq (.reg [⟨some 33, .mv (.t 0), none⟩,
    ⟨some 34, .mv (.t 0), none⟩,
    ⟨some 35, .nchk (.t 34), none⟩,
    ⟨some 36, .faddr 2 (.t 35), none⟩,
    ⟨some 37, .load false 1 (.t 36), none⟩,
    ⟨some 38, .mv (.t 1), none⟩,
    ⟨some 39, .minmax false (.t 37) [(.t 38)], none⟩,
    ⟨some 40, .nchk (.t 33), none⟩,
    ⟨some 41, .faddr 2 (.t 40), none⟩,
    ⟨none, .store 1 (.t 41) (.t 39), none⟩])
  (.seq (.reg [⟨some 42, .load true 2 (.t 4), none⟩,
    ⟨none, .store 2 (.t 4) (.t 42), none⟩,
    ⟨some 5, .mv (.k (.int .i64 0)), none⟩])
  (.ret))))))
theorem b41 : Body Try.prog 41 c41 [.cell 4 true 2, .tmp 5] 43 := ⟨by kernel_rfl, _, _, Try.func41, rfl, by kernel_rfl, by kernel_rfl, rfl⟩
def c42 : ACode :=
  .seq (.reg [⟨some 4, .mv (.k (.int .i64 0)), none⟩])
  (.seq (.seq (.reg [⟨some 5, .mv (.t 0), none⟩,
    ⟨some 6, .bin .lss (.t 5) (.k (.int .i64 0)), none⟩,
    ⟨some 7, .mv (.t 6), none⟩,
    ⟨some 8, .mv (.t 0), some (7, false)⟩,
    ⟨some 9, .bin .gtr (.t 8) (.k (.int .i64 1000000000000)), some (7, false)⟩,
    ⟨some 10, .pick (.t 7) (.k (.bool true)) (.t 9), none⟩,
    ⟨some 11, .mv (.t 10), none⟩,
    ⟨some 12, .mv (.t 1), some (11, false)⟩,
    ⟨some 13, .bin .lss (.t 12) (.k (.int .i64 0)), some (11, false)⟩,
    ⟨some 14, .pick (.t 11) (.k (.bool true)) (.t 13), none⟩,
    ⟨some 15, .mv (.t 14), none⟩,
    ⟨some 16, .mv (.t 1), some (15, false)⟩,
    ⟨some 17, .bin .gtr (.t 16) (.k (.int .i64 1024)), some (15, false)⟩,
    ⟨some 18, .pick (.t 15) (.k (.bool true)) (.t 17), none⟩])
  (.cond (.t 18) (.seq (.reg [⟨some 4, .mv (.k (.int .i64 2)), none⟩])
    (.ret))
    (.skip)))
  (.seq (.reg [⟨some 4, .mv (.k (.int .i64 0)), none⟩])
  (.ret)))
theorem b42 : Body Try.prog 42 c42 [.tmp 4] 19 := ⟨by kernel_rfl, _, _, Try.func42, rfl, by kernel_rfl, by kernel_rfl, rfl⟩
def c43 : ACode :=
  .seq (.reg [⟨some 1, .box (.t 0), none⟩,
    ⟨some 2, .mv (.k (.int .i64 0)), none⟩])
  (.seq (.seq (.reg [⟨some 3, .faddr 0 (.t 1), none⟩,
    ⟨some 4, .load false 1 (.t 3), none⟩,
    ⟨some 5, .bin .lss (.t 4) (.k (.int .i64 0)), none⟩,
    ⟨some 6, .mv (.t 5), none⟩,
    ⟨some 7, .faddr 0 (.t 1), some (6, false)⟩,
    ⟨some 8, .load false 1 (.t 7), some (6, false)⟩,
    ⟨some 9, .bin .geq (.t 8) (.k (.int .i64 1024)), some (6, false)⟩,
    ⟨some 10, .pick (.t 6) (.k (.bool true)) (.t 9), none⟩,
    ⟨some 11, .mv (.t 10), none⟩,
    ⟨some 12, .faddr 1 (.t 1), some (11, false)⟩,
    ⟨some 13, .load false 1 (.t 12), some (11, false)⟩,
    ⟨some 14, .bin .lss (.t 13) (.k (.int .i64 0)), some (11, false)⟩,
    ⟨some 15, .pick (.t 11) (.k (.bool true)) (.t 14), none⟩,
    ⟨some 16, .mv (.t 15), none⟩,
    ⟨some 17, .faddr 1 (.t 1), some (16, false)⟩,
    ⟨some 18, .load false 1 (.t 17), some (16, false)⟩,
    ⟨some 19, .bin .gtr (.t 18) (.k (.int .i64 1000000000000)), some (16, false)⟩,
    ⟨some 20, .pick (.t 16) (.k (.bool true)) (.t 19), none⟩])
  (.cond (.t 20) (.seq (.reg [⟨some 2, .mv (.k (.int .i64 7)), none⟩])
    (.ret))
    (.skip)))
  (.seq (.reg [⟨some 2, .mv (.k (.int .i64 0)), none⟩])
  (.ret)))
theorem b43 : Body Try.prog 43 c43 [.tmp 2] 21 := ⟨by kernel_rfl, _, _, Try.func43, rfl, by kernel_rfl, by kernel_rfl, rfl⟩
def c44 : ACode :=
  .seq (.reg [⟨some 2, .box (.t 0), none⟩,
    ⟨some 3, .box (.t 1), none⟩,
    ⟨some 4, .mv (.k (.int .i64 0)), none⟩])
  (.seq (.regD [⟨some 5, .faddr 1 (.t 2), none⟩,
    ⟨some 6, .load false 1 (.t 5), none⟩,
    ⟨some 7, .faddr 1 (.t 3), none⟩,
    ⟨some 8, .load false 1 (.t 7), none⟩,
    ⟨some 9, .call (.k (.fn 65 [] [])) [(.t 6), (.t 8)], none⟩,
    ⟨some 10, .faddr 0 (.t 2), none⟩,
    ⟨some 11, .load false 1 (.t 10), none⟩,
    ⟨some 12, .faddr 0 (.t 3), none⟩,
    ⟨some 13, .load false 1 (.t 12), none⟩,
    ⟨some 14, .call (.k (.fn 66 [] [])) [(.t 11), (.t 13)], none⟩,
    ⟨some 15, .bslice 1 2 [(.int .i64 0), (.int .i64 0)] [(0, 1, (.t 9)), (1, 1, (.t 14))], none⟩,
    ⟨some 16, .call (.k (.fn 64 [] [])) [(.t 15)], none⟩,
    ⟨some 4, .mv (.t 16), none⟩] [[], [0], [], [2], [1, 3], [], [5], [], [7], [6, 8, 4], [4, 9], [10, 9], [11, 11, 0, 1, 2, 3, 4, 5, 6, 7, 8, 9, 10, 11]])
  (.ret))
theorem b44 : Body Try.prog 44 c44 [.tmp 4] 17 := ⟨by kernel_rfl, _, _, Try.func44, rfl, by kernel_rfl, by kernel_rfl, rfl⟩
def c45 : ACode :=
  .seq (.reg [⟨some 2, .box (.t 0), none⟩,
    ⟨some 3, .box (.t 1), none⟩,
    ⟨some 4, .mv (.k .nils), none⟩])
  (.seq (.reg [⟨some 5, .new [.nils], none⟩])
  (.seq (.seq (.reg [⟨some 8, .load false 1 (.t 2), none⟩,
    ⟨some 9, .call (.k (.fn 13 [] [])) [(.t 8)], none⟩])
  (.block 0 (.rangeF (.t 9) [10] (.reg [⟨some 6, .new [(.int .i64 0), (.int .i64 0)], none⟩,
       ⟨none, .store 2 (.t 6) (.t 10), none⟩])
     (.block 1 (.seq (.regD [⟨some 11, .load false 1 (.t 3), none⟩,
        ⟨some 12, .load true 2 (.t 6), none⟩,
        ⟨some 13, .load false 1 (.t 2), none⟩,
        ⟨some 14, .nchk (.t 13), none⟩,
        ⟨some 15, .faddr 3 (.t 14), none⟩,
        ⟨some 16, .load false 1 (.t 15), none⟩,
        ⟨some 17, .load false 1 (.t 5), none⟩,
        ⟨some 18, .len (.t 17), none⟩,
        ⟨some 19, .bin .sub (.t 16) (.t 18), none⟩,
        ⟨some 20, .call (.t 11) [(.t 12), (.t 19)], none⟩,
        ⟨some 7, .mv (.t 20), none⟩] [[], [], [], [2], [3], [4], [], [6], [5, 7], [0, 1, 8], [9, 9, 0, 1, 2, 3, 4, 5, 6, 7, 8, 9]])
      (.seq (.seq (.reg [⟨some 21, .mv (.t 7), none⟩,
        ⟨some 22, .bin .eql (.t 21) (.k (.int .i64 0)), none⟩])
      (.cond (.t 22) (.exit 0)
        (.skip)))
      (.reg [⟨some 23, .load false 1 (.t 5), none⟩,
        ⟨some 24, .faddr 0 (.t 6), none⟩,
        ⟨some 25, .load false 1 (.t 24), none⟩,
        ⟨some 26, .mv (.t 7), none⟩,
        ⟨some 27, .build [(.int .i64 0), (.int .i64 0)] [(0, 1, (.t 25)), (1, 1, (.t 26))], none⟩,
        ⟨some 28, .bslice 2 1 [(.int .i64 0), (.int .i64 0)] [(0, 2, (.t 27))], none⟩,
        ⟨some 29, .append 2 16 (.t 23) (.t 28), none⟩,
        ⟨none, .store 1 (.t 5) (.t 29), none⟩])))))))
  (.seq (.reg [⟨some 30, .load false 1 (.t 5), none⟩,
    ⟨some 4, .mv (.t 30), none⟩])
  (.ret))))
theorem b45 : Body Try.prog 45 c45 [.tmp 4] 31 := ⟨by kernel_rfl, _, _, Try.func45, rfl, by kernel_rfl, by kernel_rfl, rfl⟩
def c46 : ACode :=
  .seq (.reg [⟨some 4, .box (.t 0), none⟩,
    ⟨some 6, .mv (.k (.int .i64 0)), none⟩])
  (.seq (.block 0 (.seq (.regD [⟨some 8, .faddr 1 (.t 4), none⟩,
     ⟨some 9, .load false 1 (.t 8), none⟩,
     ⟨some 10, .load false 1 (.t 2), none⟩,
     ⟨some 11, .nchk (.t 10), none⟩,
     ⟨some 12, .faddr 0 (.t 11), none⟩,
     ⟨some 13, .load false 1 (.t 12), none⟩,
     ⟨some 14, .bin .add (.t 9) (.t 13), none⟩,
     ⟨some 15, .load false 1 (.t 3), none⟩,
     ⟨some 16, .bin .leq (.t 14) (.t 15), none⟩,
     ⟨some 7, .mv (.t 16), none⟩] [[], [0], [], [2], [3], [4], [1, 5], [], [6, 7], [8]])
   (.cond (.t 7) (.seq (.reg [⟨some 6, .mv (.k (.int .i64 1)), none⟩])
     (.ret))
     (.seq (.reg [⟨some 18, .mv (.t 1), none⟩,
       ⟨some 19, .load false 1 (.t 2), none⟩,
       ⟨some 20, .nchk (.t 19), none⟩,
       ⟨some 21, .faddr 2 (.t 20), none⟩,
       ⟨some 22, .load false 1 (.t 21), none⟩,
       ⟨some 23, .bin .gtr (.t 18) (.t 22), none⟩,
       ⟨some 17, .mv (.t 23), none⟩])
     (.cond (.t 17) (.seq (.reg [⟨some 6, .mv (.k (.int .i64 2)), none⟩])
       (.ret))
       (.skip))))))
  (.seq (.reg [⟨some 6, .mv (.k (.int .i64 0)), none⟩])
  (.ret)))
theorem b46 : Body Try.prog 46 c46 [.tmp 6] 24 := ⟨by kernel_rfl, _, _, Try.func46, rfl, by kernel_rfl, by kernel_rfl, rfl⟩
def c47 : ACode :=
  .seq (.reg [⟨some 5, .box (.t 0), none⟩,
    ⟨some 7, .mv (.k (.int .i64 0)), none⟩])
  (.seq (.seq (.reg [⟨some 8, .load false 1 (.t 2), none⟩,
    ⟨some 9, .mv (.t 1), none⟩,
    ⟨some 10, .bin .sub (.t 8) (.t 9), none⟩,
    ⟨some 11, .load false 1 (.t 3), none⟩,
    ⟨some 12, .bin .geq (.t 10) (.t 11), none⟩])
  (.cond (.t 12) (.seq (.reg [⟨some 7, .mv (.k (.int .i64 0)), none⟩])
    (.ret))
    (.skip)))
  (.seq (.reg [⟨some 13, .load false 1 (.t 4), none⟩,
    ⟨some 7, .mv (.t 13), none⟩])
  (.ret)))
theorem b47 : Body Try.prog 47 c47 [.tmp 7] 14 := ⟨by kernel_rfl, _, _, Try.func47, rfl, by kernel_rfl, by kernel_rfl, rfl⟩
def c48 : ACode :=
  .seq (.reg [⟨some 4, .mv (.k .nilp), none⟩,
    ⟨some 5, .mv (.k (.int .i64 0)), none⟩])
  (.seq (.seq (.reg [⟨some 6, .mv (.t 0), none⟩,
    ⟨some 7, .bin .lss (.t 6) (.k (.int .i64 1)), none⟩,
    ⟨some 8, .mv (.t 7), none⟩,
    ⟨some 9, .mv (.t 0), some (8, false)⟩,
    ⟨some 10, .bin .gtr (.t 9) (.k (.int .i64 2000)), some (8, false)⟩,
    ⟨some 11, .pick (.t 8) (.k (.bool true)) (.t 10), none⟩,
    ⟨some 12, .mv (.t 11), none⟩,
    ⟨some 13, .mv (.t 1), some (12, false)⟩,
    ⟨some 14, .bin .lss (.t 13) (.k (.int .i64 1)), some (12, false)⟩,
    ⟨some 15, .pick (.t 12) (.k (.bool true)) (.t 14), none⟩,
    ⟨some 16, .mv (.t 15), none⟩,
    ⟨some 17, .mv (.t 1), some (16, false)⟩,
    ⟨some 18, .bin .gtr (.t 17) (.k (.int .i64 64)), some (16, false)⟩,
    ⟨some 19, .pick (.t 16) (.k (.bool true)) (.t 18), none⟩])
  (.cond (.t 19) (.seq (.reg [⟨some 4, .mv (.k .nilp), none⟩,
      ⟨some 5, .mv (.k (.int .i64 7)), none⟩])
    (.ret))
    (.skip)))
  (.seq (.reg [⟨some 20, .mv (.t 0), none⟩,
    ⟨some 21, .mv (.t 1), none⟩,
    ⟨some 22, .call (.k (.fn 67 [] [])) [(.t 20), (.t 21)], none⟩,
    ⟨some 4, .mv (.t 22), none⟩,
    ⟨some 5, .mv (.k (.int .i64 0)), none⟩])
  (.ret)))
theorem b48 : Body Try.prog 48 c48 [.tmp 4, .tmp 5] 23 := ⟨by kernel_rfl, _, _, Try.func48, rfl, by kernel_rfl, by kernel_rfl, rfl⟩
def c49 : ACode :=
  .seq (.reg [⟨some 2, .box (.t 0), none⟩,
    ⟨some 4, .new [(.int .i64 0), (.int .i64 0), (.int .i64 0), .nils], none⟩,
    ⟨some 5, .mv (.k (.int .i64 0)), none⟩,
    ⟨some 6, .mv (.k (.int .i64 0)), none⟩])
  (.seq (.reg [⟨some 9, .load true 4 (.t 2), none⟩,
    ⟨some 10, .mv (.t 1), none⟩,
    ⟨some 11, .call (.k (.fn 68 [] [])) [(.t 9), (.t 10)], none⟩,
    ⟨some 7, .mv (.t 11), none⟩])
  (.seq (.seq (.reg [⟨some 12, .mv (.t 7), none⟩,
    ⟨some 13, .bin .lss (.t 12) (.k (.int .i64 0)), none⟩])
  (.cond (.t 13) (.seq (.reg [⟨some 14, .load true 4 (.t 2), none⟩,
      ⟨none, .store 4 (.t 4) (.t 14), none⟩,
      ⟨some 5, .mv (.k (.int .i64 0)), none⟩,
      ⟨some 6, .mv (.k (.int .i64 4)), none⟩])
    (.ret))
    (.skip)))
  (.seq (.reg [⟨some 15, .faddr 3 (.t 2), none⟩,
    ⟨some 16, .load false 1 (.t 15), none⟩,
    ⟨some 17, .mv (.t 7), none⟩,
    ⟨some 18, .iaddrS 2 (.t 16) (.t 17), none⟩,
    ⟨some 19, .faddr 1 (.t 18), none⟩,
    ⟨some 20, .load false 1 (.t 19), none⟩,
    ⟨some 8, .mv (.t 20), none⟩])
  (.seq (.reg [⟨some 21, .load true 4 (.t 2), none⟩,
    ⟨some 22, .mv (.t 7), none⟩,
    ⟨some 23, .call (.k (.fn 69 [] [])) [(.t 21), (.t 22)], none⟩,
    ⟨some 24, .mv (.t 8), none⟩,
    ⟨none, .store 4 (.t 4) (.t 23), none⟩,
    ⟨some 5, .mv (.t 24), none⟩,
    ⟨some 6, .mv (.k (.int .i64 0)), none⟩])
  (.ret)))))
theorem b49 : Body Try.prog 49 c49 [.cell 4 true 4, .tmp 5, .tmp 6] 25 := ⟨by kernel_rfl, _, _, Try.func49, rfl, by kernel_rfl, by kernel_rfl, rfl⟩
def c50 : ACode :=
  .seq (.reg [⟨some 2, .box (.t 0), none⟩,
    ⟨some 4, .mv (.k .nils), none⟩,
    ⟨some 5, .mv (.k (.int .i64 0)), none⟩])
  (.seq (.seq (.reg [⟨some 8, .mv (.t 1), none⟩,
    ⟨some 9, .bin .lss (.t 8) (.k (.int .i64 0)), none⟩,
    ⟨some 10, .mv (.t 9), none⟩,
    ⟨some 11, .mv (.t 1), some (10, false)⟩,
    ⟨some 12, .bin .gtr (.t 11) (.k (.int .i64 1000000000000)), some (10, false)⟩,
    ⟨some 13, .pick (.t 10) (.k (.bool true)) (.t 12), none⟩])
  (.cond (.t 13) (.seq (.reg [⟨some 4, .mv (.k .nils), none⟩,
      ⟨some 5, .mv (.k (.int .i64 7)), none⟩])
    (.ret))
    (.skip)))
  (.seq (.reg [⟨some 6, .mv (.k .nils), none⟩])
  (.seq (.seq (.reg [⟨some 7, .mv (.k (.int .i64 0)), none⟩])
  (.block 0 (.loop (.seq (.seq (.reg [⟨some 14, .mv (.t 7), none⟩,
      ⟨some 15, .faddr 3 (.t 2), none⟩,
      ⟨some 16, .load false 1 (.t 15), none⟩,
      ⟨some 17, .len (.t 16), none⟩,
      ⟨some 18, .bin .lss (.t 14) (.t 17), none⟩])
    (.cond (.t 18) (.skip)
      (.exit 0)))
    (.seq (.block 1 (.seq (.regD [⟨some 21, .load true 4 (.t 2), none⟩,
       ⟨some 22, .faddr 3 (.t 2), none⟩,
       ⟨some 23, .load false 1 (.t 22), none⟩,
       ⟨some 24, .mv (.t 7), none⟩,
       ⟨some 25, .iaddrS 2 (.t 23) (.t 24), none⟩,
       ⟨some 26, .load true 2 (.t 25), none⟩,
       ⟨some 27, .mv (.t 1), none⟩,
       ⟨some 28, .call (.k (.fn 70 [] [])) [(.t 21), (.t 26), (.t 27)], none⟩] [[], [], [1], [], [2, 3], [4], [], [0, 5, 6]])
     (.cond (.t 28) (.reg [⟨some 29, .mv (.t 6), none⟩,
         ⟨some 30, .faddr 3 (.t 2), none⟩,
         ⟨some 31, .load false 1 (.t 30), none⟩,
         ⟨some 32, .mv (.t 7), none⟩,
         ⟨some 33, .iaddrS 2 (.t 31) (.t 32), none⟩,
         ⟨some 34, .faddr 0 (.t 33), none⟩,
         ⟨some 35, .load false 1 (.t 34), none⟩,
         ⟨some 36, .build [(.int .i64 0), (.int .i64 0)] [(0, 1, (.t 35)), (1, 1, (.k (.int .i64 1)))], none⟩,
         ⟨some 37, .bslice 2 1 [(.int .i64 0), (.int .i64 0)] [(0, 2, (.t 36))], none⟩,
         ⟨some 38, .append 2 16 (.t 29) (.t 37), none⟩,
         ⟨some 6, .mv (.t 38), none⟩])
       (.seq (.reg [⟨some 39, .faddr 3 (.t 2), none⟩,
         ⟨some 40, .load false 1 (.t 39), none⟩,
         ⟨some 41, .len (.t 40), none⟩,
         ⟨some 42, .mv (.t 6), none⟩,
         ⟨some 43, .len (.t 42), none⟩,
         ⟨some 44, .bin .sub (.t 41) (.t 43), none⟩,
         ⟨some 45, .faddr 2 (.t 2), none⟩,
         ⟨some 46, .load false 1 (.t 45), none⟩,
         ⟨some 47, .bin .gtr (.t 44) (.t 46), none⟩])
       (.cond (.t 47) (.reg [⟨some 48, .mv (.t 6), none⟩,
           ⟨some 49, .faddr 3 (.t 2), none⟩,
           ⟨some 50, .load false 1 (.t 49), none⟩,
           ⟨some 51, .mv (.t 7), none⟩,
           ⟨some 52, .iaddrS 2 (.t 50) (.t 51), none⟩,
           ⟨some 53, .faddr 0 (.t 52), none⟩,
           ⟨some 54, .load false 1 (.t 53), none⟩,
           ⟨some 55, .build [(.int .i64 0), (.int .i64 0)] [(0, 1, (.t 54)), (1, 1, (.k (.int .i64 2)))], none⟩,
           ⟨some 56, .bslice 2 1 [(.int .i64 0), (.int .i64 0)] [(0, 2, (.t 55))], none⟩,
           ⟨some 57, .append 2 16 (.t 48) (.t 56), none⟩,
           ⟨some 6, .mv (.t 57), none⟩])
         (.skip))))))
    (.reg [⟨some 19, .mv (.t 7), none⟩,
      ⟨some 20, .bin .add (.t 19) (.k (.int .i64 1)), none⟩,
      ⟨some 7, .mv (.t 20), none⟩]))))))
  (.seq (.reg [⟨some 58, .mv (.t 6), none⟩,
    ⟨some 4, .mv (.t 58), none⟩,
    ⟨some 5, .mv (.k (.int .i64 0)), none⟩])
  (.ret)))))
theorem b50 : Body Try.prog 50 c50 [.tmp 4, .tmp 5] 59 := ⟨by kernel_rfl, _, _, Try.func50, rfl, by kernel_rfl, by kernel_rfl, rfl⟩
def c51 : ACode :=
  .seq (.reg [⟨some 3, .box (.t 0), none⟩,
    ⟨some 6, .mv (.k .nils), none⟩,
    ⟨some 7, .mv (.k (.int .i64 0)), none⟩])
  (.seq (.seq (.reg [⟨some 10, .mv (.t 1), none⟩,
    ⟨some 11, .bin .lss (.t 10) (.k (.int .i64 0)), none⟩,
    ⟨some 12, .mv (.t 11), none⟩,
    ⟨some 13, .mv (.t 2), some (12, false)⟩,
    ⟨some 14, .bin .neq (.t 13) (.k (.int .i64 3)), some (12, false)⟩,
    ⟨some 15, .mv (.t 14), some (12, false)⟩,
    ⟨some 16, .mv (.t 2), some (15, true)⟩,
    ⟨some 17, .bin .neq (.t 16) (.k (.int .i64 4)), some (15, true)⟩,
    ⟨some 18, .pick (.t 15) (.t 17) (.k (.bool false)), some (12, false)⟩,
    ⟨some 19, .pick (.t 12) (.k (.bool true)) (.t 18), none⟩])
  (.cond (.t 19) (.seq (.reg [⟨some 6, .mv (.k .nils), none⟩,
      ⟨some 7, .mv (.k (.int .i64 2)), none⟩])
    (.ret))
    (.skip)))
  (.seq (.reg [⟨some 8, .mv (.k .nils), none⟩])
  (.seq (.seq (.reg [⟨some 9, .mv (.k (.int .i64 0)), none⟩])
  (.block 0 (.loop (.seq (.seq (.reg [⟨some 20, .mv (.t 9), none⟩,
      ⟨some 21, .faddr 3 (.t 3), none⟩,
      ⟨some 22, .load false 1 (.t 21), none⟩,
      ⟨some 23, .len (.t 22), none⟩,
      ⟨some 24, .bin .lss (.t 20) (.t 23), none⟩,
      ⟨some 25, .mv (.t 24), none⟩,
      ⟨some 26, .mv (.t 9), some (25, true)⟩,
      ⟨some 27, .mv (.t 1), some (25, true)⟩,
      ⟨some 28, .bin .lss (.t 26) (.t 27), some (25, true)⟩,
      ⟨some 29, .pick (.t 25) (.t 28) (.k (.bool false)), none⟩])
    (.cond (.t 29) (.skip)
      (.exit 0)))
    (.seq (.block 1 (.reg [⟨some 32, .mv (.t 8), none⟩,
       ⟨some 33, .faddr 3 (.t 3), none⟩,
       ⟨some 34, .load false 1 (.t 33), none⟩,
       ⟨some 35, .mv (.t 9), none⟩,
       ⟨some 36, .iaddrS 2 (.t 34) (.t 35), none⟩,
       ⟨some 37, .faddr 0 (.t 36), none⟩,
       ⟨some 38, .load false 1 (.t 37), none⟩,
       ⟨some 39, .mv (.t 2), none⟩,
       ⟨some 40, .build [(.int .i64 0), (.int .i64 0)] [(0, 1, (.t 38)), (1, 1, (.t 39))], none⟩,
       ⟨some 41, .bslice 2 1 [(.int .i64 0), (.int .i64 0)] [(0, 2, (.t 40))], none⟩,
       ⟨some 42, .append 2 16 (.t 32) (.t 41), none⟩,
       ⟨some 8, .mv (.t 42), none⟩]))
    (.reg [⟨some 30, .mv (.t 9), none⟩,
      ⟨some 31, .bin .add (.t 30) (.k (.int .i64 1)), none⟩,
      ⟨some 9, .mv (.t 31), none⟩]))))))
  (.seq (.reg [⟨some 43, .mv (.t 8), none⟩,
    ⟨some 6, .mv (.t 43), none⟩,
    ⟨some 7, .mv (.k (.int .i64 0)), none⟩])
  (.ret)))))
theorem b51 : Body Try.prog 51 c51 [.tmp 6, .tmp 7] 44 := ⟨by kernel_rfl, _, _, Try.func51, rfl, by kernel_rfl, by kernel_rfl, rfl⟩
def c52 : ACode :=
  .seq (.reg [⟨some 3, .box (.t 0), none⟩,
    ⟨some 6, .new [(.int .i64 0), (.int .i64 0), (.int .i64 0), .nils], none⟩,
    ⟨some 7, .mv (.k (.int .i64 0)), none⟩])
  (.seq (.reg [⟨some 9, .load true 4 (.t 3), none⟩,
    ⟨some 10, .mv (.t 1), none⟩,
    ⟨some 11, .call (.k (.fn 68 [] [])) [(.t 9), (.t 10)], none⟩,
    ⟨some 8, .mv (.t 11), none⟩])
  (.seq (.seq (.reg [⟨some 12, .mv (.t 8), none⟩,
    ⟨some 13, .bin .lss (.t 12) (.k (.int .i64 0)), none⟩])
  (.cond (.t 13) (.seq (.reg [⟨some 14, .load true 4 (.t 3), none⟩,
      ⟨none, .store 4 (.t 6) (.t 14), none⟩,
      ⟨some 7, .mv (.k (.int .i64 4)), none⟩])
    (.ret))
    (.skip)))
  (.seq (.seq (.reg [⟨some 15, .mv (.t 2), none⟩])
  (.cond (.t 15) (.seq (.seq (.reg [⟨some 16, .faddr 1 (.t 3), none⟩,
      ⟨some 17, .load false 1 (.t 16), none⟩,
      ⟨some 18, .bin .lss (.t 17) (.k (.int .i64 1000000000000)), none⟩])
    (.cond (.t 18) (.reg [⟨some 19, .faddr 1 (.t 3), none⟩,
        ⟨some 20, .load false 1 (.t 19), none⟩,
        ⟨some 21, .bin .add (.t 20) (.k (.int .i64 1)), none⟩,
        ⟨some 22, .faddr 1 (.t 3), none⟩,
        ⟨none, .store 1 (.t 22) (.t 21), none⟩])
      (.skip)))
    (.seq (.reg [⟨some 23, .load true 4 (.t 3), none⟩,
      ⟨none, .store 4 (.t 6) (.t 23), none⟩,
      ⟨some 7, .mv (.k (.int .i64 0)), none⟩])
    (.ret)))
    (.skip)))
  (.seq (.reg [⟨some 24, .load true 4 (.t 3), none⟩,
    ⟨some 25, .mv (.t 8), none⟩,
    ⟨some 26, .call (.k (.fn 69 [] [])) [(.t 24), (.t 25)], none⟩,
    ⟨none, .store 4 (.t 6) (.t 26), none⟩,
    ⟨some 7, .mv (.k (.int .i64 0)), none⟩])
  (.ret)))))
theorem b52 : Body Try.prog 52 c52 [.cell 6 true 4, .tmp 7] 27 := ⟨by kernel_rfl, _, _, Try.func52, rfl, by kernel_rfl, by kernel_rfl, rfl⟩
def c53 : ACode :=
  .seq (.reg [⟨some 3, .box (.t 0), none⟩,
    ⟨some 6, .new [(.int .i64 0), (.int .i64 0), (.int .i64 0), .nils], none⟩,
    ⟨some 7, .mv (.k (.int .i64 0)), none⟩])
  (.seq (.seq (.reg [⟨some 8, .mv (.t 1), none⟩,
    ⟨some 9, .mv (.t 2), none⟩,
    ⟨some 10, .call (.k (.fn 33 [] [])) [(.t 8), (.t 9)], none⟩,
    ⟨some 11, .un .not (.t 10), none⟩])
  (.cond (.t 11) (.seq (.reg [⟨some 12, .load true 4 (.t 3), none⟩,
      ⟨none, .store 4 (.t 6) (.t 12), none⟩,
      ⟨some 7, .mv (.k (.int .i64 2)), none⟩])
    (.ret))
    (.skip)))
  (.seq (.reg [⟨some 13, .mv (.t 1), none⟩,
    ⟨some 14, .mv (.t 2), none⟩,
    ⟨some 15, .faddr 0 (.t 3), none⟩,
    ⟨none, .store 1 (.t 15) (.t 13), none⟩,
    ⟨some 16, .faddr 2 (.t 3), none⟩,
    ⟨none, .store 1 (.t 16) (.t 14), none⟩])
  (.seq (.reg [⟨some 17, .load true 4 (.t 3), none⟩,
    ⟨none, .store 4 (.t 6) (.t 17), none⟩,
    ⟨some 7, .mv (.k (.int .i64 0)), none⟩])
  (.ret))))
theorem b53 : Body Try.prog 53 c53 [.cell 6 true 4, .tmp 7] 18 := ⟨by kernel_rfl, _, _, Try.func53, rfl, by kernel_rfl, by kernel_rfl, rfl⟩
def c54 : ACode :=
  .seq (.reg [⟨some 3, .box (.t 0), none⟩,
    ⟨some 6, .new [(.int .i64 0), (.int .i64 0), (.int .i64 0), .nils], none⟩,
    ⟨some 7, .mv (.k (.int .i64 0)), none⟩])
  (.seq (.reg [⟨some 10, .mv (.t 1), none⟩,
    ⟨some 11, .mv (.t 2), none⟩,
    ⟨some 12, .build [(.int .i64 0), (.int .i64 0)] [(0, 1, (.t 10)), (1, 1, (.t 11))], none⟩,
    ⟨some 8, .new [(.int .i64 0), (.int .i64 0)], none⟩,
    ⟨none, .store 2 (.t 8) (.t 12), none⟩])
  (.seq (.seq (.reg [⟨some 13, .load true 2 (.t 8), none⟩,
    ⟨some 14, .call (.k (.fn 34 [] [])) [(.t 13)], none⟩,
    ⟨some 15, .un .not (.t 14), none⟩])
  (.cond (.t 15) (.seq (.reg [⟨some 16, .load true 4 (.t 3), none⟩,
      ⟨none, .store 4 (.t 6) (.t 16), none⟩,
      ⟨some 7, .mv (.k (.int .i64 7)), none⟩])
    (.ret))
    (.skip)))
  (.seq (.seq (.reg [⟨some 17, .load true 4 (.t 3), none⟩,
    ⟨some 18, .mv (.t 1), none⟩,
    ⟨some 19, .call (.k (.fn 68 [] [])) [(.t 17), (.t 18)], none⟩,
    ⟨some 20, .bin .geq (.t 19) (.k (.int .i64 0)), none⟩])
  (.cond (.t 20) (.seq (.reg [⟨some 21, .load true 4 (.t 3), none⟩,
      ⟨none, .store 4 (.t 6) (.t 21), none⟩,
      ⟨some 7, .mv (.k (.int .i64 8)), none⟩])
    (.ret))
    (.skip)))
  (.seq (.reg [⟨some 9, .mv (.k (.int .i64 0)), none⟩])
  (.seq (.block 0 (.loop (.seq (.seq (.regD [⟨some 22, .mv (.t 9), none⟩,
      ⟨some 23, .faddr 3 (.t 3), none⟩,
      ⟨some 24, .load false 1 (.t 23), none⟩,
      ⟨some 25, .len (.t 24), none⟩,
      ⟨some 26, .bin .lss (.t 22) (.t 25), none⟩,
      ⟨some 27, .mv (.t 26), none⟩,
      ⟨some 28, .faddr 3 (.t 3), some (27, true)⟩,
      ⟨some 29, .load false 1 (.t 28), some (27, true)⟩,
      ⟨some 30, .mv (.t 9), some (27, true)⟩,
      ⟨some 31, .iaddrS 2 (.t 29) (.t 30), some (27, true)⟩,
      ⟨some 32, .load true 2 (.t 31), some (27, true)⟩,
      ⟨some 33, .load true 2 (.t 8), some (27, true)⟩,
      ⟨some 34, .call (.k (.fn 35 [] [])) [(.t 32), (.t 33)], some (27, true)⟩,
      ⟨some 35, .pick (.t 27) (.t 34) (.k (.bool false)), none⟩] [[], [], [1], [2], [0, 3], [4], [5], [6, 5], [5], [7, 8, 5], [9, 5], [5], [10, 11, 5, 5], [5, 12]])
    (.cond (.t 35) (.skip)
      (.exit 0)))
    (.block 1 (.reg [⟨some 36, .mv (.t 9), none⟩,
       ⟨some 37, .bin .add (.t 36) (.k (.int .i64 1)), none⟩,
       ⟨some 9, .mv (.t 37), none⟩])))))
  (.seq (.regD [⟨some 38, .bslice 2 0 [] [], none⟩,
    ⟨some 39, .faddr 3 (.t 3), none⟩,
    ⟨some 40, .load false 1 (.t 39), none⟩,
    ⟨some 41, .mv (.t 9), none⟩,
    ⟨some 42, .slS 2 (.t 40) none (some (.t 41)) none, none⟩,
    ⟨some 43, .append 2 16 (.t 38) (.t 42), none⟩,
    ⟨some 44, .load true 2 (.t 8), none⟩,
    ⟨some 45, .bslice 2 1 [(.int .i64 0), (.int .i64 0)] [(0, 2, (.t 44))], none⟩,
    ⟨some 46, .append 2 16 (.t 43) (.t 45), none⟩,
    ⟨some 47, .faddr 3 (.t 3), none⟩,
    ⟨some 48, .load false 1 (.t 47), none⟩,
    ⟨some 49, .mv (.t 9), none⟩,
    ⟨some 50, .slS 2 (.t 48) (some (.t 49)) none none, none⟩,
    ⟨some 51, .append 2 16 (.t 46) (.t 50), none⟩,
    ⟨some 52, .faddr 3 (.t 3), none⟩,
    ⟨none, .store 1 (.t 52) (.t 51), none⟩] [[], [], [1], [], [2, 3], [0, 4], [], [6], [5, 7, 5], [], [9], [], [10, 11], [8, 12, 8], [0, 1, 2, 3, 4, 5, 6, 7, 8, 9, 10, 11, 12, 13], [14, 13, 13, 0, 1, 2, 3, 4, 5, 6, 7, 8, 9, 10, 11, 12, 13]])
  (.seq (.reg [⟨some 53, .load true 4 (.t 3), none⟩,
    ⟨none, .store 4 (.t 6) (.t 53), none⟩,
    ⟨some 7, .mv (.k (.int .i64 0)), none⟩])
  (.ret))))))))
theorem b54 : Body Try.prog 54 c54 [.cell 6 true 4, .tmp 7] 54 := ⟨by kernel_rfl, _, _, Try.func54, rfl, by kernel_rfl, by kernel_rfl, rfl⟩
def c55 : ACode :=
  .seq (.reg [⟨some 6, .mv (.k (.int .i64 0)), none⟩,
    ⟨some 7, .mv (.k (.int .i64 0)), none⟩])
  (.seq (.seq (.reg [⟨some 9, .mv (.t 0), none⟩,
    ⟨some 10, .mv (.t 1), none⟩,
    ⟨some 11, .call (.k (.fn 71 [] [])) [(.t 9), (.t 10)], none⟩,
    ⟨some 8, .mv (.t 11), none⟩])
  (.seq (.reg [⟨some 12, .mv (.t 8), none⟩,
    ⟨some 13, .bin .neq (.t 12) (.k (.int .i64 0)), none⟩])
  (.cond (.t 13) (.seq (.reg [⟨some 14, .mv (.t 8), none⟩,
      ⟨some 6, .mv (.k (.int .i64 0)), none⟩,
      ⟨some 7, .mv (.t 14), none⟩])
    (.ret))
    (.skip))))
  (.seq (.reg [⟨some 15, .mv (.t 0), none⟩,
    ⟨some 16, .nchk (.t 15), none⟩,
    ⟨some 17, .faddr 1 (.t 16), none⟩,
    ⟨some 18, .load false 1 (.t 17), none⟩,
    ⟨some 19, .mv (.t 1), none⟩,
    ⟨some 20, .iaddrS 3 (.t 18) (.t 19), none⟩,
    ⟨some 21, .faddr 1 (.t 20), none⟩,
    ⟨some 22, .load false 1 (.t 21), none⟩,
    ⟨some 6, .mv (.t 22), none⟩])
  (.seq (.seq (.reg [⟨some 23, .mv (.t 2), none⟩])
  (.cond (.t 23) (.reg [⟨some 24, .mv (.t 0), none⟩,
      ⟨some 25, .nchk (.t 24), none⟩,
      ⟨some 26, .faddr 1 (.t 25), none⟩,
      ⟨some 27, .load false 1 (.t 26), none⟩,
      ⟨some 28, .mv (.t 1), none⟩,
      ⟨some 29, .iaddrS 3 (.t 27) (.t 28), none⟩,
      ⟨some 30, .faddr 0 (.t 29), none⟩,
      ⟨some 31, .load false 1 (.t 30), none⟩,
      ⟨some 6, .mv (.t 31), none⟩])
    (.skip)))
  (.seq (.seq (.reg [⟨some 32, .mv (.t 6), none⟩,
    ⟨some 33, .bin .eql (.t 32) (.k (.int .i64 (-1))), none⟩])
  (.cond (.t 33) (.seq (.reg [⟨some 6, .mv (.k (.int .i64 0)), none⟩,
      ⟨some 7, .mv (.k (.int .i64 4)), none⟩])
    (.ret))
    (.skip)))
  (.seq (.reg [⟨some 34, .mv (.t 6), none⟩,
    ⟨some 6, .mv (.t 34), none⟩,
    ⟨some 7, .mv (.k (.int .i64 0)), none⟩])
  (.ret))))))
theorem b55 : Body Try.prog 55 c55 [.tmp 6, .tmp 7] 35 := ⟨by kernel_rfl, _, _, Try.func55, rfl, by kernel_rfl, by kernel_rfl, rfl⟩
def c56 : ACode :=
  .seq (.reg [⟨some 4, .new [(.int .i64 0), (.int .i64 0)], none⟩,
    ⟨some 5, .mv (.k (.int .i64 0)), none⟩])
  (.seq (.seq (.reg [⟨some 7, .mv (.t 0), none⟩,
    ⟨some 8, .mv (.t 1), none⟩,
    ⟨some 9, .call (.k (.fn 62 [] [])) [(.t 7), (.t 8)], none⟩,
    ⟨some 6, .mv (.t 9), none⟩])
  (.seq (.reg [⟨some 10, .mv (.t 6), none⟩,
    ⟨some 11, .bin .neq (.t 10) (.k (.int .i64 0)), none⟩])
  (.cond (.t 11) (.seq (.reg [⟨some 12, .load true 2 (.t 4), none⟩,
      ⟨some 13, .mv (.t 6), none⟩,
      ⟨none, .store 2 (.t 4) (.t 12), none⟩,
      ⟨some 5, .mv (.t 13), none⟩])
    (.ret))
    (.skip))))
  (.seq (.reg [⟨some 14, .mv (.t 0), none⟩,
    ⟨some 15, .nchk (.t 14), none⟩,
    ⟨some 16, .faddr 0 (.t 15), none⟩,
    ⟨some 17, .load false 1 (.t 16), none⟩,
    ⟨some 18, .mv (.t 1), none⟩,
    ⟨some 19, .iaddrS 5 (.t 17) (.t 18), none⟩,
    ⟨some 20, .faddr 0 (.t 19), none⟩,
    ⟨some 21, .load true 2 (.t 20), none⟩,
    ⟨none, .store 2 (.t 4) (.t 21), none⟩,
    ⟨some 5, .mv (.k (.int .i64 0)), none⟩])
  (.ret)))
theorem b56 : Body Try.prog 56 c56 [.cell 4 true 2, .tmp 5] 22 := ⟨by kernel_rfl, _, _, Try.func56, rfl, by kernel_rfl, by kernel_rfl, rfl⟩
def c57 : ACode :=
  .seq (.reg [⟨some 6, .mv (.k (.int .i64 0)), none⟩,
    ⟨some 7, .mv (.k (.int .i64 0)), none⟩])
  (.seq (.seq (.reg [⟨some 9, .mv (.t 0), none⟩,
    ⟨some 10, .mv (.t 1), none⟩,
    ⟨some 11, .call (.k (.fn 62 [] [])) [(.t 9), (.t 10)], none⟩,
    ⟨some 8, .mv (.t 11), none⟩])
  (.seq (.reg [⟨some 12, .mv (.t 8), none⟩,
    ⟨some 13, .bin .neq (.t 12) (.k (.int .i64 0)), none⟩])
  (.cond (.t 13) (.seq (.reg [⟨some 14, .mv (.t 8), none⟩,
      ⟨some 6, .mv (.k (.int .i64 0)), none⟩,
      ⟨some 7, .mv (.t 14), none⟩])
    (.ret))
    (.skip))))
  (.seq (.reg [⟨some 15, .mv (.t 0), none⟩,
    ⟨some 16, .mv (.t 1), none⟩,
    ⟨some 17, .mv (.t 2), none⟩,
    ⟨some 18, .call (.k (.fn 61 [] [])) [(.t 15), (.t 16), (.t 17)], none⟩,
    ⟨some 6, .mv (.t 18), none⟩])
  (.seq (.seq (.reg [⟨some 19, .mv (.t 6), none⟩,
    ⟨some 20, .bin .eql (.t 19) (.k (.int .i64 (-1))), none⟩])
  (.cond (.t 20) (.seq (.reg [⟨some 6, .mv (.k (.int .i64 0)), none⟩,
      ⟨some 7, .mv (.k (.int .i64 9)), none⟩])
    (.ret))
    (.skip)))
  (.seq (.reg [⟨some 21, .mv (.t 6), none⟩,
    ⟨some 6, .mv (.t 21), none⟩,
    ⟨some 7, .mv (.k (.int .i64 0)), none⟩])
  (.ret)))))
theorem b57 : Body Try.prog 57 c57 [.tmp 6, .tmp 7] 22 := ⟨by kernel_rfl, _, _, Try.func57, rfl, by kernel_rfl, by kernel_rfl, rfl⟩
def c58 : ACode :=
  .seq (.reg [⟨some 5, .box (.t 2), none⟩,
    ⟨some 6, .mv (.k (.int .i64 0)), none⟩,
    ⟨some 7, .mv (.k (.int .i64 0)), none⟩])
  (.seq (.seq (.reg [⟨some 10, .mv (.t 0), none⟩,
    ⟨some 11, .mv (.t 1), none⟩,
    ⟨some 12, .call (.k (.fn 62 [] [])) [(.t 10), (.t 11)], none⟩,
    ⟨some 8, .mv (.t 12), none⟩])
  (.seq (.reg [⟨some 13, .mv (.t 8), none⟩,
    ⟨some 14, .bin .neq (.t 13) (.k (.int .i64 0)), none⟩])
  (.cond (.t 14) (.seq (.reg [⟨some 15, .mv (.t 8), none⟩,
      ⟨some 6, .mv (.k (.int .i64 0)), none⟩,
      ⟨some 7, .mv (.t 15), none⟩])
    (.ret))
    (.skip))))
  (.seq (.reg [⟨some 16, .mv (.t 0), none⟩,
    ⟨some 17, .call (.k (.fn 72 [] [])) [(.t 16)], none⟩,
    ⟨some 6, .mv (.t 17), none⟩])
  (.seq (.seq (.reg [⟨some 18, .mv (.t 6), none⟩,
    ⟨some 19, .bin .eql (.t 18) (.k (.int .i64 (-1))), none⟩])
  (.cond (.t 19) (.seq (.reg [⟨some 6, .mv (.k (.int .i64 0)), none⟩,
      ⟨some 7, .mv (.k (.int .i64 5)), none⟩])
    (.ret))
    (.skip)))
  (.seq (.regD [⟨some 20, .mv (.t 0), none⟩,
    ⟨some 21, .nchk (.t 20), none⟩,
    ⟨some 22, .faddr 0 (.t 21), none⟩,
    ⟨some 23, .load false 1 (.t 22), none⟩,
    ⟨some 24, .mv (.t 6), none⟩,
    ⟨some 25, .load true 2 (.t 5), none⟩,
    ⟨some 26, .iaddrS 5 (.t 23) (.t 24), none⟩,
    ⟨some 27, .faddr 0 (.t 26), none⟩,
    ⟨none, .store 2 (.t 27) (.t 25), none⟩] [[], [0], [1], [2], [], [], [3, 4, 0, 1, 2, 3, 4, 5], [6, 0, 1, 2, 3, 4, 5], [7, 5, 0, 1, 2, 3, 4, 5]])
  (.seq (.reg [⟨some 28, .mv (.t 0), none⟩,
    ⟨some 29, .nchk (.t 28), none⟩,
    ⟨some 30, .faddr 0 (.t 29), none⟩,
    ⟨some 31, .load false 1 (.t 30), none⟩,
    ⟨some 32, .mv (.t 1), none⟩,
    ⟨some 33, .iaddrS 5 (.t 31) (.t 32), none⟩,
    ⟨some 9, .mv (.t 33), none⟩])
  (.seq (.regD [⟨some 34, .mv (.t 0), none⟩,
    ⟨some 35, .mv (.t 6), none⟩,
    ⟨some 36, .mv (.t 9), none⟩,
    ⟨some 37, .nchk (.t 36), none⟩,
    ⟨some 38, .faddr 2 (.t 37), none⟩,
    ⟨some 39, .load false 1 (.t 38), none⟩,
    ⟨some 40, .mv (.t 1), none⟩,
    ⟨some 41, .mv (.t 9), none⟩,
    ⟨some 42, .nchk (.t 41), none⟩,
    ⟨some 43, .faddr 3 (.t 42), none⟩,
    ⟨some 44, .load false 1 (.t 43), none⟩,
    ⟨some 45, .call (.k (.fn 73 [] [])) [(.t 34), (.t 35), (.t 39), (.t 40), (.t 44)], none⟩] [[], [], [], [2], [3], [4], [], [], [7], [8], [9], [0, 1, 5, 6, 10]])
  (.seq (.reg [⟨some 46, .mv (.t 6), none⟩,
    ⟨some 6, .mv (.t 46), none⟩,
    ⟨some 7, .mv (.k (.int .i64 0)), none⟩])
  (.ret))))))))
theorem b58 : Body Try.prog 58 c58 [.tmp 6, .tmp 7] 47 := ⟨by kernel_rfl, _, _, Try.func58, rfl, by kernel_rfl, by kernel_rfl, rfl⟩
def c59 : ACode :=
  .seq (.reg [⟨some 6, .box (.t 2), none⟩,
    ⟨some 8, .mv (.k (.int .i64 0)), none⟩,
    ⟨some 9, .mv (.k (.int .i64 0)), none⟩])
  (.seq (.seq (.reg [⟨some 11, .mv (.t 0), none⟩,
    ⟨some 12, .mv (.t 1), none⟩,
    ⟨some 13, .call (.k (.fn 71 [] [])) [(.t 11), (.t 12)], none⟩,
    ⟨some 10, .mv (.t 13), none⟩])
  (.seq (.reg [⟨some 14, .mv (.t 10), none⟩,
    ⟨some 15, .bin .neq (.t 14) (.k (.int .i64 0)), none⟩])
  (.cond (.t 15) (.seq (.reg [⟨some 16, .mv (.t 10), none⟩,
      ⟨some 8, .mv (.k (.int .i64 0)), none⟩,
      ⟨some 9, .mv (.t 16), none⟩])
    (.ret))
    (.skip))))
  (.seq (.reg [⟨some 17, .mv (.t 0), none⟩,
    ⟨some 18, .call (.k (.fn 72 [] [])) [(.t 17)], none⟩,
    ⟨some 8, .mv (.t 18), none⟩])
  (.seq (.seq (.reg [⟨some 19, .mv (.t 8), none⟩,
    ⟨some 20, .bin .eql (.t 19) (.k (.int .i64 (-1))), none⟩])
  (.cond (.t 20) (.seq (.reg [⟨some 8, .mv (.k (.int .i64 0)), none⟩,
      ⟨some 9, .mv (.k (.int .i64 5)), none⟩])
    (.ret))
    (.skip)))
  (.seq (.regD [⟨some 21, .mv (.t 0), none⟩,
    ⟨some 22, .nchk (.t 21), none⟩,
    ⟨some 23, .faddr 0 (.t 22), none⟩,
    ⟨some 24, .load false 1 (.t 23), none⟩,
    ⟨some 25, .mv (.t 8), none⟩,
    ⟨some 26, .load true 2 (.t 6), none⟩,
    ⟨some 27, .iaddrS 5 (.t 24) (.t 25), none⟩,
    ⟨some 28, .faddr 0 (.t 27), none⟩,
    ⟨none, .store 2 (.t 28) (.t 26), none⟩] [[], [0], [1], [2], [], [], [3, 4, 0, 1, 2, 3, 4, 5], [6, 0, 1, 2, 3, 4, 5], [7, 5, 0, 1, 2, 3, 4, 5]])
  (.seq (.reg [⟨some 29, .mv (.t 0), none⟩,
    ⟨some 30, .mv (.t 8), none⟩,
    ⟨some 31, .mv (.t 1), none⟩,
    ⟨some 32, .mv (.t 3), none⟩,
    ⟨some 33, .call (.k (.fn 74 [] [])) [(.t 29), (.t 30), (.t 31), (.t 32)], none⟩])
  (.seq (.reg [⟨some 34, .mv (.t 8), none⟩,
    ⟨some 8, .mv (.t 34), none⟩,
    ⟨some 9, .mv (.k (.int .i64 0)), none⟩])
  (.ret)))))))
theorem b59 : Body Try.prog 59 c59 [.tmp 8, .tmp 9] 35 := ⟨by kernel_rfl, _, _, Try.func59, rfl, by kernel_rfl, by kernel_rfl, rfl⟩
def c60 : ACode :=
  .seq (.reg [⟨some 9, .load false 1 (.t 1), none⟩,
    ⟨some 10, .load false 1 (.t 2), none⟩,
    ⟨some 11, .load false 1 (.t 3), none⟩,
    ⟨some 12, .un .not (.t 11), none⟩,
    ⟨some 13, .call (.k (.fn 55 [] [])) [(.t 9), (.t 10), (.t 12)], none⟩,
    ⟨some 8, .mv (.t 13), none⟩,
    ⟨some 14, .ext (.t 8) 0, none⟩,
    ⟨some 15, .ext (.t 8) 1, none⟩,
    ⟨some 5, .mv (.t 14), none⟩,
    ⟨some 6, .mv (.t 15), none⟩])
  (.block 0 (.loop (.seq (.seq (.reg [⟨some 16, .mv (.t 6), none⟩,
      ⟨some 17, .bin .eql (.t 16) (.k (.int .i64 0)), none⟩,
      ⟨some 18, .mv (.t 17), none⟩,
      ⟨some 19, .mv (.t 5), some (18, true)⟩,
      ⟨some 20, .bin .neq (.t 19) (.k (.int .i64 (-1))), some (18, true)⟩,
      ⟨some 21, .pick (.t 18) (.t 20) (.k (.bool false)), none⟩])
    (.cond (.t 21) (.skip)
      (.exit 0)))
    (.block 1 (.seq (.reg [⟨some 22, .load false 1 (.t 1), none⟩,
       ⟨some 23, .mv (.t 5), none⟩,
       ⟨some 24, .load false 1 (.t 3), none⟩,
       ⟨some 25, .call (.k (.fn 61 [] [])) [(.t 22), (.t 23), (.t 24)], none⟩,
       ⟨some 7, .mv (.t 25), none⟩])
     (.seq (.seq (.reg [⟨some 26, .mv (.t 0), none⟩,
       ⟨some 27, .mv (.t 5), none⟩,
       ⟨some 28, .load false 1 (.t 1), none⟩,
       ⟨some 29, .nchk (.t 28), none⟩,
       ⟨some 30, .faddr 0 (.t 29), none⟩,
       ⟨some 31, .load false 1 (.t 30), none⟩,
       ⟨some 32, .mv (.t 5), none⟩,
       ⟨some 33, .iaddrS 5 (.t 31) (.t 32), none⟩,
       ⟨some 34, .faddr 0 (.t 33), none⟩,
       ⟨some 35, .load true 2 (.t 34), none⟩,
       ⟨some 36, .call (.t 26) [(.t 27), (.t 35)], none⟩,
       ⟨some 37, .un .not (.t 36), none⟩])
     (.cond (.t 37) (.ret)
       (.skip)))
     (.reg [⟨some 38, .mv (.t 7), none⟩,
       ⟨some 5, .mv (.t 38), none⟩])))))))
theorem b60 : Body Try.prog 60 c60 [] 39 := ⟨by kernel_rfl, _, _, Try.func60, rfl, by kernel_rfl, by kernel_rfl, rfl⟩
def c61 : ACode :=
  .seq (.reg [⟨some 6, .mv (.k (.int .i64 0)), none⟩])
  (.seq (.seq (.reg [⟨some 7, .mv (.t 2), none⟩])
  (.cond (.t 7) (.seq (.reg [⟨some 8, .mv (.t 0), none⟩,
      ⟨some 9, .nchk (.t 8), none⟩,
      ⟨some 10, .faddr 0 (.t 9), none⟩,
      ⟨some 11, .load false 1 (.t 10), none⟩,
      ⟨some 12, .mv (.t 1), none⟩,
      ⟨some 13, .iaddrS 5 (.t 11) (.t 12), none⟩,
      ⟨some 14, .faddr 4 (.t 13), none⟩,
      ⟨some 15, .load false 1 (.t 14), none⟩,
      ⟨some 6, .mv (.t 15), none⟩])
    (.ret))
    (.skip)))
  (.seq (.reg [⟨some 16, .mv (.t 0), none⟩,
    ⟨some 17, .nchk (.t 16), none⟩,
    ⟨some 18, .faddr 0 (.t 17), none⟩,
    ⟨some 19, .load false 1 (.t 18), none⟩,
    ⟨some 20, .mv (.t 1), none⟩,
    ⟨some 21, .iaddrS 5 (.t 19) (.t 20), none⟩,
    ⟨some 22, .faddr 3 (.t 21), none⟩,
    ⟨some 23, .load false 1 (.t 22), none⟩,
    ⟨some 6, .mv (.t 23), none⟩])
  (.ret)))
theorem b61 : Body Try.prog 61 c61 [.tmp 6] 24 := ⟨by kernel_rfl, _, _, Try.func61, rfl, by kernel_rfl, by kernel_rfl, rfl⟩
def c62 : ACode :=
  .seq (.reg [⟨some 4, .mv (.k (.int .i64 0)), none⟩])
  (.seq (.block 0 (.seq (.reg [⟨some 6, .mv (.t 0), none⟩,
     ⟨some 7, .call (.k (.fn 75 [] [])) [(.t 6)], none⟩,
     ⟨some 8, .un .not (.t 7), none⟩,
     ⟨some 5, .mv (.t 8), none⟩])
   (.cond (.t 5) (.seq (.reg [⟨some 4, .mv (.k (.int .i64 1)), none⟩])
     (.ret))
     (.seq (.reg [⟨some 10, .mv (.t 1), none⟩,
       ⟨some 11, .bin .lss (.t 10) (.k (.int .i64 0)), none⟩,
       ⟨some 12, .mv (.t 11), none⟩,
       ⟨some 13, .mv (.t 1), some (12, false)⟩,
       ⟨some 14, .mv (.t 0), some (12, false)⟩,
       ⟨some 15, .nchk (.t 14), some (12, false)⟩,
       ⟨some 16, .faddr 0 (.t 15), some (12, false)⟩,
       ⟨some 17, .load false 1 (.t 16), some (12, false)⟩,
       ⟨some 18, .len (.t 17), some (12, false)⟩,
       ⟨some 19, .bin .geq (.t 13) (.t 18), some (12, false)⟩,
       ⟨some 20, .pick (.t 12) (.k (.bool true)) (.t 19), none⟩,
       ⟨some 21, .mv (.t 20), none⟩,
       ⟨some 22, .mv (.t 0), some (21, false)⟩,
       ⟨some 23, .nchk (.t 22), some (21, false)⟩,
       ⟨some 24, .faddr 0 (.t 23), some (21, false)⟩,
       ⟨some 25, .load false 1 (.t 24), some (21, false)⟩,
       ⟨some 26, .mv (.t 1), some (21, false)⟩,
       ⟨some 27, .iaddrS 5 (.t 25) (.t 26), some (21, false)⟩,
       ⟨some 28, .faddr 2 (.t 27), some (21, false)⟩,
       ⟨some 29, .load false 1 (.t 28), some (21, false)⟩,
       ⟨some 30, .bin .eql (.t 29) (.k (.int .i64 (-1))), some (21, false)⟩,
       ⟨some 31, .pick (.t 21) (.k (.bool true)) (.t 30), none⟩,
       ⟨some 9, .mv (.t 31), none⟩])
     (.cond (.t 9) (.seq (.reg [⟨some 4, .mv (.k (.int .i64 4)), none⟩])
       (.ret))
       (.skip))))))
  (.seq (.reg [⟨some 4, .mv (.k (.int .i64 0)), none⟩])
  (.ret)))
theorem b62 : Body Try.prog 62 c62 [.tmp 4] 32 := ⟨by kernel_rfl, _, _, Try.func62, rfl, by kernel_rfl, by kernel_rfl, rfl⟩
def c63 : ACode :=
  .seq (.reg [⟨some 6, .mv (.t 0), none⟩,
    ⟨some 7, .nchk (.t 6), none⟩,
    ⟨some 8, .faddr 0 (.t 7), none⟩,
    ⟨some 9, .load false 1 (.t 8), none⟩,
    ⟨some 10, .mv (.t 1), none⟩,
    ⟨some 11, .iaddrS 5 (.t 9) (.t 10), none⟩,
    ⟨some 4, .mv (.t 11), none⟩])
  (.seq (.regD [⟨some 12, .mv (.t 0), none⟩,
    ⟨some 13, .nchk (.t 12), none⟩,
    ⟨some 14, .faddr 1 (.t 13), none⟩,
    ⟨some 15, .load false 1 (.t 14), none⟩,
    ⟨some 16, .mv (.t 4), none⟩,
    ⟨some 17, .nchk (.t 16), none⟩,
    ⟨some 18, .faddr 2 (.t 17), none⟩,
    ⟨some 19, .load false 1 (.t 18), none⟩,
    ⟨some 20, .iaddrS 3 (.t 15) (.t 19), none⟩,
    ⟨some 5, .mv (.t 20), none⟩] [[], [0], [1], [2], [], [4], [5], [6], [3, 7], [8, 0, 1, 2, 3, 4, 5, 6, 7, 8]])
  (.seq (.seq (.reg [⟨some 21, .mv (.t 4), none⟩,
    ⟨some 22, .nchk (.t 21), none⟩,
    ⟨some 23, .faddr 4 (.t 22), none⟩,
    ⟨some 24, .load false 1 (.t 23), none⟩,
    ⟨some 25, .bin .eql (.t 24) (.k (.int .i64 (-1))), none⟩])
  (.cond (.t 25) (.reg [⟨some 26, .mv (.t 5), none⟩,
      ⟨some 27, .mv (.t 4), none⟩,
      ⟨some 28, .nchk (.t 27), none⟩,
      ⟨some 29, .faddr 3 (.t 28), none⟩,
      ⟨some 30, .load false 1 (.t 29), none⟩,
      ⟨some 31, .nchk (.t 26), none⟩,
      ⟨some 32, .faddr 0 (.t 31), none⟩,
      ⟨none, .store 1 (.t 32) (.t 30), none⟩])
    (.regD [⟨some 33, .mv (.t 0), none⟩,
      ⟨some 34, .nchk (.t 33), none⟩,
      ⟨some 35, .faddr 0 (.t 34), none⟩,
      ⟨some 36, .load false 1 (.t 35), none⟩,
      ⟨some 37, .mv (.t 4), none⟩,
      ⟨some 38, .nchk (.t 37), none⟩,
      ⟨some 39, .faddr 4 (.t 38), none⟩,
      ⟨some 40, .load false 1 (.t 39), none⟩,
      ⟨some 41, .mv (.t 4), none⟩,
      ⟨some 42, .nchk (.t 41), none⟩,
      ⟨some 43, .faddr 3 (.t 42), none⟩,
      ⟨some 44, .load false 1 (.t 43), none⟩,
      ⟨some 45, .iaddrS 5 (.t 36) (.t 40), none⟩,
      ⟨some 46, .faddr 3 (.t 45), none⟩,
      ⟨none, .store 1 (.t 46) (.t 44), none⟩] [[], [0], [1], [2], [], [4], [5], [6], [], [8], [9], [10], [3, 7, 0, 1, 2, 3, 4, 5, 6, 7, 8, 9, 10, 11], [12, 0, 1, 2, 3, 4, 5, 6, 7, 8, 9, 10, 11], [13, 11, 0, 1, 2, 3, 4, 5, 6, 7, 8, 9, 10, 11]])))
  (.seq (.seq (.reg [⟨some 47, .mv (.t 4), none⟩,
    ⟨some 48, .nchk (.t 47), none⟩,
    ⟨some 49, .faddr 3 (.t 48), none⟩,
    ⟨some 50, .load false 1 (.t 49), none⟩,
    ⟨some 51, .bin .eql (.t 50) (.k (.int .i64 (-1))), none⟩])
  (.cond (.t 51) (.reg [⟨some 52, .mv (.t 5), none⟩,
      ⟨some 53, .mv (.t 4), none⟩,
      ⟨some 54, .nchk (.t 53), none⟩,
      ⟨some 55, .faddr 4 (.t 54), none⟩,
      ⟨some 56, .load false 1 (.t 55), none⟩,
      ⟨some 57, .nchk (.t 52), none⟩,
      ⟨some 58, .faddr 1 (.t 57), none⟩,
      ⟨none, .store 1 (.t 58) (.t 56), none⟩])
    (.regD [⟨some 59, .mv (.t 0), none⟩,
      ⟨some 60, .nchk (.t 59), none⟩,
      ⟨some 61, .faddr 0 (.t 60), none⟩,
      ⟨some 62, .load false 1 (.t 61), none⟩,
      ⟨some 63, .mv (.t 4), none⟩,
      ⟨some 64, .nchk (.t 63), none⟩,
      ⟨some 65, .faddr 3 (.t 64), none⟩,
      ⟨some 66, .load false 1 (.t 65), none⟩,
      ⟨some 67, .mv (.t 4), none⟩,
      ⟨some 68, .nchk (.t 67), none⟩,
      ⟨some 69, .faddr 4 (.t 68), none⟩,
      ⟨some 70, .load false 1 (.t 69), none⟩,
      ⟨some 71, .iaddrS 5 (.t 62) (.t 66), none⟩,
      ⟨some 72, .faddr 4 (.t 71), none⟩,
      ⟨none, .store 1 (.t 72) (.t 70), none⟩] [[], [0], [1], [2], [], [4], [5], [6], [], [8], [9], [10], [3, 7, 0, 1, 2, 3, 4, 5, 6, 7, 8, 9, 10, 11], [12, 0, 1, 2, 3, 4, 5, 6, 7, 8, 9, 10, 11], [13, 11, 0, 1, 2, 3, 4, 5, 6, 7, 8, 9, 10, 11]])))
  (.seq (.reg [⟨some 73, .mv (.t 5), none⟩,
    ⟨some 74, .nchk (.t 73), none⟩,
    ⟨some 75, .faddr 2 (.t 74), none⟩,
    ⟨some 76, .load false 1 (.t 75), none⟩,
    ⟨some 77, .bin .sub (.t 76) (.k (.int .i64 1)), none⟩,
    ⟨some 78, .nchk (.t 73), none⟩,
    ⟨some 79, .faddr 2 (.t 78), none⟩,
    ⟨none, .store 1 (.t 79) (.t 77), none⟩])
  (.reg [⟨some 80, .mv (.t 4), none⟩,
    ⟨some 81, .mv (.t 4), none⟩,
    ⟨some 82, .mv (.t 4), none⟩,
    ⟨some 83, .nchk (.t 80), none⟩,
    ⟨some 84, .faddr 2 (.t 83), none⟩,
    ⟨none, .store 1 (.t 84) (.k (.int .i64 (-1))), none⟩,
    ⟨some 85, .nchk (.t 81), none⟩,
    ⟨some 86, .faddr 4 (.t 85), none⟩,
    ⟨none, .store 1 (.t 86) (.k (.int .i64 (-1))), none⟩,
    ⟨some 87, .nchk (.t 82), none⟩,
    ⟨some 88, .faddr 3 (.t 87), none⟩,
    ⟨none, .store 1 (.t 88) (.k (.int .i64 (-1))), none⟩])))))
theorem b63 : Body Try.prog 63 c63 [] 89 := ⟨by kernel_rfl, _, _, Try.func63, rfl, by kernel_rfl, by kernel_rfl, rfl⟩
def c64 : ACode :=
  .seq (.reg [⟨some 2, .mv (.k (.int .i64 0)), none⟩])
  (.seq (.reg [⟨some 3, .mv (.k (.int .i64 0)), none⟩])
  (.seq (.seq (.reg [⟨some 6, .mv (.t 0), none⟩,
    ⟨some 7, .len (.t 6), none⟩,
    ⟨some 8, .mv (.k (.int .i64 0)), none⟩])
  (.block 0 (.loop (.seq (.reg [⟨some 9, .bin .lss (.t 8) (.t 7), none⟩])
    (.seq (.cond (.t 9) (.skip)
      (.exit 0))
    (.seq (.block 1 (.seq (.reg [⟨some 10, .iaddrS 1 (.t 6) (.t 8), none⟩,
       ⟨some 11, .load false 1 (.t 10), none⟩,
       ⟨some 5, .mv (.t 11), none⟩])
     (.seq (.reg [⟨some 12, .mv (.t 5), none⟩,
       ⟨some 13, .mv (.t 3), none⟩,
       ⟨some 14, .bin .neq (.t 12) (.t 13), none⟩])
     (.cond (.t 14) (.seq (.reg [⟨some 15, .mv (.t 5), none⟩,
         ⟨some 2, .mv (.t 15), none⟩])
       (.ret))
       (.skip)))))
    (.reg [⟨some 16, .bin .add (.t 8) (.k (.int .i64 1)), none⟩,
      ⟨some 8, .mv (.t 16), none⟩])))))))
  (.seq (.reg [⟨some 17, .mv (.t 3), none⟩,
    ⟨some 2, .mv (.t 17), none⟩])
  (.ret))))
theorem b64 : Body Try.prog 64 c64 [.tmp 2] 18 := ⟨by kernel_rfl, _, _, Try.func64, rfl, by kernel_rfl, by kernel_rfl, rfl⟩
def c65 : ACode :=
  .seq (.reg [⟨some 4, .mv (.k (.int .i64 0)), none⟩])
  (.seq (.reg [⟨some 7, .mv (.t 0), none⟩,
    ⟨some 8, .call (.k (.fn 76 [] [])) [(.t 7)], none⟩,
    ⟨some 5, .mv (.t 8), none⟩])
  (.seq (.reg [⟨some 9, .mv (.t 1), none⟩,
    ⟨some 10, .call (.k (.fn 76 [] [])) [(.t 9)], none⟩,
    ⟨some 6, .mv (.t 10), none⟩])
  (.seq (.seq (.reg [⟨some 11, .mv (.t 5), none⟩])
  (.cond (.t 11) (.seq (.seq (.reg [⟨some 12, .mv (.t 6), none⟩])
    (.cond (.t 12) (.seq (.reg [⟨some 4, .mv (.k (.int .i64 0)), none⟩])
      (.ret))
      (.skip)))
    (.seq (.reg [⟨some 4, .mv (.k (.int .i64 (-1))), none⟩])
    (.ret)))
    (.skip)))
  (.seq (.seq (.reg [⟨some 13, .mv (.t 6), none⟩])
  (.cond (.t 13) (.seq (.reg [⟨some 4, .mv (.k (.int .i64 1)), none⟩])
    (.ret))
    (.skip)))
  (.seq (.seq (.reg [⟨some 14, .mv (.t 0), none⟩,
    ⟨some 15, .mv (.t 1), none⟩,
    ⟨some 16, .bin .lss (.t 14) (.t 15), none⟩])
  (.cond (.t 16) (.seq (.reg [⟨some 4, .mv (.k (.int .i64 (-1))), none⟩])
    (.ret))
    (.skip)))
  (.seq (.seq (.reg [⟨some 17, .mv (.t 0), none⟩,
    ⟨some 18, .mv (.t 1), none⟩,
    ⟨some 19, .bin .gtr (.t 17) (.t 18), none⟩])
  (.cond (.t 19) (.seq (.reg [⟨some 4, .mv (.k (.int .i64 1)), none⟩])
    (.ret))
    (.skip)))
  (.seq (.reg [⟨some 4, .mv (.k (.int .i64 0)), none⟩])
  (.ret))))))))
theorem b65 : Body Try.prog 65 c65 [.tmp 4] 20 := ⟨by kernel_rfl, _, _, Try.func65, rfl, by kernel_rfl, by kernel_rfl, rfl⟩
def c66 : ACode :=
  .seq (.reg [⟨some 4, .mv (.k (.int .i64 0)), none⟩])
  (.seq (.reg [⟨some 7, .mv (.t 0), none⟩,
    ⟨some 8, .call (.k (.fn 77 [] [])) [(.t 7)], none⟩,
    ⟨some 5, .mv (.t 8), none⟩])
  (.seq (.reg [⟨some 9, .mv (.t 1), none⟩,
    ⟨some 10, .call (.k (.fn 77 [] [])) [(.t 9)], none⟩,
    ⟨some 6, .mv (.t 10), none⟩])
  (.seq (.seq (.reg [⟨some 11, .mv (.t 5), none⟩])
  (.cond (.t 11) (.seq (.seq (.reg [⟨some 12, .mv (.t 6), none⟩])
    (.cond (.t 12) (.seq (.reg [⟨some 4, .mv (.k (.int .i64 0)), none⟩])
      (.ret))
      (.skip)))
    (.seq (.reg [⟨some 4, .mv (.k (.int .i64 (-1))), none⟩])
    (.ret)))
    (.skip)))
  (.seq (.seq (.reg [⟨some 13, .mv (.t 6), none⟩])
  (.cond (.t 13) (.seq (.reg [⟨some 4, .mv (.k (.int .i64 1)), none⟩])
    (.ret))
    (.skip)))
  (.seq (.seq (.reg [⟨some 14, .mv (.t 0), none⟩,
    ⟨some 15, .mv (.t 1), none⟩,
    ⟨some 16, .bin .lss (.t 14) (.t 15), none⟩])
  (.cond (.t 16) (.seq (.reg [⟨some 4, .mv (.k (.int .i64 (-1))), none⟩])
    (.ret))
    (.skip)))
  (.seq (.seq (.reg [⟨some 17, .mv (.t 0), none⟩,
    ⟨some 18, .mv (.t 1), none⟩,
    ⟨some 19, .bin .gtr (.t 17) (.t 18), none⟩])
  (.cond (.t 19) (.seq (.reg [⟨some 4, .mv (.k (.int .i64 1)), none⟩])
    (.ret))
    (.skip)))
  (.seq (.reg [⟨some 4, .mv (.k (.int .i64 0)), none⟩])
  (.ret))))))))
theorem b66 : Body Try.prog 66 c66 [.tmp 4] 20 := ⟨by kernel_rfl, _, _, Try.func66, rfl, by kernel_rfl, by kernel_rfl, rfl⟩
def c67 : ACode :=
  .seq (.reg [⟨some 4, .mv (.k .nilp), none⟩])
  (.seq (.regD [⟨some 8, .mv (.t 0), none⟩,
    ⟨some 9, .mks 5 40 [(.int .i64 0), (.int .i64 0), (.int .i64 0), (.int .i64 0), (.int .i64 0)] (.t 8) (.t 8), none⟩,
    ⟨some 10, .mv (.t 1), none⟩,
    ⟨some 11, .mks 3 24 [(.int .i64 0), (.int .i64 0), (.int .i64 0)] (.t 10) (.t 10), none⟩,
    ⟨some 12, .build [.nils, .nils, (.int .i64 0)] [(0, 1, (.t 9)), (1, 1, (.t 11))], none⟩,
    ⟨some 13, .box (.t 12), none⟩,
    ⟨some 5, .mv (.t 13), none⟩] [[], [0, 0], [], [2, 2], [1, 3], [4], [5, 0, 1, 2, 3, 4, 5]])
  (.seq (.seq (.reg [⟨some 14, .mv (.t 5), none⟩,
    ⟨some 15, .nchk (.t 14), none⟩,
    ⟨some 16, .faddr 0 (.t 15), none⟩,
    ⟨some 17, .load false 1 (.t 16), none⟩,
    ⟨some 18, .len (.t 17), none⟩,
    ⟨some 19, .mv (.k (.int .i64 0)), none⟩])
  (.block 0 (.loop (.seq (.reg [⟨some 20, .bin .lss (.t 19) (.t 18), none⟩])
    (.seq (.cond (.t 20) (.skip)
      (.exit 0))
    (.seq (.block 1 (.seq (.reg [⟨some 21, .mv (.t 19), none⟩,
       ⟨some 6, .mv (.t 21), none⟩])
     (.reg [⟨some 22, .mv (.t 5), none⟩,
       ⟨some 23, .nchk (.t 22), none⟩,
       ⟨some 24, .faddr 0 (.t 23), none⟩,
       ⟨some 25, .load false 1 (.t 24), none⟩,
       ⟨some 26, .mv (.t 6), none⟩,
       ⟨some 27, .build [(.int .i64 0), (.int .i64 0), (.int .i64 0), (.int .i64 0), (.int .i64 0)] [(2, 1, (.k (.int .i64 (-1)))), (3, 1, (.k (.int .i64 (-1)))), (4, 1, (.k (.int .i64 (-1))))], none⟩,
       ⟨some 28, .iaddrS 5 (.t 25) (.t 26), none⟩,
       ⟨none, .store 5 (.t 28) (.t 27), none⟩])))
    (.reg [⟨some 29, .bin .add (.t 19) (.k (.int .i64 1)), none⟩,
      ⟨some 19, .mv (.t 29), none⟩])))))))
  (.seq (.seq (.reg [⟨some 30, .mv (.t 5), none⟩,
    ⟨some 31, .nchk (.t 30), none⟩,
    ⟨some 32, .faddr 1 (.t 31), none⟩,
    ⟨some 33, .load false 1 (.t 32), none⟩,
    ⟨some 34, .len (.t 33), none⟩,
    ⟨some 35, .mv (.k (.int .i64 0)), none⟩])
  (.block 2 (.loop (.seq (.reg [⟨some 36, .bin .lss (.t 35) (.t 34), none⟩])
    (.seq (.cond (.t 36) (.skip)
      (.exit 2))
    (.seq (.block 3 (.seq (.reg [⟨some 37, .mv (.t 35), none⟩,
       ⟨some 7, .mv (.t 37), none⟩])
     (.reg [⟨some 38, .mv (.t 5), none⟩,
       ⟨some 39, .nchk (.t 38), none⟩,
       ⟨some 40, .faddr 1 (.t 39), none⟩,
       ⟨some 41, .load false 1 (.t 40), none⟩,
       ⟨some 42, .mv (.t 7), none⟩,
       ⟨some 43, .build [(.int .i64 0), (.int .i64 0), (.int .i64 0)] [(0, 1, (.k (.int .i64 (-1)))), (1, 1, (.k (.int .i64 (-1)))), (2, 1, (.k (.int .i64 0)))], none⟩,
       ⟨some 44, .iaddrS 3 (.t 41) (.t 42), none⟩,
       ⟨none, .store 3 (.t 44) (.t 43), none⟩])))
    (.reg [⟨some 45, .bin .add (.t 35) (.k (.int .i64 1)), none⟩,
      ⟨some 35, .mv (.t 45), none⟩])))))))
  (.seq (.reg [⟨some 46, .mv (.t 5), none⟩,
    ⟨some 4, .mv (.t 46), none⟩])
  (.ret)))))
theorem b67 : Body Try.prog 67 c67 [.tmp 4] 47 := ⟨by kernel_rfl, _, _, Try.func67, rfl, by kernel_rfl, by kernel_rfl, rfl⟩
def c68 : ACode :=
  .seq (.reg [⟨some 2, .box (.t 0), none⟩,
    ⟨some 4, .mv (.k (.int .i64 0)), none⟩])
  (.seq (.seq (.reg [⟨some 5, .mv (.k (.int .i64 0)), none⟩])
  (.block 0 (.loop (.seq (.seq (.reg [⟨some 6, .mv (.t 5), none⟩,
      ⟨some 7, .faddr 3 (.t 2), none⟩,
      ⟨some 8, .load false 1 (.t 7), none⟩,
      ⟨some 9, .len (.t 8), none⟩,
      ⟨some 10, .bin .lss (.t 6) (.t 9), none⟩])
    (.cond (.t 10) (.skip)
      (.exit 0)))
    (.seq (.block 1 (.seq (.reg [⟨some 13, .faddr 3 (.t 2), none⟩,
       ⟨some 14, .load false 1 (.t 13), none⟩,
       ⟨some 15, .mv (.t 5), none⟩,
       ⟨some 16, .iaddrS 2 (.t 14) (.t 15), none⟩,
       ⟨some 17, .faddr 0 (.t 16), none⟩,
       ⟨some 18, .load false 1 (.t 17), none⟩,
       ⟨some 19, .mv (.t 1), none⟩,
       ⟨some 20, .bin .eql (.t 18) (.t 19), none⟩])
     (.cond (.t 20) (.seq (.reg [⟨some 21, .mv (.t 5), none⟩,
         ⟨some 4, .mv (.t 21), none⟩])
       (.ret))
       (.skip))))
    (.reg [⟨some 11, .mv (.t 5), none⟩,
      ⟨some 12, .bin .add (.t 11) (.k (.int .i64 1)), none⟩,
      ⟨some 5, .mv (.t 12), none⟩]))))))
  (.seq (.reg [⟨some 4, .mv (.k (.int .i64 (-1))), none⟩])
  (.ret)))
theorem b68 : Body Try.prog 68 c68 [.tmp 4] 22 := ⟨by kernel_rfl, _, _, Try.func68, rfl, by kernel_rfl, by kernel_rfl, rfl⟩
def c69 : ACode :=
  .seq (.reg [⟨some 2, .box (.t 0), none⟩,
    ⟨some 4, .new [(.int .i64 0), (.int .i64 0), (.int .i64 0), .nils], none⟩])
  (.seq (.regD [⟨some 5, .bslice 2 0 [] [], none⟩,
    ⟨some 6, .faddr 3 (.t 2), none⟩,
    ⟨some 7, .load false 1 (.t 6), none⟩,
    ⟨some 8, .mv (.t 1), none⟩,
    ⟨some 9, .slS 2 (.t 7) none (some (.t 8)) none, none⟩,
    ⟨some 10, .append 2 16 (.t 5) (.t 9), none⟩,
    ⟨some 11, .faddr 3 (.t 2), none⟩,
    ⟨some 12, .load false 1 (.t 11), none⟩,
    ⟨some 13, .mv (.t 1), none⟩,
    ⟨some 14, .bin .add (.t 13) (.k (.int .i64 1)), none⟩,
    ⟨some 15, .slS 2 (.t 12) (some (.t 14)) none none, none⟩,
    ⟨some 16, .append 2 16 (.t 10) (.t 15), none⟩,
    ⟨some 17, .faddr 3 (.t 2), none⟩,
    ⟨none, .store 1 (.t 17) (.t 16), none⟩] [[], [], [1], [], [2, 3], [0, 4], [], [6], [], [8], [7, 9], [5, 10, 5], [0, 1, 2, 3, 4, 5, 6, 7, 8, 9, 10, 11], [12, 11, 11, 0, 1, 2, 3, 4, 5, 6, 7, 8, 9, 10, 11]])
  (.seq (.reg [⟨some 18, .load true 4 (.t 2), none⟩,
    ⟨none, .store 4 (.t 4) (.t 18), none⟩])
  (.ret)))
theorem b69 : Body Try.prog 69 c69 [.cell 4 true 4] 19 := ⟨by kernel_rfl, _, _, Try.func69, rfl, by kernel_rfl, by kernel_rfl, rfl⟩
def c70 : ACode :=
  .seq (.reg [⟨some 3, .box (.t 0), none⟩,
    ⟨some 4, .box (.t 1), none⟩,
    ⟨some 6, .mv (.k (.bool false)), none⟩])
  (.seq (.reg [⟨some 7, .faddr 1 (.t 4), none⟩,
    ⟨some 8, .load false 1 (.t 7), none⟩,
    ⟨some 9, .faddr 0 (.t 3), none⟩,
    ⟨some 10, .load false 1 (.t 9), none⟩,
    ⟨some 11, .bin .add (.t 8) (.t 10), none⟩,
    ⟨some 12, .mv (.t 2), none⟩,
    ⟨some 13, .bin .leq (.t 11) (.t 12), none⟩,
    ⟨some 6, .mv (.t 13), none⟩])
  (.ret))
theorem b70 : Body Try.prog 70 c70 [.tmp 6] 14 := ⟨by kernel_rfl, _, _, Try.func70, rfl, by kernel_rfl, by kernel_rfl, rfl⟩
def c71 : ACode :=
  .seq (.reg [⟨some 4, .mv (.k (.int .i64 0)), none⟩])
  (.seq (.block 0 (.seq (.reg [⟨some 6, .mv (.t 0), none⟩,
     ⟨some 7, .call (.k (.fn 75 [] [])) [(.t 6)], none⟩,
     ⟨some 8, .un .not (.t 7), none⟩,
     ⟨some 5, .mv (.t 8), none⟩])
   (.cond (.t 5) (.seq (.reg [⟨some 4, .mv (.k (.int .i64 1)), none⟩])
     (.ret))
     (.seq (.reg [⟨some 10, .mv (.t 1), none⟩,
       ⟨some 11, .bin .lss (.t 10) (.k (.int .i64 0)), none⟩,
       ⟨some 12, .mv (.t 11), none⟩,
       ⟨some 13, .mv (.t 1), some (12, false)⟩,
       ⟨some 14, .mv (.t 0), some (12, false)⟩,
       ⟨some 15, .nchk (.t 14), some (12, false)⟩,
       ⟨some 16, .faddr 1 (.t 15), some (12, false)⟩,
       ⟨some 17, .load false 1 (.t 16), some (12, false)⟩,
       ⟨some 18, .len (.t 17), some (12, false)⟩,
       ⟨some 19, .bin .geq (.t 13) (.t 18), some (12, false)⟩,
       ⟨some 20, .pick (.t 12) (.k (.bool true)) (.t 19), none⟩,
       ⟨some 9, .mv (.t 20), none⟩])
     (.cond (.t 9) (.seq (.reg [⟨some 4, .mv (.k (.int .i64 7)), none⟩])
       (.ret))
       (.skip))))))
  (.seq (.reg [⟨some 4, .mv (.k (.int .i64 0)), none⟩])
  (.ret)))
theorem b71 : Body Try.prog 71 c71 [.tmp 4] 21 := ⟨by kernel_rfl, _, _, Try.func71, rfl, by kernel_rfl, by kernel_rfl, rfl⟩
def c72 : ACode :=
  .seq (.reg [⟨some 2, .mv (.k (.int .i64 0)), none⟩])
  (.seq (.block 0 (.loop (.seq (.seq (.regD [⟨some 3, .mv (.t 0), none⟩,
      ⟨some 4, .nchk (.t 3), none⟩,
      ⟨some 5, .faddr 2 (.t 4), none⟩,
      ⟨some 6, .load false 1 (.t 5), none⟩,
      ⟨some 7, .mv (.t 0), none⟩,
      ⟨some 8, .nchk (.t 7), none⟩,
      ⟨some 9, .faddr 0 (.t 8), none⟩,
      ⟨some 10, .load false 1 (.t 9), none⟩,
      ⟨some 11, .len (.t 10), none⟩,
      ⟨some 12, .bin .lss (.t 6) (.t 11), none⟩] [[], [0], [1], [2], [], [4], [5], [6], [7], [3, 8]])
    (.cond (.t 12) (.skip)
      (.exit 0)))
    (.seq (.block 1 (.seq (.regD [⟨some 20, .mv (.t 0), none⟩,
       ⟨some 21, .nchk (.t 20), none⟩,
       ⟨some 22, .faddr 0 (.t 21), none⟩,
       ⟨some 23, .load false 1 (.t 22), none⟩,
       ⟨some 24, .mv (.t 0), none⟩,
       ⟨some 25, .nchk (.t 24), none⟩,
       ⟨some 26, .faddr 2 (.t 25), none⟩,
       ⟨some 27, .load false 1 (.t 26), none⟩,
       ⟨some 28, .iaddrS 5 (.t 23) (.t 27), none⟩,
       ⟨some 29, .faddr 2 (.t 28), none⟩,
       ⟨some 30, .load false 1 (.t 29), none⟩,
       ⟨some 31, .bin .eql (.t 30) (.k (.int .i64 (-1))), none⟩] [[], [0], [1], [2], [], [4], [5], [6], [3, 7], [8], [9], [10]])
     (.cond (.t 31) (.seq (.reg [⟨some 32, .mv (.t 0), none⟩,
         ⟨some 33, .nchk (.t 32), none⟩,
         ⟨some 34, .faddr 2 (.t 33), none⟩,
         ⟨some 35, .load false 1 (.t 34), none⟩,
         ⟨some 2, .mv (.t 35), none⟩])
       (.ret))
       (.skip))))
    (.reg [⟨some 13, .mv (.t 0), none⟩,
      ⟨some 14, .nchk (.t 13), none⟩,
      ⟨some 15, .faddr 2 (.t 14), none⟩,
      ⟨some 16, .load false 1 (.t 15), none⟩,
      ⟨some 17, .bin .add (.t 16) (.k (.int .i64 1)), none⟩,
      ⟨some 18, .nchk (.t 13), none⟩,
      ⟨some 19, .faddr 2 (.t 18), none⟩,
      ⟨none, .store 1 (.t 19) (.t 17), none⟩])))))
  (.seq (.reg [⟨some 2, .mv (.k (.int .i64 (-1))), none⟩])
  (.ret)))
theorem b72 : Body Try.prog 72 c72 [.tmp 2] 36 := ⟨by kernel_rfl, _, _, Try.func72, rfl, by kernel_rfl, by kernel_rfl, rfl⟩
def c73 : ACode :=
  .seq (.regD [⟨some 12, .mv (.t 0), none⟩,
    ⟨some 13, .nchk (.t 12), none⟩,
    ⟨some 14, .faddr 0 (.t 13), none⟩,
    ⟨some 15, .load false 1 (.t 14), none⟩,
    ⟨some 16, .mv (.t 1), none⟩,
    ⟨some 17, .iaddrS 5 (.t 15) (.t 16), none⟩,
    ⟨some 18, .mv (.t 0), none⟩,
    ⟨some 19, .nchk (.t 18), none⟩,
    ⟨some 20, .faddr 1 (.t 19), none⟩,
    ⟨some 21, .load false 1 (.t 20), none⟩,
    ⟨some 22, .mv (.t 2), none⟩,
    ⟨some 23, .iaddrS 3 (.t 21) (.t 22), none⟩,
    ⟨some 10, .mv (.t 17), none⟩,
    ⟨some 11, .mv (.t 23), none⟩] [[], [0], [1], [2], [], [3, 4], [], [6], [7], [8], [], [9, 10], [5, 0, 1, 2, 3, 4, 5], [11, 12, 0, 1, 2, 3, 4, 5, 6, 7, 8, 9, 10, 11, 12]])
  (.seq (.reg [⟨some 24, .mv (.t 10), none⟩,
    ⟨some 25, .mv (.t 10), none⟩,
    ⟨some 26, .mv (.t 10), none⟩,
    ⟨some 27, .mv (.t 2), none⟩,
    ⟨some 28, .mv (.t 3), none⟩,
    ⟨some 29, .mv (.t 4), none⟩,
    ⟨some 30, .nchk (.t 24), none⟩,
    ⟨some 31, .faddr 2 (.t 30), none⟩,
    ⟨none, .store 1 (.t 31) (.t 27), none⟩,
    ⟨some 32, .nchk (.t 25), none⟩,
    ⟨some 33, .faddr 4 (.t 32), none⟩,
    ⟨none, .store 1 (.t 33) (.t 28), none⟩,
    ⟨some 34, .nchk (.t 26), none⟩,
    ⟨some 35, .faddr 3 (.t 34), none⟩,
    ⟨none, .store 1 (.t 35) (.t 29), none⟩])
  (.seq (.seq (.reg [⟨some 36, .mv (.t 3), none⟩,
    ⟨some 37, .bin .eql (.t 36) (.k (.int .i64 (-1))), none⟩])
  (.cond (.t 37) (.reg [⟨some 38, .mv (.t 11), none⟩,
      ⟨some 39, .mv (.t 1), none⟩,
      ⟨some 40, .nchk (.t 38), none⟩,
      ⟨some 41, .faddr 0 (.t 40), none⟩,
      ⟨none, .store 1 (.t 41) (.t 39), none⟩])
    (.reg [⟨some 42, .mv (.t 0), none⟩,
      ⟨some 43, .nchk (.t 42), none⟩,
      ⟨some 44, .faddr 0 (.t 43), none⟩,
      ⟨some 45, .load false 1 (.t 44), none⟩,
      ⟨some 46, .mv (.t 3), none⟩,
      ⟨some 47, .mv (.t 1), none⟩,
      ⟨some 48, .iaddrS 5 (.t 45) (.t 46), none⟩,
      ⟨some 49, .faddr 3 (.t 48), none⟩,
      ⟨none, .store 1 (.t 49) (.t 47), none⟩])))
  (.seq (.seq (.reg [⟨some 50, .mv (.t 4), none⟩,
    ⟨some 51, .bin .eql (.t 50) (.k (.int .i64 (-1))), none⟩])
  (.cond (.t 51) (.reg [⟨some 52, .mv (.t 11), none⟩,
      ⟨some 53, .mv (.t 1), none⟩,
      ⟨some 54, .nchk (.t 52), none⟩,
      ⟨some 55, .faddr 1 (.t 54), none⟩,
      ⟨none, .store 1 (.t 55) (.t 53), none⟩])
    (.reg [⟨some 56, .mv (.t 0), none⟩,
      ⟨some 57, .nchk (.t 56), none⟩,
      ⟨some 58, .faddr 0 (.t 57), none⟩,
      ⟨some 59, .load false 1 (.t 58), none⟩,
      ⟨some 60, .mv (.t 4), none⟩,
      ⟨some 61, .mv (.t 1), none⟩,
      ⟨some 62, .iaddrS 5 (.t 59) (.t 60), none⟩,
      ⟨some 63, .faddr 4 (.t 62), none⟩,
      ⟨none, .store 1 (.t 63) (.t 61), none⟩])))
  (.reg [⟨some 64, .mv (.t 11), none⟩,
    ⟨some 65, .nchk (.t 64), none⟩,
    ⟨some 66, .faddr 2 (.t 65), none⟩,
    ⟨some 67, .load false 1 (.t 66), none⟩,
    ⟨some 68, .bin .add (.t 67) (.k (.int .i64 1)), none⟩,
    ⟨some 69, .nchk (.t 64), none⟩,
    ⟨some 70, .faddr 2 (.t 69), none⟩,
    ⟨none, .store 1 (.t 70) (.t 68), none⟩]))))
theorem b73 : Body Try.prog 73 c73 [] 71 := ⟨by kernel_rfl, _, _, Try.func73, rfl, by kernel_rfl, by kernel_rfl, rfl⟩
def c74 : ACode :=
  .seq (.reg [⟨some 8, .mv (.t 3), none⟩])
  (.cond (.t 8) (.reg [⟨some 9, .mv (.t 0), none⟩,
      ⟨some 10, .mv (.t 1), none⟩,
      ⟨some 11, .mv (.t 2), none⟩,
      ⟨some 12, .mv (.t 0), none⟩,
      ⟨some 13, .nchk (.t 12), none⟩,
      ⟨some 14, .faddr 1 (.t 13), none⟩,
      ⟨some 15, .load false 1 (.t 14), none⟩,
      ⟨some 16, .mv (.t 2), none⟩,
      ⟨some 17, .iaddrS 3 (.t 15) (.t 16), none⟩,
      ⟨some 18, .faddr 0 (.t 17), none⟩,
      ⟨some 19, .load false 1 (.t 18), none⟩,
      ⟨some 20, .call (.k (.fn 73 [] [])) [(.t 9), (.t 10), (.t 11), (.k (.int .i64 (-1))), (.t 19)], none⟩])
    (.reg [⟨some 21, .mv (.t 0), none⟩,
      ⟨some 22, .mv (.t 1), none⟩,
      ⟨some 23, .mv (.t 2), none⟩,
      ⟨some 24, .mv (.t 0), none⟩,
      ⟨some 25, .nchk (.t 24), none⟩,
      ⟨some 26, .faddr 1 (.t 25), none⟩,
      ⟨some 27, .load false 1 (.t 26), none⟩,
      ⟨some 28, .mv (.t 2), none⟩,
      ⟨some 29, .iaddrS 3 (.t 27) (.t 28), none⟩,
      ⟨some 30, .faddr 1 (.t 29), none⟩,
      ⟨some 31, .load false 1 (.t 30), none⟩,
      ⟨some 32, .call (.k (.fn 73 [] [])) [(.t 21), (.t 22), (.t 23), (.t 31), (.k (.int .i64 (-1)))], none⟩]))
theorem b74 : Body Try.prog 74 c74 [] 33 := ⟨by kernel_rfl, _, _, Try.func74, rfl, by kernel_rfl, by kernel_rfl, rfl⟩
def c75 : ACode :=
  .seq (.reg [⟨some 2, .mv (.k (.bool false)), none⟩])
  (.seq (.reg [⟨some 3, .mv (.t 0), none⟩,
    ⟨some 4, .eqp true false (.t 3) (.k .nilp), none⟩,
    ⟨some 5, .mv (.t 4), none⟩,
    ⟨some 6, .mv (.t 0), some (5, true)⟩,
    ⟨some 7, .nchk (.t 6), some (5, true)⟩,
    ⟨some 8, .faddr 0 (.t 7), some (5, true)⟩,
    ⟨some 9, .load false 1 (.t 8), some (5, true)⟩,
    ⟨some 10, .len (.t 9), some (5, true)⟩,
    ⟨some 11, .bin .gtr (.t 10) (.k (.int .i64 0)), some (5, true)⟩,
    ⟨some 12, .pick (.t 5) (.t 11) (.k (.bool false)), none⟩,
    ⟨some 2, .mv (.t 12), none⟩])
  (.ret))
theorem b75 : Body Try.prog 75 c75 [.tmp 2] 13 := ⟨by kernel_rfl, _, _, Try.func75, rfl, by kernel_rfl, by kernel_rfl, rfl⟩
def c76 : ACode :=
  .seq (.reg [⟨some 2, .mv (.k (.bool false)), none⟩])
  (.seq (.reg [⟨some 3, .mv (.t 0), none⟩,
    ⟨some 4, .mv (.t 0), none⟩,
    ⟨some 5, .bin .neq (.t 3) (.t 4), none⟩,
    ⟨some 2, .mv (.t 5), none⟩])
  (.ret))
theorem b76 : Body Try.prog 76 c76 [.tmp 2] 6 := ⟨by kernel_rfl, _, _, Try.func76, rfl, by kernel_rfl, by kernel_rfl, rfl⟩
def c77 : ACode :=
  .seq (.reg [⟨some 2, .mv (.k (.bool false)), none⟩])
  (.seq (.reg [⟨some 3, .mv (.t 0), none⟩,
    ⟨some 4, .mv (.t 0), none⟩,
    ⟨some 5, .bin .neq (.t 3) (.t 4), none⟩,
    ⟨some 2, .mv (.t 5), none⟩])
  (.ret))
theorem b77 : Body Try.prog 77 c77 [.tmp 2] 6 := ⟨by kernel_rfl, _, _, Try.func77, rfl, by kernel_rfl, by kernel_rfl, rfl⟩
end Go.Proofs.Ytggkpagngnnjjaa
