/-
  Abstract code of functions, printed by a program, and that it is theirs.
-/
import Derived.Test.YtccbhbdbmmkcdaaProg
import Derived.Test.YtccbhbdbmmkcdaaZz
set_option linter.unusedSimpArgs false
set_option linter.unusedVariables false
namespace Go.Proofs.Ytccbhbdbmmkcdaa
open Go.Am
def c7 : ACode :=
  .seq (.reg [⟨some 3, .box (.t 0), none⟩,
    ⟨some 4, .box (.t 1), none⟩,
    ⟨some 6, .new [(.bool false)], none⟩])
  (.seq (.reg [⟨some 22, .load true 1 (.t 3), none⟩,
    ⟨some 23, .call (.k (.fn 10 [] [])) [(.t 22)], none⟩,
    ⟨some 21, .mv (.t 23), none⟩,
    ⟨some 24, .ext (.t 21) 0, none⟩,
    ⟨some 25, .ext (.t 21) 1, none⟩,
    ⟨some 7, .new [.nilp], none⟩,
    ⟨none, .store 1 (.t 7) (.t 24), none⟩,
    ⟨some 8, .mv (.t 25), none⟩])
  (.seq (.seq (.reg [⟨some 26, .load false 1 (.t 7), none⟩,
    ⟨some 27, .eqp false false (.t 26) (.k .nilp), none⟩])
  (.cond (.t 27) (.seq (.reg [⟨some 28, .call (.k (.fn 11 [] [])) [], none⟩,
      ⟨none, .store 1 (.t 6) (.t 28), none⟩])
    (.ret))
    (.skip)))
  (.seq (.seq (.reg [⟨some 29, .load false 1 (.t 7), none⟩,
    ⟨some 30, .load true 4 (.t 4), none⟩,
    ⟨some 31, .call (.k (.fn 26 [] [])) [(.t 29), (.t 30)], none⟩,
    ⟨some 32, .bin .eql (.t 31) (.k (.int .i64 0)), none⟩])
  (.cond (.t 32) (.seq (.reg [⟨some 34, .load false 1 (.t 7), none⟩,
      ⟨some 35, .faddr 2 (.t 4), none⟩,
      ⟨some 36, .load false 1 (.t 35), none⟩,
      ⟨some 37, .call (.k (.fn 12 [] [])) [(.t 34), (.t 36)], none⟩,
      ⟨some 33, .mv (.t 37), none⟩,
      ⟨some 38, .ext (.t 33) 0, none⟩,
      ⟨some 39, .ext (.t 33) 1, none⟩,
      ⟨some 9, .mv (.t 38), none⟩,
      ⟨some 10, .mv (.t 39), none⟩])
    (.seq (.reg [⟨some 41, .load false 1 (.t 7), none⟩,
      ⟨some 42, .faddr 0 (.t 4), none⟩,
      ⟨some 43, .load false 1 (.t 42), none⟩,
      ⟨some 44, .faddr 1 (.t 4), none⟩,
      ⟨some 45, .load false 1 (.t 44), none⟩,
      ⟨some 46, .call (.k (.fn 27 [] [])) [(.t 41), (.t 43), (.t 45)], none⟩,
      ⟨some 40, .mv (.t 46), none⟩,
      ⟨some 47, .ext (.t 40) 0, none⟩,
      ⟨some 48, .ext (.t 40) 1, none⟩,
      ⟨some 49, .ext (.t 40) 2, none⟩,
      ⟨some 11, .mv (.t 47), none⟩,
      ⟨some 12, .mv (.t 48), none⟩,
      ⟨some 13, .mv (.t 49), none⟩])
    (.seq (.reg [⟨some 50, .mv (.t 10), none⟩,
      ⟨some 51, .bin .neq (.t 50) (.k (.int .i64 0)), none⟩,
      ⟨some 52, .mv (.t 51), none⟩,
      ⟨some 53, .mv (.t 13), some (52, false)⟩,
      ⟨some 54, .bin .neq (.t 53) (.k (.int .i64 0)), some (52, false)⟩,
      ⟨some 55, .pick (.t 52) (.k (.bool true)) (.t 54), none⟩,
      ⟨some 56, .mv (.t 55), none⟩,
      ⟨some 57, .mv (.t 11), some (56, false)⟩,
      ⟨some 58, .faddr 2 (.t 4), some (56, false)⟩,
      ⟨some 59, .load false 1 (.t 58), some (56, false)⟩,
      ⟨some 60, .bin .neq (.t 57) (.t 59), some (56, false)⟩,
      ⟨some 61, .pick (.t 56) (.k (.bool true)) (.t 60), none⟩,
      ⟨some 62, .mv (.t 61), none⟩,
      ⟨some 63, .mv (.t 12), some (62, false)⟩,
      ⟨some 64, .mv (.t 9), some (62, false)⟩,
      ⟨some 65, .bin .sub (.t 64) (.k (.int .i64 1)), some (62, false)⟩,
      ⟨some 66, .bin .neq (.t 63) (.t 65), some (62, false)⟩,
      ⟨some 67, .pick (.t 62) (.k (.bool true)) (.t 66), none⟩])
    (.cond (.t 67) (.seq (.reg [⟨none, .store 1 (.t 6) (.k (.bool false)), none⟩])
      (.ret))
      (.skip)))))
    (.skip)))
  (.seq (.seq (.regD [⟨some 68, .load false 1 (.t 7), none⟩,
    ⟨some 69, .call (.k (.fn 17 [] [])) [(.t 68)], none⟩,
    ⟨some 70, .fld false 0 1 (.t 69), none⟩,
    ⟨some 71, .faddr 0 (.t 3), none⟩,
    ⟨some 72, .load false 1 (.t 71), none⟩,
    ⟨some 73, .call (.k (.fn 16 [] [])) [(.t 70), (.t 72)], none⟩,
    ⟨some 74, .un .not (.t 73), none⟩] [[], [0], [1], [], [3], [2, 4, 1], [5]])
  (.cond (.t 74) (.seq (.reg [⟨none, .store 1 (.t 6) (.k (.bool false)), none⟩])
    (.ret))
    (.skip)))
  (.seq (.reg [⟨some 75, .mv (.t 2), none⟩,
    ⟨some 76, .conv .i64 (.t 75), none⟩,
    ⟨some 77, .bin .rem (.t 76) (.k (.int .i64 64)), none⟩,
    ⟨some 14, .mv (.t 77), none⟩])
  (.seq (.reg [⟨some 78, .load true 1 (.t 3), none⟩,
    ⟨some 79, .mv (.t 14), none⟩,
    ⟨some 80, .call (.k (.fn 19 [] [])) [(.t 78), (.t 79)], none⟩,
    ⟨some 15, .new [.nils], none⟩,
    ⟨none, .store 1 (.t 15) (.t 80), none⟩])
  (.seq (.reg [⟨some 16, .new [(.int .i64 0)], none⟩,
    ⟨none, .store 1 (.t 16) (.k (.int .i64 0)), none⟩])
  (.seq (.seq (.reg [⟨some 81, .load false 1 (.t 7), none⟩,
    ⟨some 82, .mv (.t 14), none⟩,
    ⟨some 83, .call (.k (.fn 28 [] [])) [(.t 81), (.t 82)], none⟩])
  (.block 0 (.rangeF (.t 83) [84] (.reg [⟨some 17, .new [(.int .i64 0), (.int .i64 0), (.int .i64 0), (.bool false)], none⟩,
       ⟨none, .store 4 (.t 17) (.t 84), none⟩])
     (.block 1 (.seq (.seq (.regD [⟨some 85, .load false 1 (.t 16), none⟩,
        ⟨some 86, .load false 1 (.t 15), none⟩,
        ⟨some 87, .len (.t 86), none⟩,
        ⟨some 88, .bin .geq (.t 85) (.t 87), none⟩,
        ⟨some 89, .mv (.t 88), none⟩,
        ⟨some 90, .load true 4 (.t 17), some (89, false)⟩,
        ⟨some 91, .load false 1 (.t 15), some (89, false)⟩,
        ⟨some 92, .load false 1 (.t 16), some (89, false)⟩,
        ⟨some 93, .iaddrS 4 (.t 91) (.t 92), some (89, false)⟩,
        ⟨some 94, .load true 4 (.t 93), some (89, false)⟩,
        ⟨some 95, .eqs true [0, 0, 0, 1] (.t 90) (.t 94), some (89, false)⟩,
        ⟨some 96, .pick (.t 89) (.k (.bool true)) (.t 95), none⟩] [[], [], [1], [0, 2], [3], [4], [4], [4], [6, 7, 4], [8, 4], [5, 9, 4], [4, 10]])
      (.cond (.t 96) (.seq (.reg [⟨none, .store 1 (.t 6) (.k (.bool false)), none⟩])
        (.ret))
        (.skip)))
      (.seq (.reg [⟨some 98, .load false 1 (.t 7), none⟩,
        ⟨some 99, .faddr 0 (.t 17), none⟩,
        ⟨some 100, .load false 1 (.t 99), none⟩,
        ⟨some 101, .faddr 1 (.t 17), none⟩,
        ⟨some 102, .load false 1 (.t 101), none⟩,
        ⟨some 103, .call (.k (.fn 27 [] [])) [(.t 98), (.t 100), (.t 102)], none⟩,
        ⟨some 97, .mv (.t 103), none⟩,
        ⟨some 104, .ext (.t 97) 0, none⟩,
        ⟨some 105, .ext (.t 97) 1, none⟩,
        ⟨some 106, .ext (.t 97) 2, none⟩,
        ⟨some 18, .mv (.t 104), none⟩,
        ⟨some 19, .mv (.t 105), none⟩,
        ⟨some 20, .mv (.t 106), none⟩])
      (.seq (.seq (.reg [⟨some 107, .mv (.t 20), none⟩,
        ⟨some 108, .bin .neq (.t 107) (.k (.int .i64 0)), none⟩,
        ⟨some 109, .mv (.t 108), none⟩,
        ⟨some 110, .mv (.t 18), some (109, false)⟩,
        ⟨some 111, .faddr 2 (.t 17), some (109, false)⟩,
        ⟨some 112, .load false 1 (.t 111), some (109, false)⟩,
        ⟨some 113, .bin .neq (.t 110) (.t 112), some (109, false)⟩,
        ⟨some 114, .pick (.t 109) (.k (.bool true)) (.t 113), none⟩])
      (.cond (.t 114) (.seq (.reg [⟨none, .store 1 (.t 6) (.k (.bool false)), none⟩])
        (.ret))
        (.skip)))
      (.reg [⟨some 115, .load false 1 (.t 16), none⟩,
        ⟨some 116, .bin .add (.t 115) (.k (.int .i64 1)), none⟩,
        ⟨none, .store 1 (.t 16) (.t 116), none⟩]))))))))
  (.seq (.regD [⟨some 117, .load false 1 (.t 16), none⟩,
    ⟨some 118, .load false 1 (.t 15), none⟩,
    ⟨some 119, .len (.t 118), none⟩,
    ⟨some 120, .bin .eql (.t 117) (.t 119), none⟩,
    ⟨some 121, .mv (.t 120), none⟩,
    ⟨some 122, .load false 1 (.t 7), some (121, true)⟩,
    ⟨some 123, .mv (.t 14), some (121, true)⟩,
    ⟨some 124, .call (.k (.fn 18 [] [])) [(.t 122), (.t 123)], some (121, true)⟩,
    ⟨some 125, .len (.t 124), some (121, true)⟩,
    ⟨some 126, .bin .eql (.t 125) (.k (.int .i64 0)), some (121, true)⟩,
    ⟨some 127, .pick (.t 121) (.t 126) (.k (.bool false)), none⟩,
    ⟨some 128, .mv (.t 127), none⟩,
    ⟨some 129, .load false 1 (.t 7), some (128, true)⟩,
    ⟨some 130, .call (.k (.fn 17 [] [])) [(.t 129)], some (128, true)⟩,
    ⟨some 131, .fld false 0 1 (.t 130), some (128, true)⟩,
    ⟨some 132, .len (.t 131), some (128, true)⟩,
    ⟨some 133, .faddr 0 (.t 3), some (128, true)⟩,
    ⟨some 134, .load false 1 (.t 133), some (128, true)⟩,
    ⟨some 135, .len (.t 134), some (128, true)⟩,
    ⟨some 136, .load false 1 (.t 15), some (128, true)⟩,
    ⟨some 137, .len (.t 136), some (128, true)⟩,
    ⟨some 138, .bin .sub (.t 135) (.t 137), some (128, true)⟩,
    ⟨some 139, .bin .eql (.t 132) (.t 138), some (128, true)⟩,
    ⟨some 140, .pick (.t 128) (.t 139) (.k (.bool false)), none⟩,
    ⟨some 141, .mv (.t 140), none⟩,
    ⟨some 142, .call (.k (.fn 11 [] [])) [], some (141, true)⟩,
    ⟨some 143, .pick (.t 141) (.t 142) (.k (.bool false)), none⟩,
    ⟨none, .store 1 (.t 6) (.t 143), none⟩] [[], [], [1], [0, 2], [3], [4], [4], [5, 6, 4, 4], [7, 4], [8, 4], [4, 9], [10, 7], [11], [12, 11, 11], [13, 11], [14, 11], [11], [16, 11], [17, 11], [11], [19, 11], [18, 20, 11], [15, 21, 11], [11, 22], [23, 13], [24, 24], [24, 25], [26, 25, 0, 1, 2, 3, 4, 5, 6, 7, 8, 9, 10, 11, 12, 13, 14, 15, 16, 17, 18, 19, 20, 21, 22, 23, 24, 25, 26]])
  (.ret))))))))))
theorem b7 : Body Try.prog 7 c7 [.cell 6 false 1] 144 := ⟨by kernel_rfl, _, _, Try.func7, rfl, by kernel_rfl, by kernel_rfl, rfl⟩
def c10 : ACode :=
  .seq (.reg [⟨some 1, .box (.t 0), none⟩,
    ⟨some 2, .mv (.k .nilp), none⟩,
    ⟨some 3, .mv (.k .nilp), none⟩])
  (.seq (.seq (.reg [⟨some 14, .load true 1 (.t 1), none⟩,
    ⟨some 15, .call (.k (.fn 14 [] [])) [(.t 14)], none⟩,
    ⟨some 13, .mv (.t 15), none⟩,
    ⟨some 16, .ext (.t 13) 0, none⟩,
    ⟨some 17, .ext (.t 13) 1, none⟩,
    ⟨some 4, .mv (.t 16), none⟩,
    ⟨some 5, .mv (.t 17), none⟩])
  (.seq (.reg [⟨some 18, .mv (.t 5), none⟩,
    ⟨some 19, .bin .neq (.t 18) (.k (.int .i64 0)), none⟩,
    ⟨some 20, .mv (.t 19), none⟩,
    ⟨some 21, .faddr 0 (.t 1), some (20, false)⟩,
    ⟨some 22, .load false 1 (.t 21), some (20, false)⟩,
    ⟨some 23, .len (.t 22), some (20, false)⟩,
    ⟨some 24, .bin .gtr (.t 23) (.k (.int .i64 60)), some (20, false)⟩,
    ⟨some 25, .pick (.t 20) (.k (.bool true)) (.t 24), none⟩])
  (.cond (.t 25) (.seq (.reg [⟨some 2, .mv (.k .nilp), none⟩,
      ⟨some 3, .mv (.k .nilp), none⟩])
    (.ret))
    (.skip))))
  (.seq (.reg [⟨some 27, .load true 1 (.t 1), none⟩,
    ⟨some 28, .call (.k (.fn 15 [] [])) [(.t 27)], none⟩,
    ⟨some 26, .mv (.t 28), none⟩,
    ⟨some 29, .ext (.t 26) 0, none⟩,
    ⟨some 30, .ext (.t 26) 1, none⟩,
    ⟨some 6, .mv (.t 29), none⟩,
    ⟨some 7, .mv (.t 30), none⟩])
  (.seq (.seq (.reg [⟨some 31, .mv (.t 7), none⟩,
    ⟨some 32, .bin .neq (.t 31) (.k (.int .i64 0)), none⟩])
  (.cond (.t 32) (.seq (.reg [⟨some 2, .mv (.k .nilp), none⟩,
      ⟨some 3, .mv (.k .nilp), none⟩])
    (.ret))
    (.skip)))
  (.seq (.reg [⟨some 8, .mv (.k .nils), none⟩])
  (.seq (.seq (.reg [⟨some 9, .mv (.k (.int .i64 0)), none⟩])
  (.block 0 (.loop (.seq (.seq (.reg [⟨some 33, .mv (.t 9), none⟩,
      ⟨some 34, .faddr 0 (.t 1), none⟩,
      ⟨some 35, .load false 1 (.t 34), none⟩,
      ⟨some 36, .len (.t 35), none⟩,
      ⟨some 37, .bin .lss (.t 33) (.t 36), none⟩])
    (.cond (.t 37) (.skip)
      (.exit 0)))
    (.seq (.block 1 (.reg [⟨some 40, .mv (.t 8), none⟩,
       ⟨some 41, .faddr 0 (.t 1), none⟩,
       ⟨some 42, .load false 1 (.t 41), none⟩,
       ⟨some 43, .mv (.t 9), none⟩,
       ⟨some 44, .iaddrS 4 (.t 42) (.t 43), none⟩,
       ⟨some 45, .faddr 2 (.t 44), none⟩,
       ⟨some 46, .load false 1 (.t 45), none⟩,
       ⟨some 47, .bslice 1 1 [(.int .i64 0)] [(0, 1, (.t 46))], none⟩,
       ⟨some 48, .append 1 8 (.t 40) (.t 47), none⟩,
       ⟨some 8, .mv (.t 48), none⟩]))
    (.reg [⟨some 38, .mv (.t 9), none⟩,
      ⟨some 39, .bin .add (.t 38) (.k (.int .i64 1)), none⟩,
      ⟨some 9, .mv (.t 39), none⟩]))))))
  (.seq (.reg [⟨some 49, .mv (.t 8), none⟩,
    ⟨some 50, .call (.k (.fn 29 [] [])) [(.t 49)], none⟩,
    ⟨some 10, .mv (.t 50), none⟩])
  (.seq (.seq (.reg [⟨some 51, .mv (.t 10), none⟩,
    ⟨some 52, .eqp false false (.t 51) (.k .nilp), none⟩])
  (.cond (.t 52) (.seq (.reg [⟨some 2, .mv (.k .nilp), none⟩,
      ⟨some 3, .mv (.k .nilp), none⟩])
    (.ret))
    (.skip)))
  (.seq (.seq (.reg [⟨some 11, .mv (.k (.int .i64 0)), none⟩])
  (.block 2 (.loop (.seq (.seq (.reg [⟨some 53, .mv (.t 11), none⟩,
      ⟨some 54, .mv (.t 8), none⟩,
      ⟨some 55, .len (.t 54), none⟩,
      ⟨some 56, .bin .lss (.t 53) (.t 55), none⟩])
    (.cond (.t 56) (.skip)
      (.exit 2)))
    (.seq (.block 3 (.seq (.reg [⟨some 59, .mv (.t 8), none⟩,
       ⟨some 60, .mv (.t 11), none⟩,
       ⟨some 61, .iaddrS 1 (.t 59) (.t 60), none⟩,
       ⟨some 62, .load false 1 (.t 61), none⟩,
       ⟨some 63, .bin .mul (.t 62) (.k (.int .i64 64)), none⟩,
       ⟨some 12, .mv (.t 63), none⟩])
     (.seq (.regD [⟨some 64, .mv (.t 10), none⟩,
       ⟨some 65, .mv (.t 12), none⟩,
       ⟨some 66, .mv (.t 8), none⟩,
       ⟨some 67, .mv (.t 11), none⟩,
       ⟨some 68, .iaddrS 1 (.t 66) (.t 67), none⟩,
       ⟨some 69, .load false 1 (.t 68), none⟩,
       ⟨some 70, .bin .rem (.t 69) (.k (.int .i64 64)), none⟩,
       ⟨some 71, .bin .add (.t 65) (.t 70), none⟩,
       ⟨some 72, .mv (.t 8), none⟩,
       ⟨some 73, .mv (.t 11), none⟩,
       ⟨some 74, .iaddrS 1 (.t 72) (.t 73), none⟩,
       ⟨some 75, .load false 1 (.t 74), none⟩,
       ⟨some 76, .bin .rem (.t 75) (.k (.int .i64 255)), none⟩,
       ⟨some 77, .bin .add (.k (.int .i64 1)) (.t 76), none⟩,
       ⟨some 78, .conv .u8 (.t 77), none⟩,
       ⟨some 79, .call (.k (.fn 36 [] [])) [(.t 64), (.t 71), (.t 78)], none⟩,
       ⟨some 80, .bin .neq (.t 79) (.k (.int .i64 0)), none⟩,
       ⟨some 81, .mv (.t 80), none⟩,
       ⟨some 82, .mv (.t 10), some (81, false)⟩,
       ⟨some 83, .mv (.t 12), some (81, false)⟩,
       ⟨some 84, .bin .add (.t 83) (.k (.int .i64 5)), some (81, false)⟩,
       ⟨some 85, .mv (.t 11), some (81, false)⟩,
       ⟨some 86, .conv .u8 (.t 85), some (81, false)⟩,
       ⟨some 87, .call (.k (.fn 36 [] [])) [(.t 82), (.t 84), (.t 86)], some (81, false)⟩,
       ⟨some 88, .bin .neq (.t 87) (.k (.int .i64 0)), some (81, false)⟩,
       ⟨some 89, .pick (.t 81) (.k (.bool true)) (.t 88), none⟩] [[], [], [], [], [2, 3], [4], [5], [1, 6], [], [], [8, 9], [10], [11], [12], [13], [0, 7, 14], [15], [16, 15], [17], [17], [19, 17], [17], [21, 17], [18, 20, 22, 17, 17], [23, 17], [17, 24]])
     (.cond (.t 89) (.seq (.reg [⟨some 2, .mv (.k .nilp), none⟩,
         ⟨some 3, .mv (.k .nilp), none⟩])
       (.ret))
       (.skip)))))
    (.reg [⟨some 57, .mv (.t 11), none⟩,
      ⟨some 58, .bin .add (.t 57) (.k (.int .i64 1)), none⟩,
      ⟨some 11, .mv (.t 58), none⟩]))))))
  (.seq (.reg [⟨some 90, .mv (.t 6), none⟩,
    ⟨some 91, .mv (.t 10), none⟩,
    ⟨some 2, .mv (.t 90), none⟩,
    ⟨some 3, .mv (.t 91), none⟩])
  (.ret))))))))))
theorem b10 : Body Try.prog 10 c10 [.tmp 2, .tmp 3] 92 := ⟨by kernel_rfl, _, _, Try.func10, rfl, by kernel_rfl, by kernel_rfl, rfl⟩
def c11 : ACode :=
  .seq (.reg [⟨some 0, .mv (.k (.bool false)), none⟩])
  (.seq (.reg [⟨some 10, .bslice 1 2 [(.int .i64 0), (.int .i64 0)] [(0, 1, (.k (.int .i64 3))), (1, 1, (.k (.int .i64 4)))], none⟩,
    ⟨some 11, .call (.k (.fn 29 [] [])) [(.t 10)], none⟩,
    ⟨some 12, .call (.k (.fn 30 [] [])) [], none⟩,
    ⟨some 1, .mv (.t 11), none⟩,
    ⟨some 2, .mv (.t 12), none⟩])
  (.seq (.seq (.reg [⟨some 13, .mv (.t 1), none⟩,
    ⟨some 14, .eqp false false (.t 13) (.k .nilp), none⟩,
    ⟨some 15, .mv (.t 14), none⟩,
    ⟨some 16, .mv (.t 2), some (15, false)⟩,
    ⟨some 17, .eqp false false (.t 16) (.k .nilp), some (15, false)⟩,
    ⟨some 18, .pick (.t 15) (.k (.bool true)) (.t 17), none⟩])
  (.cond (.t 18) (.seq (.reg [⟨some 0, .mv (.k (.bool false)), none⟩])
    (.ret))
    (.skip)))
  (.seq (.reg [⟨some 19, .mv (.t 2), none⟩,
    ⟨some 20, .build [(.int .i64 0), (.int .i64 0), (.int .i64 0), (.bool false)] [(0, 1, (.k (.int .i64 1))), (2, 1, (.k (.int .i64 3))), (3, 1, (.k (.bool true)))], none⟩,
    ⟨some 21, .call (.k (.fn 26 [] [])) [(.t 19), (.t 20)], none⟩,
    ⟨some 22, .mv (.t 2), none⟩,
    ⟨some 23, .build [(.int .i64 0), (.int .i64 0), (.int .i64 0), (.bool false)] [(0, 1, (.k (.int .i64 2))), (1, 1, (.k (.int .i64 5))), (2, 1, (.k (.int .i64 3)))], none⟩,
    ⟨some 24, .call (.k (.fn 26 [] [])) [(.t 22), (.t 23)], none⟩,
    ⟨some 3, .mv (.t 21), none⟩,
    ⟨some 4, .mv (.t 24), none⟩])
  (.seq (.reg [⟨some 26, .mv (.t 2), none⟩,
    ⟨some 27, .call (.k (.fn 12 [] [])) [(.t 26), (.k (.int .i64 3))], none⟩,
    ⟨some 25, .mv (.t 27), none⟩,
    ⟨some 28, .ext (.t 25) 0, none⟩,
    ⟨some 29, .ext (.t 25) 1, none⟩,
    ⟨some 5, .mv (.t 28), none⟩,
    ⟨some 6, .mv (.t 29), none⟩])
  (.seq (.reg [⟨some 30, .mv (.t 2), none⟩,
    ⟨some 31, .mv (.t 1), none⟩,
    ⟨some 32, .call (.k (.fn 21 [] [])) [(.t 30), (.t 31), (.k (.int .i64 1)), (.k (.int .i64 10)), (.k (.int .u8 7))], none⟩,
    ⟨some 7, .mv (.t 32), none⟩])
  (.seq (.reg [⟨some 34, .mv (.t 2), none⟩,
    ⟨some 35, .mv (.t 1), none⟩,
    ⟨some 36, .call (.k (.fn 32 [] [])) [(.t 34), (.t 35), (.k (.int .i64 2)), (.k (.int .i64 330))], none⟩,
    ⟨some 33, .mv (.t 36), none⟩,
    ⟨some 37, .ext (.t 33) 0, none⟩,
    ⟨some 38, .ext (.t 33) 1, none⟩,
    ⟨some 8, .mv (.t 37), none⟩,
    ⟨some 9, .mv (.t 38), none⟩])
  (.seq (.reg [⟨some 39, .mv (.t 3), none⟩,
    ⟨some 40, .bin .eql (.t 39) (.k (.int .i64 0)), none⟩,
    ⟨some 41, .mv (.t 40), none⟩,
    ⟨some 42, .mv (.t 4), some (41, true)⟩,
    ⟨some 43, .bin .eql (.t 42) (.k (.int .i64 0)), some (41, true)⟩,
    ⟨some 44, .pick (.t 41) (.t 43) (.k (.bool false)), none⟩,
    ⟨some 45, .mv (.t 44), none⟩,
    ⟨some 46, .mv (.t 7), some (45, true)⟩,
    ⟨some 47, .bin .eql (.t 46) (.k (.int .i64 0)), some (45, true)⟩,
    ⟨some 48, .pick (.t 45) (.t 47) (.k (.bool false)), none⟩,
    ⟨some 49, .mv (.t 48), none⟩,
    ⟨some 50, .mv (.t 6), some (49, true)⟩,
    ⟨some 51, .bin .eql (.t 50) (.k (.int .i64 0)), some (49, true)⟩,
    ⟨some 52, .pick (.t 49) (.t 51) (.k (.bool false)), none⟩,
    ⟨some 53, .mv (.t 52), none⟩,
    ⟨some 54, .mv (.t 9), some (53, true)⟩,
    ⟨some 55, .bin .eql (.t 54) (.k (.int .i64 0)), some (53, true)⟩,
    ⟨some 56, .pick (.t 53) (.t 55) (.k (.bool false)), none⟩,
    ⟨some 57, .mv (.t 56), none⟩,
    ⟨some 58, .mv (.t 5), some (57, true)⟩,
    ⟨some 59, .bin .eql (.t 58) (.k (.int .i64 2)), some (57, true)⟩,
    ⟨some 60, .pick (.t 57) (.t 59) (.k (.bool false)), none⟩,
    ⟨some 61, .mv (.t 60), none⟩,
    ⟨some 62, .mv (.t 8), some (61, true)⟩,
    ⟨some 63, .bin .eql (.t 62) (.k (.int .u8 7)), some (61, true)⟩,
    ⟨some 64, .pick (.t 61) (.t 63) (.k (.bool false)), none⟩,
    ⟨some 65, .mv (.t 64), none⟩,
    ⟨some 66, .mv (.t 2), some (65, true)⟩,
    ⟨some 67, .mv (.t 1), some (65, true)⟩,
    ⟨some 68, .call (.k (.fn 21 [] [])) [(.t 66), (.t 67), (.k (.int .i64 2)), (.k (.int .i64 330)), (.k (.int .u8 8))], some (65, true)⟩,
    ⟨some 69, .bin .eql (.t 68) (.k (.int .i64 220)), some (65, true)⟩,
    ⟨some 70, .pick (.t 65) (.t 69) (.k (.bool false)), none⟩,
    ⟨some 0, .mv (.t 70), none⟩])
  (.ret))))))))
theorem b11 : Body Try.prog 11 c11 [.tmp 0] 71 := ⟨by kernel_rfl, _, _, Try.func11, rfl, by kernel_rfl, by kernel_rfl, rfl⟩
def c12 : ACode :=
  .seq (.reg [⟨some 4, .mv (.k (.int .i64 0)), none⟩,
    ⟨some 5, .mv (.k (.int .i64 0)), none⟩])
  (.seq (.seq (.reg [⟨some 7, .mv (.t 0), none⟩,
    ⟨some 8, .call (.k (.fn 37 [] [])) [(.t 7)], none⟩,
    ⟨some 9, .un .not (.t 8), none⟩])
  (.cond (.t 9) (.seq (.reg [⟨some 4, .mv (.k (.int .i64 0)), none⟩,
      ⟨some 5, .mv (.k (.int .i64 1)), none⟩])
    (.ret))
    (.skip)))
  (.seq (.seq (.reg [⟨some 10, .mv (.t 1), none⟩,
    ⟨some 11, .bslice 1 1 [(.int .i64 0)] [(0, 1, (.t 10))], none⟩,
    ⟨some 12, .call (.k (.fn 38 [] [])) [(.t 11)], none⟩,
    ⟨some 6, .mv (.t 12), none⟩])
  (.seq (.reg [⟨some 13, .mv (.t 6), none⟩,
    ⟨some 14, .bin .neq (.t 13) (.k (.int .i64 0)), none⟩])
  (.cond (.t 14) (.seq (.reg [⟨some 15, .mv (.t 6), none⟩,
      ⟨some 4, .mv (.k (.int .i64 0)), none⟩,
      ⟨some 5, .mv (.t 15), none⟩])
    (.ret))
    (.skip))))
  (.seq (.reg [⟨some 16, .mv (.t 0), none⟩,
    ⟨some 17, .mv (.t 1), none⟩,
    ⟨some 18, .nchk (.t 16), none⟩,
    ⟨some 19, .faddr 2 (.t 18), none⟩,
    ⟨some 20, .iaddrA 1024 1 (.t 19) (.t 17), none⟩,
    ⟨some 21, .load false 1 (.t 20), none⟩,
    ⟨some 4, .mv (.t 21), none⟩,
    ⟨some 5, .mv (.k (.int .i64 0)), none⟩])
  (.ret))))
theorem b12 : Body Try.prog 12 c12 [.tmp 4, .tmp 5] 22 := ⟨by kernel_rfl, _, _, Try.func12, rfl, by kernel_rfl, by kernel_rfl, rfl⟩
def c13 : ACode :=
  .seq (.reg [⟨some 1, .box (.t 0), none⟩,
    ⟨some 2, .mv (.k (.int .i64 0)), none⟩,
    ⟨some 3, .mv (.k (.int .i64 0)), none⟩])
  (.seq (.seq (.reg [⟨some 9, .faddr 0 (.t 1), none⟩,
    ⟨some 10, .load false 1 (.t 9), none⟩,
    ⟨some 11, .len (.t 10), none⟩,
    ⟨some 12, .bin .gtr (.t 11) (.k (.int .i64 2000)), none⟩])
  (.cond (.t 12) (.seq (.reg [⟨some 2, .mv (.k (.int .i64 0)), none⟩,
      ⟨some 3, .mv (.k (.int .i64 5)), none⟩])
    (.ret))
    (.skip)))
  (.seq (.seq (.reg [⟨some 13, .faddr 0 (.t 1), none⟩,
    ⟨some 14, .load false 1 (.t 13), none⟩,
    ⟨some 15, .len (.t 14), none⟩,
    ⟨some 16, .mv (.k (.int .i64 0)), none⟩])
  (.block 0 (.loop (.seq (.reg [⟨some 17, .bin .lss (.t 16) (.t 15), none⟩])
    (.seq (.cond (.t 17) (.skip)
      (.exit 0))
    (.seq (.block 1 (.seq (.reg [⟨some 18, .mv (.t 16), none⟩,
       ⟨some 19, .iaddrS 4 (.t 14) (.t 16), none⟩,
       ⟨some 20, .load true 4 (.t 19), none⟩,
       ⟨some 5, .new [(.int .i64 0), (.int .i64 0), (.int .i64 0), (.bool false)], none⟩,
       ⟨some 4, .mv (.t 18), none⟩,
       ⟨none, .store 4 (.t 5) (.t 20), none⟩])
     (.seq (.reg [⟨some 21, .load true 4 (.t 5), none⟩,
       ⟨some 22, .call (.k (.fn 39 [] [])) [(.t 21)], none⟩,
       ⟨some 23, .un .not (.t 22), none⟩])
     (.cond (.t 23) (.seq (.reg [⟨some 24, .mv (.t 4), none⟩,
         ⟨some 2, .mv (.t 24), none⟩,
         ⟨some 3, .mv (.k (.int .i64 7)), none⟩])
       (.ret))
       (.skip)))))
    (.reg [⟨some 25, .bin .add (.t 16) (.k (.int .i64 1)), none⟩,
      ⟨some 16, .mv (.t 25), none⟩])))))))
  (.seq (.seq (.reg [⟨some 26, .faddr 0 (.t 1), none⟩,
    ⟨some 27, .load false 1 (.t 26), none⟩,
    ⟨some 28, .len (.t 27), none⟩,
    ⟨some 29, .mv (.k (.int .i64 0)), none⟩])
  (.block 2 (.loop (.seq (.reg [⟨some 30, .bin .lss (.t 29) (.t 28), none⟩])
    (.seq (.cond (.t 30) (.skip)
      (.exit 2))
    (.seq (.block 3 (.seq (.reg [⟨some 31, .mv (.t 29), none⟩,
       ⟨some 32, .iaddrS 4 (.t 27) (.t 29), none⟩,
       ⟨some 33, .load true 4 (.t 32), none⟩,
       ⟨some 7, .new [(.int .i64 0), (.int .i64 0), (.int .i64 0), (.bool false)], none⟩,
       ⟨some 6, .mv (.t 31), none⟩,
       ⟨none, .store 4 (.t 7) (.t 33), none⟩])
     (.seq (.seq (.reg [⟨some 34, .mv (.t 6), none⟩,
       ⟨some 35, .bin .eql (.t 34) (.k (.int .i64 0)), none⟩])
     (.cond (.t 35) (.exit 3)
       (.skip)))
     (.seq (.reg [⟨some 36, .faddr 0 (.t 1), none⟩,
       ⟨some 37, .load false 1 (.t 36), none⟩,
       ⟨some 38, .mv (.t 6), none⟩,
       ⟨some 39, .bin .sub (.t 38) (.k (.int .i64 1)), none⟩,
       ⟨some 40, .iaddrS 4 (.t 37) (.t 39), none⟩,
       ⟨some 41, .load true 4 (.t 40), none⟩,
       ⟨some 8, .new [(.int .i64 0), (.int .i64 0), (.int .i64 0), (.bool false)], none⟩,
       ⟨none, .store 4 (.t 8) (.t 41), none⟩])
     (.block 4 (.seq (.reg [⟨some 43, .faddr 0 (.t 8), none⟩,
        ⟨some 44, .load false 1 (.t 43), none⟩,
        ⟨some 45, .faddr 0 (.t 7), none⟩,
        ⟨some 46, .load false 1 (.t 45), none⟩,
        ⟨some 47, .bin .gtr (.t 44) (.t 46), none⟩,
        ⟨some 48, .mv (.t 47), none⟩,
        ⟨some 49, .faddr 0 (.t 8), some (48, false)⟩,
        ⟨some 50, .load false 1 (.t 49), some (48, false)⟩,
        ⟨some 51, .faddr 0 (.t 7), some (48, false)⟩,
        ⟨some 52, .load false 1 (.t 51), some (48, false)⟩,
        ⟨some 53, .bin .eql (.t 50) (.t 52), some (48, false)⟩,
        ⟨some 54, .mv (.t 53), some (48, false)⟩,
        ⟨some 55, .faddr 1 (.t 8), some (54, true)⟩,
        ⟨some 56, .load false 1 (.t 55), some (54, true)⟩,
        ⟨some 57, .faddr 1 (.t 7), some (54, true)⟩,
        ⟨some 58, .load false 1 (.t 57), some (54, true)⟩,
        ⟨some 59, .bin .gtr (.t 56) (.t 58), some (54, true)⟩,
        ⟨some 60, .pick (.t 54) (.t 59) (.k (.bool false)), some (48, false)⟩,
        ⟨some 61, .pick (.t 48) (.k (.bool true)) (.t 60), none⟩,
        ⟨some 42, .mv (.t 61), none⟩])
      (.cond (.t 42) (.seq (.reg [⟨some 62, .mv (.t 6), none⟩,
          ⟨some 2, .mv (.t 62), none⟩,
          ⟨some 3, .mv (.k (.int .i64 6)), none⟩])
        (.ret))
        (.seq (.reg [⟨some 64, .faddr 0 (.t 8), none⟩,
          ⟨some 65, .load false 1 (.t 64), none⟩,
          ⟨some 66, .faddr 0 (.t 7), none⟩,
          ⟨some 67, .load false 1 (.t 66), none⟩,
          ⟨some 68, .bin .eql (.t 65) (.t 67), none⟩,
          ⟨some 69, .mv (.t 68), none⟩,
          ⟨some 70, .faddr 1 (.t 8), some (69, true)⟩,
          ⟨some 71, .load false 1 (.t 70), some (69, true)⟩,
          ⟨some 72, .faddr 1 (.t 7), some (69, true)⟩,
          ⟨some 73, .load false 1 (.t 72), some (69, true)⟩,
          ⟨some 74, .bin .eql (.t 71) (.t 73), some (69, true)⟩,
          ⟨some 75, .pick (.t 69) (.t 74) (.k (.bool false)), none⟩,
          ⟨some 63, .mv (.t 75), none⟩])
        (.cond (.t 63) (.seq (.reg [⟨some 76, .mv (.t 6), none⟩,
            ⟨some 2, .mv (.t 76), none⟩,
            ⟨some 3, .mv (.k (.int .i64 8)), none⟩])
          (.ret))
          (.skip))))))))))
    (.reg [⟨some 77, .bin .add (.t 29) (.k (.int .i64 1)), none⟩,
      ⟨some 29, .mv (.t 77), none⟩])))))))
  (.seq (.reg [⟨some 2, .mv (.k (.int .i64 0)), none⟩,
    ⟨some 3, .mv (.k (.int .i64 0)), none⟩])
  (.ret)))))
theorem b13 : Body Try.prog 13 c13 [.tmp 2, .tmp 3] 78 := ⟨by kernel_rfl, _, _, Try.func13, rfl, by kernel_rfl, by kernel_rfl, rfl⟩
def c14 : ACode :=
  .seq (.reg [⟨some 1, .box (.t 0), none⟩,
    ⟨some 2, .mv (.k (.int .i64 0)), none⟩,
    ⟨some 3, .mv (.k (.int .i64 0)), none⟩])
  (.seq (.seq (.reg [⟨some 7, .faddr 0 (.t 1), none⟩,
    ⟨some 8, .load false 1 (.t 7), none⟩,
    ⟨some 9, .len (.t 8), none⟩,
    ⟨some 10, .bin .gtr (.t 9) (.k (.int .i64 2000)), none⟩])
  (.cond (.t 10) (.seq (.reg [⟨some 2, .mv (.k (.int .i64 0)), none⟩,
      ⟨some 3, .mv (.k (.int .i64 5)), none⟩])
    (.ret))
    (.skip)))
  (.seq (.seq (.reg [⟨some 4, .mv (.k (.int .i64 0)), none⟩])
  (.block 0 (.loop (.seq (.seq (.reg [⟨some 11, .mv (.t 4), none⟩,
      ⟨some 12, .faddr 0 (.t 1), none⟩,
      ⟨some 13, .load false 1 (.t 12), none⟩,
      ⟨some 14, .len (.t 13), none⟩,
      ⟨some 15, .bin .lss (.t 11) (.t 14), none⟩])
    (.cond (.t 15) (.skip)
      (.exit 0)))
    (.seq (.block 1 (.seq (.reg [⟨some 18, .faddr 0 (.t 1), none⟩,
       ⟨some 19, .load false 1 (.t 18), none⟩,
       ⟨some 20, .mv (.t 4), none⟩,
       ⟨some 21, .iaddrS 4 (.t 19) (.t 20), none⟩,
       ⟨some 22, .load true 4 (.t 21), none⟩,
       ⟨some 5, .new [(.int .i64 0), (.int .i64 0), (.int .i64 0), (.bool false)], none⟩,
       ⟨none, .store 4 (.t 5) (.t 22), none⟩])
     (.seq (.reg [⟨some 23, .faddr 0 (.t 5), none⟩,
       ⟨some 24, .load false 1 (.t 23), none⟩,
       ⟨some 25, .call (.k (.fn 40 [] [])) [(.t 24)], none⟩,
       ⟨some 26, .un .not (.t 25), none⟩,
       ⟨some 27, .mv (.t 26), none⟩,
       ⟨some 28, .faddr 1 (.t 5), some (27, false)⟩,
       ⟨some 29, .load false 1 (.t 28), some (27, false)⟩,
       ⟨some 30, .call (.k (.fn 41 [] [])) [(.t 29)], some (27, false)⟩,
       ⟨some 31, .un .not (.t 30), some (27, false)⟩,
       ⟨some 32, .pick (.t 27) (.k (.bool true)) (.t 31), none⟩,
       ⟨some 33, .mv (.t 32), none⟩,
       ⟨some 34, .faddr 2 (.t 5), some (33, false)⟩,
       ⟨some 35, .load false 1 (.t 34), some (33, false)⟩,
       ⟨some 36, .call (.k (.fn 41 [] [])) [(.t 35)], some (33, false)⟩,
       ⟨some 37, .un .not (.t 36), some (33, false)⟩,
       ⟨some 38, .pick (.t 33) (.k (.bool true)) (.t 37), none⟩])
     (.cond (.t 38) (.seq (.reg [⟨some 39, .mv (.t 4), none⟩,
         ⟨some 2, .mv (.t 39), none⟩,
         ⟨some 3, .mv (.k (.int .i64 7)), none⟩])
       (.ret))
       (.skip)))))
    (.reg [⟨some 16, .mv (.t 4), none⟩,
      ⟨some 17, .bin .add (.t 16) (.k (.int .i64 1)), none⟩,
      ⟨some 4, .mv (.t 17), none⟩]))))))
  (.seq (.seq (.reg [⟨some 6, .mv (.k (.int .i64 1)), none⟩])
  (.block 2 (.loop (.seq (.seq (.reg [⟨some 40, .mv (.t 6), none⟩,
      ⟨some 41, .faddr 0 (.t 1), none⟩,
      ⟨some 42, .load false 1 (.t 41), none⟩,
      ⟨some 43, .len (.t 42), none⟩,
      ⟨some 44, .bin .lss (.t 40) (.t 43), none⟩])
    (.cond (.t 44) (.skip)
      (.exit 2)))
    (.seq (.block 3 (.seq (.seq (.regD [⟨some 47, .faddr 0 (.t 1), none⟩,
       ⟨some 48, .load false 1 (.t 47), none⟩,
       ⟨some 49, .mv (.t 6), none⟩,
       ⟨some 50, .iaddrS 4 (.t 48) (.t 49), none⟩,
       ⟨some 51, .load true 4 (.t 50), none⟩,
       ⟨some 52, .faddr 0 (.t 1), none⟩,
       ⟨some 53, .load false 1 (.t 52), none⟩,
       ⟨some 54, .mv (.t 6), none⟩,
       ⟨some 55, .bin .sub (.t 54) (.k (.int .i64 1)), none⟩,
       ⟨some 56, .iaddrS 4 (.t 53) (.t 55), none⟩,
       ⟨some 57, .load true 4 (.t 56), none⟩,
       ⟨some 58, .call (.k (.fn 42 [] [])) [(.t 51), (.t 57)], none⟩] [[], [0], [], [1, 2], [3], [], [5], [], [7], [6, 8], [9], [4, 10]])
     (.cond (.t 58) (.seq (.reg [⟨some 59, .mv (.t 6), none⟩,
         ⟨some 2, .mv (.t 59), none⟩,
         ⟨some 3, .mv (.k (.int .i64 6)), none⟩])
       (.ret))
       (.skip)))
     (.seq (.regD [⟨some 60, .faddr 0 (.t 1), none⟩,
       ⟨some 61, .load false 1 (.t 60), none⟩,
       ⟨some 62, .mv (.t 6), none⟩,
       ⟨some 63, .bin .sub (.t 62) (.k (.int .i64 1)), none⟩,
       ⟨some 64, .iaddrS 4 (.t 61) (.t 63), none⟩,
       ⟨some 65, .load true 4 (.t 64), none⟩,
       ⟨some 66, .faddr 0 (.t 1), none⟩,
       ⟨some 67, .load false 1 (.t 66), none⟩,
       ⟨some 68, .mv (.t 6), none⟩,
       ⟨some 69, .iaddrS 4 (.t 67) (.t 68), none⟩,
       ⟨some 70, .load true 4 (.t 69), none⟩,
       ⟨some 71, .call (.k (.fn 42 [] [])) [(.t 65), (.t 70)], none⟩,
       ⟨some 72, .un .not (.t 71), none⟩] [[], [0], [], [2], [1, 3], [4], [], [6], [], [7, 8], [9], [5, 10], [11]])
     (.cond (.t 72) (.seq (.reg [⟨some 73, .mv (.t 6), none⟩,
         ⟨some 2, .mv (.t 73), none⟩,
         ⟨some 3, .mv (.k (.int .i64 8)), none⟩])
       (.ret))
       (.skip)))))
    (.reg [⟨some 45, .mv (.t 6), none⟩,
      ⟨some 46, .bin .add (.t 45) (.k (.int .i64 1)), none⟩,
      ⟨some 6, .mv (.t 46), none⟩]))))))
  (.seq (.reg [⟨some 2, .mv (.k (.int .i64 0)), none⟩,
    ⟨some 3, .mv (.k (.int .i64 0)), none⟩])
  (.ret)))))
theorem b14 : Body Try.prog 14 c14 [.tmp 2, .tmp 3] 74 := ⟨by kernel_rfl, _, _, Try.func14, rfl, by kernel_rfl, by kernel_rfl, rfl⟩
def c15 : ACode :=
  .seq (.reg [⟨some 1, .box (.t 0), none⟩,
    ⟨some 2, .mv (.k .nilp), none⟩,
    ⟨some 3, .mv (.k (.int .i64 0)), none⟩])
  (.seq (.seq (.reg [⟨some 10, .load true 1 (.t 1), none⟩,
    ⟨some 11, .call (.k (.fn 13 [] [])) [(.t 10)], none⟩,
    ⟨some 9, .mv (.t 11), none⟩,
    ⟨some 12, .ext (.t 9) 0, none⟩,
    ⟨some 13, .ext (.t 9) 1, none⟩,
    ⟨some 4, .mv (.t 12), none⟩,
    ⟨some 5, .mv (.t 13), none⟩])
  (.seq (.reg [⟨some 14, .mv (.t 5), none⟩,
    ⟨some 15, .bin .neq (.t 14) (.k (.int .i64 0)), none⟩])
  (.cond (.t 15) (.seq (.reg [⟨some 16, .mv (.t 5), none⟩,
      ⟨some 2, .mv (.k .nilp), none⟩,
      ⟨some 3, .mv (.t 16), none⟩])
    (.ret))
    (.skip))))
  (.seq (.reg [⟨some 17, .call (.k (.fn 30 [] [])) [], none⟩,
    ⟨some 6, .mv (.t 17), none⟩])
  (.seq (.seq (.reg [⟨some 18, .faddr 0 (.t 1), none⟩,
    ⟨some 19, .load false 1 (.t 18), none⟩,
    ⟨some 20, .len (.t 19), none⟩,
    ⟨some 21, .mv (.k (.int .i64 0)), none⟩])
  (.block 0 (.loop (.seq (.reg [⟨some 22, .bin .lss (.t 21) (.t 20), none⟩])
    (.seq (.cond (.t 22) (.skip)
      (.exit 0))
    (.seq (.block 1 (.seq (.reg [⟨some 23, .iaddrS 4 (.t 19) (.t 21), none⟩,
       ⟨some 24, .load true 4 (.t 23), none⟩,
       ⟨some 8, .new [(.int .i64 0), (.int .i64 0), (.int .i64 0), (.bool false)], none⟩,
       ⟨none, .store 4 (.t 8) (.t 24), none⟩])
     (.reg [⟨some 25, .mv (.t 6), none⟩,
       ⟨some 26, .load true 4 (.t 8), none⟩,
       ⟨some 27, .call (.k (.fn 43 [] [])) [(.t 25), (.t 26)], none⟩])))
    (.reg [⟨some 28, .bin .add (.t 21) (.k (.int .i64 1)), none⟩,
      ⟨some 21, .mv (.t 28), none⟩])))))))
  (.seq (.reg [⟨some 29, .mv (.t 6), none⟩,
    ⟨some 2, .mv (.t 29), none⟩,
    ⟨some 3, .mv (.k (.int .i64 0)), none⟩])
  (.ret)))))
theorem b15 : Body Try.prog 15 c15 [.tmp 2, .tmp 3] 30 := ⟨by kernel_rfl, _, _, Try.func15, rfl, by kernel_rfl, by kernel_rfl, rfl⟩
def c16 : ACode :=
  .seq (.reg [⟨some 4, .mv (.k (.bool false)), none⟩])
  (.seq (.seq (.reg [⟨some 6, .mv (.t 0), none⟩,
    ⟨some 7, .len (.t 6), none⟩,
    ⟨some 8, .mv (.t 1), none⟩,
    ⟨some 9, .len (.t 8), none⟩,
    ⟨some 10, .bin .neq (.t 7) (.t 9), none⟩])
  (.cond (.t 10) (.seq (.reg [⟨some 4, .mv (.k (.bool false)), none⟩])
    (.ret))
    (.skip)))
  (.seq (.seq (.reg [⟨some 5, .mv (.k (.int .i64 0)), none⟩])
  (.block 0 (.loop (.seq (.seq (.reg [⟨some 11, .mv (.t 5), none⟩,
      ⟨some 12, .mv (.t 0), none⟩,
      ⟨some 13, .len (.t 12), none⟩,
      ⟨some 14, .bin .lss (.t 11) (.t 13), none⟩])
    (.cond (.t 14) (.skip)
      (.exit 0)))
    (.seq (.block 1 (.seq (.regD [⟨some 17, .mv (.t 0), none⟩,
       ⟨some 18, .mv (.t 5), none⟩,
       ⟨some 19, .iaddrS 4 (.t 17) (.t 18), none⟩,
       ⟨some 20, .load true 4 (.t 19), none⟩,
       ⟨some 21, .mv (.t 1), none⟩,
       ⟨some 22, .mv (.t 5), none⟩,
       ⟨some 23, .iaddrS 4 (.t 21) (.t 22), none⟩,
       ⟨some 24, .load true 4 (.t 23), none⟩,
       ⟨some 25, .eqs true [0, 0, 0, 1] (.t 20) (.t 24), none⟩] [[], [], [0, 1], [2], [], [], [4, 5], [6], [3, 7]])
     (.cond (.t 25) (.seq (.reg [⟨some 4, .mv (.k (.bool false)), none⟩])
       (.ret))
       (.skip))))
    (.reg [⟨some 15, .mv (.t 5), none⟩,
      ⟨some 16, .bin .add (.t 15) (.k (.int .i64 1)), none⟩,
      ⟨some 5, .mv (.t 16), none⟩]))))))
  (.seq (.reg [⟨some 4, .mv (.k (.bool true)), none⟩])
  (.ret))))
theorem b16 : Body Try.prog 16 c16 [.tmp 4] 26 := ⟨by kernel_rfl, _, _, Try.func16, rfl, by kernel_rfl, by kernel_rfl, rfl⟩
def c17 : ACode :=
  .seq (.reg [⟨some 2, .new [.nils], none⟩])
  (.seq (.reg [⟨some 3, .new [.nils], none⟩])
  (.seq (.seq (.reg [⟨some 6, .mv (.k (.int .i64 0)), none⟩])
  (.block 0 (.loop (.seq (.reg [⟨some 7, .bin .lss (.t 6) (.k (.int .i64 64)), none⟩])
    (.seq (.cond (.t 7) (.skip)
      (.exit 0))
    (.seq (.block 1 (.seq (.reg [⟨some 8, .mv (.t 6), none⟩,
       ⟨some 4, .mv (.t 8), none⟩])
     (.seq (.reg [⟨some 9, .mv (.t 0), none⟩,
       ⟨some 10, .mv (.t 4), none⟩,
       ⟨some 11, .call (.k (.fn 28 [] [])) [(.t 9), (.t 10)], none⟩])
     (.block 2 (.rangeF (.t 11) [12] (.reg [⟨some 5, .new [(.int .i64 0), (.int .i64 0), (.int .i64 0), (.bool false)], none⟩,
          ⟨none, .store 4 (.t 5) (.t 12), none⟩])
        (.block 3 (.reg [⟨some 13, .faddr 0 (.t 3), none⟩,
           ⟨some 14, .load false 1 (.t 13), none⟩,
           ⟨some 15, .load true 4 (.t 5), none⟩,
           ⟨some 16, .bslice 4 1 [(.int .i64 0), (.int .i64 0), (.int .i64 0), (.bool false)] [(0, 4, (.t 15))], none⟩,
           ⟨some 17, .append 4 32 (.t 14) (.t 16), none⟩,
           ⟨some 18, .faddr 0 (.t 3), none⟩,
           ⟨none, .store 1 (.t 18) (.t 17), none⟩])))))))
    (.reg [⟨some 19, .bin .add (.t 6) (.k (.int .i64 1)), none⟩,
      ⟨some 6, .mv (.t 19), none⟩])))))))
  (.seq (.reg [⟨some 20, .load true 1 (.t 3), none⟩,
    ⟨none, .store 1 (.t 2) (.t 20), none⟩])
  (.ret))))
theorem b17 : Body Try.prog 17 c17 [.cell 2 true 1] 21 := ⟨by kernel_rfl, _, _, Try.func17, rfl, by kernel_rfl, by kernel_rfl, rfl⟩
def c18 : ACode :=
  .seq (.reg [⟨some 4, .mv (.k .nils), none⟩])
  (.seq (.reg [⟨some 5, .new [.nils], none⟩])
  (.seq (.seq (.reg [⟨some 7, .mv (.t 0), none⟩,
    ⟨some 8, .mv (.t 1), none⟩,
    ⟨some 9, .call (.k (.fn 28 [] [])) [(.t 7), (.t 8)], none⟩])
  (.block 0 (.rangeF (.t 9) [10] (.reg [⟨some 6, .new [(.int .i64 0), (.int .i64 0), (.int .i64 0), (.bool false)], none⟩,
       ⟨none, .store 4 (.t 6) (.t 10), none⟩])
     (.block 1 (.seq (.reg [⟨some 11, .load false 1 (.t 5), none⟩,
        ⟨some 12, .load true 4 (.t 6), none⟩,
        ⟨some 13, .bslice 4 1 [(.int .i64 0), (.int .i64 0), (.int .i64 0), (.bool false)] [(0, 4, (.t 12))], none⟩,
        ⟨some 14, .append 4 32 (.t 11) (.t 13), none⟩,
        ⟨none, .store 1 (.t 5) (.t 14), none⟩])
      (.seq (.reg [⟨some 15, .load false 1 (.t 5), none⟩,
        ⟨some 16, .len (.t 15), none⟩,
        ⟨some 17, .bin .gtr (.t 16) (.k (.int .i64 1024)), none⟩])
      (.cond (.t 17) (.exit 0)
        (.skip))))))))
  (.seq (.reg [⟨some 18, .load false 1 (.t 5), none⟩,
    ⟨some 4, .mv (.t 18), none⟩])
  (.ret))))
theorem b18 : Body Try.prog 18 c18 [.tmp 4] 19 := ⟨by kernel_rfl, _, _, Try.func18, rfl, by kernel_rfl, by kernel_rfl, rfl⟩
def c19 : ACode :=
  .seq (.reg [⟨some 2, .box (.t 0), none⟩,
    ⟨some 4, .mv (.k .nils), none⟩])
  (.seq (.reg [⟨some 5, .mv (.k .nils), none⟩])
  (.seq (.seq (.reg [⟨some 6, .mv (.k (.int .i64 0)), none⟩])
  (.block 0 (.loop (.seq (.seq (.reg [⟨some 7, .mv (.t 6), none⟩,
      ⟨some 8, .faddr 0 (.t 2), none⟩,
      ⟨some 9, .load false 1 (.t 8), none⟩,
      ⟨some 10, .len (.t 9), none⟩,
      ⟨some 11, .bin .lss (.t 7) (.t 10), none⟩])
    (.cond (.t 11) (.skip)
      (.exit 0)))
    (.seq (.block 1 (.seq (.reg [⟨some 14, .faddr 0 (.t 2), none⟩,
       ⟨some 15, .load false 1 (.t 14), none⟩,
       ⟨some 16, .mv (.t 6), none⟩,
       ⟨some 17, .iaddrS 4 (.t 15) (.t 16), none⟩,
       ⟨some 18, .faddr 0 (.t 17), none⟩,
       ⟨some 19, .load false 1 (.t 18), none⟩,
       ⟨some 20, .mv (.t 1), none⟩,
       ⟨some 21, .bin .eql (.t 19) (.t 20), none⟩])
     (.cond (.t 21) (.reg [⟨some 22, .mv (.t 5), none⟩,
         ⟨some 23, .faddr 0 (.t 2), none⟩,
         ⟨some 24, .load false 1 (.t 23), none⟩,
         ⟨some 25, .mv (.t 6), none⟩,
         ⟨some 26, .iaddrS 4 (.t 24) (.t 25), none⟩,
         ⟨some 27, .load true 4 (.t 26), none⟩,
         ⟨some 28, .bslice 4 1 [(.int .i64 0), (.int .i64 0), (.int .i64 0), (.bool false)] [(0, 4, (.t 27))], none⟩,
         ⟨some 29, .append 4 32 (.t 22) (.t 28), none⟩,
         ⟨some 5, .mv (.t 29), none⟩])
       (.skip))))
    (.reg [⟨some 12, .mv (.t 6), none⟩,
      ⟨some 13, .bin .add (.t 12) (.k (.int .i64 1)), none⟩,
      ⟨some 6, .mv (.t 13), none⟩]))))))
  (.seq (.reg [⟨some 30, .mv (.t 5), none⟩,
    ⟨some 4, .mv (.t 30), none⟩])
  (.ret))))
theorem b19 : Body Try.prog 19 c19 [.tmp 4] 31 := ⟨by kernel_rfl, _, _, Try.func19, rfl, by kernel_rfl, by kernel_rfl, rfl⟩
def c21 : ACode :=
  .seq (.reg [⟨some 10, .mv (.k (.int .i64 0)), none⟩])
  (.seq (.reg [⟨some 14, .mv (.t 0), none⟩,
    ⟨some 15, .mv (.t 2), none⟩,
    ⟨some 16, .mv (.t 3), none⟩,
    ⟨some 17, .call (.k (.fn 44 [] [])) [(.t 14), (.t 15), (.t 16), (.k (.bool true))], none⟩,
    ⟨some 13, .mv (.t 17), none⟩,
    ⟨some 18, .ext (.t 13) 0, none⟩,
    ⟨some 19, .ext (.t 13) 1, none⟩,
    ⟨some 11, .mv (.t 18), none⟩,
    ⟨some 12, .mv (.t 19), none⟩])
  (.seq (.seq (.reg [⟨some 20, .mv (.t 12), none⟩,
    ⟨some 21, .bin .neq (.t 20) (.k (.int .i64 0)), none⟩])
  (.cond (.t 21) (.seq (.reg [⟨some 22, .mv (.t 12), none⟩,
      ⟨some 10, .mv (.t 22), none⟩])
    (.ret))
    (.skip)))
  (.seq (.reg [⟨some 23, .mv (.t 1), none⟩,
    ⟨some 24, .mv (.t 11), none⟩,
    ⟨some 25, .mv (.t 4), none⟩,
    ⟨some 26, .call (.k (.fn 36 [] [])) [(.t 23), (.t 24), (.t 25)], none⟩,
    ⟨some 10, .mv (.t 26), none⟩])
  (.ret))))
theorem b21 : Body Try.prog 21 c21 [.tmp 10] 27 := ⟨by kernel_rfl, _, _, Try.func21, rfl, by kernel_rfl, by kernel_rfl, rfl⟩
def c23 : ACode :=
  .seq (.reg [⟨some 6, .mv (.k (.int .i64 0)), none⟩])
  (.seq (.reg [⟨some 7, .mv (.t 0), none⟩,
    ⟨some 8, .mv (.t 1), none⟩,
    ⟨some 9, .mv (.t 2), none⟩,
    ⟨some 10, .call (.k (.fn 49 [] [])) [(.k (.int .i64 0)), (.k (.int .i64 0)), (.k (.int .i64 1))], none⟩,
    ⟨some 11, .call (.k (.fn 48 [] [])) [(.t 7), (.t 8), (.t 9), (.t 10)], none⟩,
    ⟨some 6, .mv (.t 11), none⟩])
  (.ret))
theorem b23 : Body Try.prog 23 c23 [.tmp 6] 12 := ⟨by kernel_rfl, _, _, Try.func23, rfl, by kernel_rfl, by kernel_rfl, rfl⟩
def c24 : ACode :=
  .seq (.reg [⟨some 6, .mv (.k (.int .i64 0)), none⟩])
  (.seq (.reg [⟨some 7, .mv (.t 0), none⟩,
    ⟨some 8, .mv (.t 1), none⟩,
    ⟨some 9, .mv (.t 2), none⟩,
    ⟨some 10, .call (.k (.fn 49 [] [])) [(.k (.int .i64 2)), (.k (.int .i64 1)), (.k (.int .i64 2))], none⟩,
    ⟨some 11, .call (.k (.fn 48 [] [])) [(.t 7), (.t 8), (.t 9), (.t 10)], none⟩,
    ⟨some 6, .mv (.t 11), none⟩])
  (.ret))
theorem b24 : Body Try.prog 24 c24 [.tmp 6] 12 := ⟨by kernel_rfl, _, _, Try.func24, rfl, by kernel_rfl, by kernel_rfl, rfl⟩
def c26 : ACode :=
  .seq (.reg [⟨some 3, .box (.t 1), none⟩,
    ⟨some 4, .mv (.k (.int .i64 0)), none⟩])
  (.seq (.seq (.reg [⟨some 7, .mv (.t 0), none⟩,
    ⟨some 8, .call (.k (.fn 37 [] [])) [(.t 7)], none⟩,
    ⟨some 9, .un .not (.t 8), none⟩])
  (.cond (.t 9) (.seq (.reg [⟨some 4, .mv (.k (.int .i64 1)), none⟩])
    (.ret))
    (.skip)))
  (.seq (.seq (.reg [⟨some 10, .load true 4 (.t 3), none⟩,
    ⟨some 11, .call (.k (.fn 39 [] [])) [(.t 10)], none⟩,
    ⟨some 12, .un .not (.t 11), none⟩])
  (.cond (.t 12) (.seq (.reg [⟨some 4, .mv (.k (.int .i64 7)), none⟩])
    (.ret))
    (.skip)))
  (.seq (.seq (.regD [⟨some 14, .mv (.t 0), none⟩,
    ⟨some 15, .nchk (.t 14), none⟩,
    ⟨some 16, .faddr 1 (.t 15), none⟩,
    ⟨some 17, .load false 1 (.t 16), none⟩,
    ⟨some 18, .faddr 0 (.t 3), none⟩,
    ⟨some 19, .load false 1 (.t 18), none⟩,
    ⟨some 20, .faddr 1 (.t 3), none⟩,
    ⟨some 21, .load false 1 (.t 20), none⟩,
    ⟨some 22, .build [(.int .i64 0), (.int .i64 0)] [(0, 1, (.t 19)), (1, 1, (.t 21))], none⟩,
    ⟨some 23, .mlook true true [0, 0] (.int .i64 0) (.t 17) (.t 22), none⟩,
    ⟨some 13, .mv (.t 23), none⟩,
    ⟨some 24, .ext (.t 13) 0, none⟩,
    ⟨some 25, .ext (.t 13) 1, none⟩,
    ⟨some 5, .mv (.t 24), none⟩,
    ⟨some 6, .mv (.t 25), none⟩] [[], [0], [1], [2], [], [4], [], [6], [5, 7], [3, 8], [9], [10], [10], [11, 0, 1, 2, 3, 4, 5, 6, 7, 8, 9, 10, 11], [12, 13, 0, 1, 2, 3, 4, 5, 6, 7, 8, 9, 10, 11, 12, 13]])
  (.seq (.reg [⟨some 26, .mv (.t 6), none⟩])
  (.cond (.t 26) (.seq (.reg [⟨some 4, .mv (.k (.int .i64 8)), none⟩])
    (.ret))
    (.skip))))
  (.seq (.seq (.reg [⟨some 27, .mv (.t 0), none⟩,
    ⟨some 28, .nchk (.t 27), none⟩,
    ⟨some 29, .faddr 1 (.t 28), none⟩,
    ⟨some 30, .load false 1 (.t 29), none⟩,
    ⟨some 31, .mlen (.t 30), none⟩,
    ⟨some 32, .bin .eql (.t 31) (.k (.int .i64 2000)), none⟩])
  (.cond (.t 32) (.seq (.reg [⟨some 4, .mv (.k (.int .i64 5)), none⟩])
    (.ret))
    (.skip)))
  (.seq (.reg [⟨some 33, .mv (.t 0), none⟩,
    ⟨some 34, .load true 4 (.t 3), none⟩,
    ⟨some 35, .call (.k (.fn 43 [] [])) [(.t 33), (.t 34)], none⟩])
  (.seq (.reg [⟨some 4, .mv (.k (.int .i64 0)), none⟩])
  (.ret)))))))
theorem b26 : Body Try.prog 26 c26 [.tmp 4] 36 := ⟨by kernel_rfl, _, _, Try.func26, rfl, by kernel_rfl, by kernel_rfl, rfl⟩
def c27 : ACode :=
  .seq (.reg [⟨some 6, .mv (.k (.int .i64 0)), none⟩,
    ⟨some 7, .mv (.k (.int .i64 0)), none⟩,
    ⟨some 8, .mv (.k (.int .i64 0)), none⟩])
  (.seq (.reg [⟨some 11, .mv (.t 0), none⟩,
    ⟨some 12, .mv (.t 1), none⟩,
    ⟨some 13, .mv (.t 2), none⟩,
    ⟨some 14, .call (.k (.fn 45 [] [])) [(.t 11), (.t 12), (.t 13)], none⟩,
    ⟨some 10, .mv (.t 14), none⟩,
    ⟨some 15, .ext (.t 10) 0, none⟩,
    ⟨some 16, .ext (.t 10) 1, none⟩,
    ⟨some 9, .mv (.t 15), none⟩,
    ⟨some 8, .mv (.t 16), none⟩])
  (.seq (.seq (.reg [⟨some 17, .mv (.t 8), none⟩,
    ⟨some 18, .bin .neq (.t 17) (.k (.int .i64 0)), none⟩])
  (.cond (.t 18) (.seq (.reg [⟨some 19, .mv (.t 8), none⟩,
      ⟨some 6, .mv (.k (.int .i64 0)), none⟩,
      ⟨some 7, .mv (.k (.int .i64 0)), none⟩,
      ⟨some 8, .mv (.t 19), none⟩])
    (.ret))
    (.skip)))
  (.seq (.reg [⟨some 20, .mv (.t 0), none⟩,
    ⟨some 21, .mv (.t 9), none⟩,
    ⟨some 22, .call (.k (.fn 50 [] [])) [(.t 20), (.t 21)], none⟩,
    ⟨some 23, .fld false 2 1 (.t 22), none⟩,
    ⟨some 6, .mv (.t 23), none⟩])
  (.seq (.regD [⟨some 24, .mv (.t 6), none⟩,
    ⟨some 25, .mv (.t 0), none⟩,
    ⟨some 26, .mv (.t 6), none⟩,
    ⟨some 27, .nchk (.t 25), none⟩,
    ⟨some 28, .faddr 2 (.t 27), none⟩,
    ⟨some 29, .iaddrA 1024 1 (.t 28) (.t 26), none⟩,
    ⟨some 30, .load false 1 (.t 29), none⟩,
    ⟨some 6, .mv (.t 24), none⟩,
    ⟨some 7, .mv (.t 30), none⟩,
    ⟨some 8, .mv (.k (.int .i64 0)), none⟩] [[], [], [], [1], [3], [4, 2], [5], [0, 0, 2], [6, 7, 0, 1, 2, 3, 4, 5, 6, 7], [8, 0, 1, 2, 3, 4, 5, 6, 7, 8]])
  (.ret)))))
theorem b27 : Body Try.prog 27 c27 [.tmp 6, .tmp 7, .tmp 8] 31 := ⟨by kernel_rfl, _, _, Try.func27, rfl, by kernel_rfl, by kernel_rfl, rfl⟩
def c28 : ACode :=
  .seq (.reg [⟨some 2, .box (.t 0), none⟩,
    ⟨some 3, .box (.t 1), none⟩,
    ⟨some 4, .mv (.k .nilf), none⟩])
  (.seq (.reg [⟨some 5, .mkfn 51 [] [(.t 2), (.t 3)], none⟩,
    ⟨some 4, .mv (.t 5), none⟩])
  (.ret))
theorem b28 : Body Try.prog 28 c28 [.tmp 4] 6 := ⟨by kernel_rfl, _, _, Try.func28, rfl, by kernel_rfl, by kernel_rfl, rfl⟩
def c29 : ACode :=
  .seq (.reg [⟨some 2, .mv (.k .nilp), none⟩])
  (.seq (.reg [⟨some 7, .build [.nils] [], none⟩,
    ⟨some 8, .call (.k (.fn 53 [] [])) [(.t 7)], none⟩,
    ⟨some 6, .mv (.t 8), none⟩,
    ⟨some 9, .ext (.t 6) 0, none⟩,
    ⟨some 10, .ext (.t 6) 1, none⟩,
    ⟨some 3, .mv (.t 9), none⟩,
    ⟨some 4, .mv (.t 10), none⟩])
  (.seq (.seq (.reg [⟨some 11, .mv (.t 4), none⟩,
    ⟨some 12, .bin .neq (.t 11) (.k (.int .i64 0)), none⟩])
  (.cond (.t 12) (.seq (.reg [⟨some 2, .mv (.k .nilp), none⟩])
    (.ret))
    (.skip)))
  (.seq (.seq (.reg [⟨some 5, .mv (.k (.int .i64 0)), none⟩])
  (.block 0 (.loop (.seq (.seq (.reg [⟨some 13, .mv (.t 5), none⟩,
      ⟨some 14, .mv (.t 0), none⟩,
      ⟨some 15, .len (.t 14), none⟩,
      ⟨some 16, .bin .lss (.t 13) (.t 15), none⟩])
    (.cond (.t 16) (.skip)
      (.exit 0)))
    (.seq (.block 1 (.seq (.reg [⟨some 19, .mv (.t 3), none⟩,
       ⟨some 20, .mv (.t 0), none⟩,
       ⟨some 21, .mv (.t 5), none⟩,
       ⟨some 22, .iaddrS 1 (.t 20) (.t 21), none⟩,
       ⟨some 23, .load false 1 (.t 22), none⟩,
       ⟨some 24, .call (.k (.fn 23 [] [])) [(.t 19), (.t 23), (.k (.int .i64 1))], none⟩])
     (.reg [⟨some 25, .mv (.t 3), none⟩,
       ⟨some 26, .mv (.t 0), none⟩,
       ⟨some 27, .mv (.t 5), none⟩,
       ⟨some 28, .iaddrS 1 (.t 26) (.t 27), none⟩,
       ⟨some 29, .load false 1 (.t 28), none⟩,
       ⟨some 30, .call (.k (.fn 24 [] [])) [(.t 25), (.t 29), (.k (.int .i64 1))], none⟩])))
    (.reg [⟨some 17, .mv (.t 5), none⟩,
      ⟨some 18, .bin .add (.t 17) (.k (.int .i64 1)), none⟩,
      ⟨some 5, .mv (.t 18), none⟩]))))))
  (.seq (.reg [⟨some 31, .mv (.t 3), none⟩,
    ⟨some 2, .mv (.t 31), none⟩])
  (.ret)))))
theorem b29 : Body Try.prog 29 c29 [.tmp 2] 32 := ⟨by kernel_rfl, _, _, Try.func29, rfl, by kernel_rfl, by kernel_rfl, rfl⟩
def c30 : ACode :=
  .seq (.reg [⟨some 0, .mv (.k .nilp), none⟩])
  (.seq (.reg [⟨some 4, .call (.k (.fn 54 [] [])) [(.k (.int .i64 2000)), (.k (.int .i64 64))], none⟩,
    ⟨some 3, .mv (.t 4), none⟩,
    ⟨some 5, .ext (.t 3) 0, none⟩,
    ⟨some 6, .ext (.t 3) 1, none⟩,
    ⟨some 1, .mv (.t 5), none⟩,
    ⟨some 2, .mv (.t 6), none⟩])
  (.seq (.reg [⟨some 7, .mv (.t 1), none⟩,
    ⟨some 8, .mkmap, none⟩,
    ⟨some 9, .build (.nilp :: .undef :: List.replicate 1024 (.int .i64 0)) [(0, 1, (.t 7)), (1, 1, (.t 8))], none⟩,
    ⟨some 10, .box (.t 9), none⟩,
    ⟨some 0, .mv (.t 10), none⟩])
  (.ret)))
theorem b30 : Body Try.prog 30 c30 [.tmp 0] 11 := ⟨by kernel_rfl, _, _, Try.func30, rfl, by kernel_rfl, by kernel_rfl, rfl⟩
def c32 : ACode :=
  .seq (.reg [⟨some 8, .mv (.k (.int .u8 0)), none⟩,
    ⟨some 9, .mv (.k (.int .i64 0)), none⟩])
  (.seq (.reg [⟨some 13, .mv (.t 0), none⟩,
    ⟨some 14, .mv (.t 2), none⟩,
    ⟨some 15, .mv (.t 3), none⟩,
    ⟨some 16, .call (.k (.fn 44 [] [])) [(.t 13), (.t 14), (.t 15), (.k (.bool false))], none⟩,
    ⟨some 12, .mv (.t 16), none⟩,
    ⟨some 17, .ext (.t 12) 0, none⟩,
    ⟨some 18, .ext (.t 12) 1, none⟩,
    ⟨some 10, .mv (.t 17), none⟩,
    ⟨some 11, .mv (.t 18), none⟩])
  (.seq (.seq (.reg [⟨some 19, .mv (.t 11), none⟩,
    ⟨some 20, .bin .neq (.t 19) (.k (.int .i64 0)), none⟩])
  (.cond (.t 20) (.seq (.reg [⟨some 21, .mv (.t 11), none⟩,
      ⟨some 8, .mv (.k (.int .u8 0)), none⟩,
      ⟨some 9, .mv (.t 21), none⟩])
    (.ret))
    (.skip)))
  (.seq (.reg [⟨some 22, .mv (.t 1), none⟩,
    ⟨some 23, .mv (.t 10), none⟩,
    ⟨some 24, .call (.k (.fn 57 [] [])) [(.t 22), (.t 23)], none⟩,
    ⟨some 25, .ext (.t 24) 0, none⟩,
    ⟨some 26, .ext (.t 24) 1, none⟩,
    ⟨some 8, .mv (.t 25), none⟩,
    ⟨some 9, .mv (.t 26), none⟩])
  (.ret))))
theorem b32 : Body Try.prog 32 c32 [.tmp 8, .tmp 9] 27 := ⟨by kernel_rfl, _, _, Try.func32, rfl, by kernel_rfl, by kernel_rfl, rfl⟩
def c34 : ACode :=
  .seq (.reg [⟨some 6, .new [(.int .i64 0), (.int .i64 0), (.int .i64 0), (.bool false)], none⟩,
    ⟨some 7, .mv (.k (.int .i64 0)), none⟩])
  (.seq (.reg [⟨some 11, .mv (.t 0), none⟩,
    ⟨some 12, .mv (.t 1), none⟩,
    ⟨some 13, .mv (.t 2), none⟩,
    ⟨some 14, .call (.k (.fn 45 [] [])) [(.t 11), (.t 12), (.t 13)], none⟩,
    ⟨some 10, .mv (.t 14), none⟩,
    ⟨some 15, .ext (.t 10) 0, none⟩,
    ⟨some 16, .ext (.t 10) 1, none⟩,
    ⟨some 8, .mv (.t 15), none⟩,
    ⟨some 9, .mv (.t 16), none⟩])
  (.seq (.seq (.reg [⟨some 17, .mv (.t 9), none⟩,
    ⟨some 18, .bin .neq (.t 17) (.k (.int .i64 0)), none⟩])
  (.cond (.t 18) (.seq (.reg [⟨some 19, .build [(.int .i64 0), (.int .i64 0), (.int .i64 0), (.bool false)] [], none⟩,
      ⟨some 20, .mv (.t 9), none⟩,
      ⟨none, .store 4 (.t 6) (.t 19), none⟩,
      ⟨some 7, .mv (.t 20), none⟩])
    (.ret))
    (.skip)))
  (.seq (.reg [⟨some 21, .mv (.t 0), none⟩,
    ⟨some 22, .nchk (.t 21), none⟩,
    ⟨some 23, .faddr 0 (.t 22), none⟩,
    ⟨some 24, .load false 1 (.t 23), none⟩,
    ⟨some 25, .mv (.t 8), none⟩,
    ⟨some 26, .call (.k (.fn 46 [] [])) [(.t 24), (.t 25)], none⟩,
    ⟨some 27, .ext (.t 26) 0, none⟩,
    ⟨some 28, .ext (.t 26) 1, none⟩,
    ⟨none, .store 4 (.t 6) (.t 27), none⟩,
    ⟨some 7, .mv (.t 28), none⟩])
  (.ret))))
theorem b34 : Body Try.prog 34 c34 [.cell 6 true 4, .tmp 7] 29 := ⟨by kernel_rfl, _, _, Try.func34, rfl, by kernel_rfl, by kernel_rfl, rfl⟩
def c36 : ACode :=
  .seq (.reg [⟨some 6, .mv (.k (.int .i64 0)), none⟩])
  (.seq (.reg [⟨some 10, .mv (.t 0), none⟩,
    ⟨some 11, .mv (.t 1), none⟩,
    ⟨some 12, .call (.k (.fn 58 [] [])) [(.t 10), (.t 11)], none⟩,
    ⟨some 9, .mv (.t 12), none⟩,
    ⟨some 13, .ext (.t 9) 0, none⟩,
    ⟨some 14, .ext (.t 9) 1, none⟩,
    ⟨some 7, .mv (.t 13), none⟩,
    ⟨some 8, .mv (.t 14), none⟩])
  (.seq (.seq (.reg [⟨some 15, .mv (.t 8), none⟩,
    ⟨some 16, .bin .eql (.t 15) (.k (.int .i64 0)), none⟩])
  (.cond (.t 16) (.reg [⟨some 17, .mv (.t 7), none⟩,
      ⟨some 18, .mv (.t 2), none⟩,
      ⟨some 19, .nchk (.t 17), none⟩,
      ⟨none, .store 1 (.t 19) (.t 18), none⟩])
    (.skip)))
  (.seq (.reg [⟨some 20, .mv (.t 8), none⟩,
    ⟨some 6, .mv (.t 20), none⟩])
  (.ret))))
theorem b36 : Body Try.prog 36 c36 [.tmp 6] 21 := ⟨by kernel_rfl, _, _, Try.func36, rfl, by kernel_rfl, by kernel_rfl, rfl⟩
def c37 : ACode :=
  .seq (.reg [⟨some 2, .mv (.k (.bool false)), none⟩])
  (.seq (.reg [⟨some 3, .mv (.t 0), none⟩,
    ⟨some 4, .eqp true false (.t 3) (.k .nilp), none⟩,
    ⟨some 5, .mv (.t 4), none⟩,
    ⟨some 6, .mv (.t 0), some (5, true)⟩,
    ⟨some 7, .nchk (.t 6), some (5, true)⟩,
    ⟨some 8, .faddr 0 (.t 7), some (5, true)⟩,
    ⟨some 9, .load false 1 (.t 8), some (5, true)⟩,
    ⟨some 10, .eqp true false (.t 9) (.k .nilp), some (5, true)⟩,
    ⟨some 11, .pick (.t 5) (.t 10) (.k (.bool false)), none⟩,
    ⟨some 2, .mv (.t 11), none⟩])
  (.ret))
theorem b37 : Body Try.prog 37 c37 [.tmp 2] 12 := ⟨by kernel_rfl, _, _, Try.func37, rfl, by kernel_rfl, by kernel_rfl, rfl⟩
def c38 : ACode :=
  .seq (.reg [⟨some 2, .mv (.k (.int .i64 0)), none⟩])
  (.seq (.seq (.reg [⟨some 5, .mv (.t 0), none⟩,
    ⟨some 6, .len (.t 5), none⟩,
    ⟨some 7, .mv (.k (.int .i64 0)), none⟩])
  (.block 0 (.loop (.seq (.reg [⟨some 8, .bin .lss (.t 7) (.t 6), none⟩])
    (.seq (.cond (.t 8) (.skip)
      (.exit 0))
    (.seq (.block 1 (.seq (.reg [⟨some 9, .iaddrS 1 (.t 5) (.t 7), none⟩,
       ⟨some 10, .load false 1 (.t 9), none⟩,
       ⟨some 4, .mv (.t 10), none⟩])
     (.seq (.reg [⟨some 11, .mv (.t 4), none⟩,
       ⟨some 12, .bin .lss (.t 11) (.k (.int .i64 0)), none⟩,
       ⟨some 13, .mv (.t 12), none⟩,
       ⟨some 14, .mv (.t 4), some (13, false)⟩,
       ⟨some 15, .bin .geq (.t 14) (.k (.int .i64 1024)), some (13, false)⟩,
       ⟨some 16, .pick (.t 13) (.k (.bool true)) (.t 15), none⟩])
     (.cond (.t 16) (.seq (.reg [⟨some 2, .mv (.k (.int .i64 7)), none⟩])
       (.ret))
       (.skip)))))
    (.reg [⟨some 17, .bin .add (.t 7) (.k (.int .i64 1)), none⟩,
      ⟨some 7, .mv (.t 17), none⟩])))))))
  (.seq (.reg [⟨some 2, .mv (.k (.int .i64 0)), none⟩])
  (.ret)))
theorem b38 : Body Try.prog 38 c38 [.tmp 2] 18 := ⟨by kernel_rfl, _, _, Try.func38, rfl, by kernel_rfl, by kernel_rfl, rfl⟩
def c39 : ACode :=
  .seq (.reg [⟨some 1, .box (.t 0), none⟩,
    ⟨some 2, .mv (.k (.bool false)), none⟩])
  (.seq (.reg [⟨some 3, .faddr 0 (.t 1), none⟩,
    ⟨some 4, .load false 1 (.t 3), none⟩,
    ⟨some 5, .bslice 1 1 [(.int .i64 0)] [(0, 1, (.t 4))], none⟩,
    ⟨some 6, .call (.k (.fn 55 [] [])) [(.t 5)], none⟩,
    ⟨some 7, .bin .eql (.t 6) (.k (.int .i64 0)), none⟩,
    ⟨some 8, .mv (.t 7), none⟩,
    ⟨some 9, .faddr 1 (.t 1), some (8, true)⟩,
    ⟨some 10, .load false 1 (.t 9), some (8, true)⟩,
    ⟨some 11, .faddr 2 (.t 1), some (8, true)⟩,
    ⟨some 12, .load false 1 (.t 11), some (8, true)⟩,
    ⟨some 13, .bslice 1 2 [(.int .i64 0), (.int .i64 0)] [(0, 1, (.t 10)), (1, 1, (.t 12))], some (8, true)⟩,
    ⟨some 14, .call (.k (.fn 38 [] [])) [(.t 13)], some (8, true)⟩,
    ⟨some 15, .bin .eql (.t 14) (.k (.int .i64 0)), some (8, true)⟩,
    ⟨some 16, .pick (.t 8) (.t 15) (.k (.bool false)), none⟩,
    ⟨some 2, .mv (.t 16), none⟩])
  (.ret))
theorem b39 : Body Try.prog 39 c39 [.tmp 2] 17 := ⟨by kernel_rfl, _, _, Try.func39, rfl, by kernel_rfl, by kernel_rfl, rfl⟩
def c40 : ACode :=
  .seq (.reg [⟨some 2, .mv (.k (.bool false)), none⟩])
  (.seq (.reg [⟨some 3, .mv (.t 0), none⟩,
    ⟨some 4, .bin .geq (.t 3) (.k (.int .i64 0)), none⟩,
    ⟨some 5, .mv (.t 4), none⟩,
    ⟨some 6, .mv (.t 0), some (5, true)⟩,
    ⟨some 7, .bin .lss (.t 6) (.k (.int .i64 64)), some (5, true)⟩,
    ⟨some 8, .pick (.t 5) (.t 7) (.k (.bool false)), none⟩,
    ⟨some 2, .mv (.t 8), none⟩])
  (.ret))
theorem b40 : Body Try.prog 40 c40 [.tmp 2] 9 := ⟨by kernel_rfl, _, _, Try.func40, rfl, by kernel_rfl, by kernel_rfl, rfl⟩
def c41 : ACode :=
  .seq (.reg [⟨some 2, .mv (.k (.bool false)), none⟩])
  (.seq (.reg [⟨some 3, .mv (.t 0), none⟩,
    ⟨some 4, .bin .geq (.t 3) (.k (.int .i64 0)), none⟩,
    ⟨some 5, .mv (.t 4), none⟩,
    ⟨some 6, .mv (.t 0), some (5, true)⟩,
    ⟨some 7, .bin .lss (.t 6) (.k (.int .i64 1024)), some (5, true)⟩,
    ⟨some 8, .pick (.t 5) (.t 7) (.k (.bool false)), none⟩,
    ⟨some 2, .mv (.t 8), none⟩])
  (.ret))
theorem b41 : Body Try.prog 41 c41 [.tmp 2] 9 := ⟨by kernel_rfl, _, _, Try.func41, rfl, by kernel_rfl, by kernel_rfl, rfl⟩
def c42 : ACode :=
  .seq (.reg [⟨some 2, .box (.t 0), none⟩,
    ⟨some 3, .box (.t 1), none⟩,
    ⟨some 4, .mv (.k (.bool false)), none⟩])
  (.seq (.reg [⟨some 5, .faddr 0 (.t 2), none⟩,
    ⟨some 6, .load false 1 (.t 5), none⟩,
    ⟨some 7, .faddr 0 (.t 3), none⟩,
    ⟨some 8, .load false 1 (.t 7), none⟩,
    ⟨some 9, .bin .lss (.t 6) (.t 8), none⟩,
    ⟨some 10, .mv (.t 9), none⟩,
    ⟨some 11, .faddr 0 (.t 2), some (10, false)⟩,
    ⟨some 12, .load false 1 (.t 11), some (10, false)⟩,
    ⟨some 13, .faddr 0 (.t 3), some (10, false)⟩,
    ⟨some 14, .load false 1 (.t 13), some (10, false)⟩,
    ⟨some 15, .bin .eql (.t 12) (.t 14), some (10, false)⟩,
    ⟨some 16, .mv (.t 15), some (10, false)⟩,
    ⟨some 17, .faddr 1 (.t 2), some (16, true)⟩,
    ⟨some 18, .load false 1 (.t 17), some (16, true)⟩,
    ⟨some 19, .faddr 1 (.t 3), some (16, true)⟩,
    ⟨some 20, .load false 1 (.t 19), some (16, true)⟩,
    ⟨some 21, .bin .lss (.t 18) (.t 20), some (16, true)⟩,
    ⟨some 22, .pick (.t 16) (.t 21) (.k (.bool false)), some (10, false)⟩,
    ⟨some 23, .pick (.t 10) (.k (.bool true)) (.t 22), none⟩,
    ⟨some 4, .mv (.t 23), none⟩])
  (.ret))
theorem b42 : Body Try.prog 42 c42 [.tmp 4] 24 := ⟨by kernel_rfl, _, _, Try.func42, rfl, by kernel_rfl, by kernel_rfl, rfl⟩
def c43 : ACode :=
  .seq (.reg [⟨some 3, .box (.t 1), none⟩])
  (.seq (.regD [⟨some 9, .mv (.t 0), none⟩,
    ⟨some 10, .nchk (.t 9), none⟩,
    ⟨some 11, .faddr 0 (.t 10), none⟩,
    ⟨some 12, .load false 1 (.t 11), none⟩,
    ⟨some 13, .faddr 0 (.t 3), none⟩,
    ⟨some 14, .load false 1 (.t 13), none⟩,
    ⟨some 15, .call (.k (.fn 59 [] [])) [(.t 12), (.t 14), (.k (.bool false))], none⟩,
    ⟨some 8, .mv (.t 15), none⟩,
    ⟨some 16, .ext (.t 8) 0, none⟩,
    ⟨some 17, .ext (.t 8) 1, none⟩,
    ⟨some 4, .mv (.t 16), none⟩,
    ⟨some 5, .mv (.t 17), none⟩] [[], [0], [1], [2], [], [4], [3, 5], [6], [7], [7], [8, 6, 0, 1, 2, 3, 4, 5, 6, 7, 8], [9, 10, 0, 1, 2, 3, 4, 5, 6, 7, 8, 9, 10]])
  (.seq (.block 0 (.loop (.seq (.seq (.reg [⟨some 18, .mv (.t 5), none⟩,
      ⟨some 19, .bin .eql (.t 18) (.k (.int .i64 0)), none⟩])
    (.cond (.t 19) (.skip)
      (.exit 0)))
    (.block 1 (.seq (.seq (.reg [⟨some 21, .mv (.t 0), none⟩,
       ⟨some 22, .nchk (.t 21), none⟩,
       ⟨some 23, .faddr 0 (.t 22), none⟩,
       ⟨some 24, .load false 1 (.t 23), none⟩,
       ⟨some 25, .mv (.t 4), none⟩,
       ⟨some 26, .call (.k (.fn 46 [] [])) [(.t 24), (.t 25)], none⟩,
       ⟨some 20, .mv (.t 26), none⟩,
       ⟨some 27, .ext (.t 20) 0, none⟩,
       ⟨some 28, .ext (.t 20) 1, none⟩,
       ⟨some 6, .new [(.int .i64 0), (.int .i64 0), (.int .i64 0), (.bool false)], none⟩,
       ⟨none, .store 4 (.t 6) (.t 27), none⟩,
       ⟨some 7, .mv (.t 28), none⟩])
     (.seq (.reg [⟨some 29, .faddr 1 (.t 6), none⟩,
       ⟨some 30, .load false 1 (.t 29), none⟩,
       ⟨some 31, .faddr 1 (.t 3), none⟩,
       ⟨some 32, .load false 1 (.t 31), none⟩,
       ⟨some 33, .bin .lss (.t 30) (.t 32), none⟩])
     (.cond (.t 33) (.exit 0)
       (.skip))))
     (.reg [⟨some 35, .mv (.t 0), none⟩,
       ⟨some 36, .nchk (.t 35), none⟩,
       ⟨some 37, .faddr 0 (.t 36), none⟩,
       ⟨some 38, .load false 1 (.t 37), none⟩,
       ⟨some 39, .mv (.t 4), none⟩,
       ⟨some 40, .call (.k (.fn 60 [] [])) [(.t 38), (.t 39), (.k (.bool true))], none⟩,
       ⟨some 34, .mv (.t 40), none⟩,
       ⟨some 41, .ext (.t 34) 0, none⟩,
       ⟨some 42, .ext (.t 34) 1, none⟩,
       ⟨some 4, .mv (.t 41), none⟩,
       ⟨some 5, .mv (.t 42), none⟩]))))))
  (.seq (.seq (.reg [⟨some 43, .mv (.t 5), none⟩,
    ⟨some 44, .bin .eql (.t 43) (.k (.int .i64 0)), none⟩])
  (.cond (.t 44) (.regD [⟨some 46, .mv (.t 0), none⟩,
      ⟨some 47, .nchk (.t 46), none⟩,
      ⟨some 48, .faddr 0 (.t 47), none⟩,
      ⟨some 49, .load false 1 (.t 48), none⟩,
      ⟨some 50, .mv (.t 4), none⟩,
      ⟨some 51, .load true 4 (.t 3), none⟩,
      ⟨some 52, .call (.k (.fn 61 [] [])) [(.t 49), (.t 50), (.t 51)], none⟩,
      ⟨some 45, .mv (.t 52), none⟩,
      ⟨some 53, .ext (.t 45) 0, none⟩,
      ⟨some 54, .ext (.t 45) 1, none⟩,
      ⟨some 4, .mv (.t 53), none⟩] [[], [0], [1], [2], [], [], [3, 4, 5], [6], [7], [7], [8, 6, 0, 1, 2, 3, 4, 5, 6, 7, 8]])
    (.regD [⟨some 56, .mv (.t 0), none⟩,
      ⟨some 57, .nchk (.t 56), none⟩,
      ⟨some 58, .faddr 0 (.t 57), none⟩,
      ⟨some 59, .load false 1 (.t 58), none⟩,
      ⟨some 60, .faddr 0 (.t 3), none⟩,
      ⟨some 61, .load false 1 (.t 60), none⟩,
      ⟨some 62, .load true 4 (.t 3), none⟩,
      ⟨some 63, .call (.k (.fn 62 [] [])) [(.t 59), (.t 61), (.t 62), (.k (.bool true))], none⟩,
      ⟨some 55, .mv (.t 63), none⟩,
      ⟨some 64, .ext (.t 55) 0, none⟩,
      ⟨some 65, .ext (.t 55) 1, none⟩,
      ⟨some 4, .mv (.t 64), none⟩] [[], [0], [1], [2], [], [4], [], [3, 5, 6], [7], [8], [8], [9, 7, 0, 1, 2, 3, 4, 5, 6, 7, 8, 9]])))
  (.seq (.regD [⟨some 66, .mv (.t 0), none⟩,
    ⟨some 67, .nchk (.t 66), none⟩,
    ⟨some 68, .faddr 1 (.t 67), none⟩,
    ⟨some 69, .load false 1 (.t 68), none⟩,
    ⟨some 70, .faddr 0 (.t 3), none⟩,
    ⟨some 71, .load false 1 (.t 70), none⟩,
    ⟨some 72, .faddr 1 (.t 3), none⟩,
    ⟨some 73, .load false 1 (.t 72), none⟩,
    ⟨some 74, .build [(.int .i64 0), (.int .i64 0)] [(0, 1, (.t 71)), (1, 1, (.t 73))], none⟩,
    ⟨some 75, .mv (.t 4), none⟩,
    ⟨none, .mset true [0, 0] (.t 69) (.t 74) (.t 75), none⟩] [[], [0], [1], [2], [], [4], [], [6], [5, 7], [], [3, 8, 9, 0, 1, 2, 3, 4, 5, 6, 7, 8, 9]])
  (.regD [⟨some 76, .mv (.t 0), none⟩,
    ⟨some 77, .faddr 2 (.t 3), none⟩,
    ⟨some 78, .load false 1 (.t 77), none⟩,
    ⟨some 79, .nchk (.t 76), none⟩,
    ⟨some 80, .faddr 2 (.t 79), none⟩,
    ⟨some 81, .iaddrA 1024 1 (.t 80) (.t 78), none⟩,
    ⟨some 82, .load false 1 (.t 81), none⟩,
    ⟨some 83, .bin .add (.t 82) (.k (.int .i64 1)), none⟩,
    ⟨some 84, .nchk (.t 76), none⟩,
    ⟨some 85, .faddr 2 (.t 84), none⟩,
    ⟨some 86, .iaddrA 1024 1 (.t 85) (.t 78), none⟩,
    ⟨none, .store 1 (.t 86) (.t 83), none⟩] [[], [], [1], [0], [3], [4, 2], [5], [6], [0], [8], [9, 2, 0, 1, 2, 3, 4, 5, 6, 7], [10, 7, 0, 1, 2, 3, 4, 5, 6, 7]])))))
theorem b43 : Body Try.prog 43 c43 [] 87 := ⟨by kernel_rfl, _, _, Try.func43, rfl, by kernel_rfl, by kernel_rfl, rfl⟩
def c44 : ACode :=
  .seq (.reg [⟨some 8, .mv (.k (.int .i64 0)), none⟩,
    ⟨some 9, .mv (.k (.int .i64 0)), none⟩])
  (.seq (.seq (.reg [⟨some 12, .mv (.t 0), none⟩,
    ⟨some 13, .call (.k (.fn 37 [] [])) [(.t 12)], none⟩,
    ⟨some 14, .mv (.t 13), none⟩,
    ⟨some 15, .mv (.t 2), some (14, true)⟩,
    ⟨some 16, .bin .lss (.t 15) (.k (.int .i64 0)), some (14, true)⟩,
    ⟨some 17, .mv (.t 16), some (14, true)⟩,
    ⟨some 18, .mv (.t 2), some (17, false)⟩,
    ⟨some 19, .bin .geq (.t 18) (.k (.int .i64 65536)), some (17, false)⟩,
    ⟨some 20, .pick (.t 17) (.k (.bool true)) (.t 19), some (14, true)⟩,
    ⟨some 21, .pick (.t 14) (.t 20) (.k (.bool false)), none⟩])
  (.cond (.t 21) (.seq (.reg [⟨some 8, .mv (.k (.int .i64 0)), none⟩,
      ⟨some 9, .mv (.k (.int .i64 7)), none⟩])
    (.ret))
    (.skip)))
  (.seq (.reg [⟨some 23, .mv (.t 0), none⟩,
    ⟨some 24, .mv (.t 1), none⟩,
    ⟨some 25, .mv (.t 2), none⟩,
    ⟨some 26, .bin .quo (.t 25) (.k (.int .i64 64)), none⟩,
    ⟨some 27, .call (.k (.fn 34 [] [])) [(.t 23), (.t 24), (.t 26)], none⟩,
    ⟨some 22, .mv (.t 27), none⟩,
    ⟨some 28, .ext (.t 22) 0, none⟩,
    ⟨some 29, .ext (.t 22) 1, none⟩,
    ⟨some 10, .new [(.int .i64 0), (.int .i64 0), (.int .i64 0), (.bool false)], none⟩,
    ⟨none, .store 4 (.t 10) (.t 28), none⟩,
    ⟨some 11, .mv (.t 29), none⟩])
  (.seq (.block 0 (.seq (.reg [⟨some 31, .mv (.t 11), none⟩,
     ⟨some 32, .bin .eql (.t 31) (.k (.int .i64 4)), none⟩,
     ⟨some 33, .mv (.t 32), none⟩,
     ⟨some 34, .mv (.t 11), some (33, false)⟩,
     ⟨some 35, .bin .eql (.t 34) (.k (.int .i64 0)), some (33, false)⟩,
     ⟨some 36, .mv (.t 35), some (33, false)⟩,
     ⟨some 37, .mv (.t 3), some (36, true)⟩,
     ⟨some 38, .pick (.t 36) (.t 37) (.k (.bool false)), some (33, false)⟩,
     ⟨some 39, .mv (.t 38), some (33, false)⟩,
     ⟨some 40, .faddr 3 (.t 10), some (39, true)⟩,
     ⟨some 41, .load false 1 (.t 40), some (39, true)⟩,
     ⟨some 42, .un .not (.t 41), some (39, true)⟩,
     ⟨some 43, .pick (.t 39) (.t 42) (.k (.bool false)), some (33, false)⟩,
     ⟨some 44, .pick (.t 33) (.k (.bool true)) (.t 43), none⟩,
     ⟨some 30, .mv (.t 44), none⟩])
   (.cond (.t 30) (.seq (.reg [⟨some 8, .mv (.k (.int .i64 0)), none⟩,
       ⟨some 9, .mv (.k (.int .i64 220)), none⟩])
     (.ret))
     (.seq (.reg [⟨some 46, .mv (.t 11), none⟩,
       ⟨some 47, .bin .neq (.t 46) (.k (.int .i64 0)), none⟩,
       ⟨some 45, .mv (.t 47), none⟩])
     (.cond (.t 45) (.seq (.reg [⟨some 48, .mv (.t 11), none⟩,
         ⟨some 8, .mv (.k (.int .i64 0)), none⟩,
         ⟨some 9, .mv (.t 48), none⟩])
       (.ret))
       (.skip))))))
  (.seq (.reg [⟨some 49, .faddr 2 (.t 10), none⟩,
    ⟨some 50, .load false 1 (.t 49), none⟩,
    ⟨some 51, .bin .mul (.t 50) (.k (.int .i64 64)), none⟩,
    ⟨some 52, .mv (.t 2), none⟩,
    ⟨some 53, .bin .rem (.t 52) (.k (.int .i64 64)), none⟩,
    ⟨some 54, .bin .add (.t 51) (.t 53), none⟩,
    ⟨some 8, .mv (.t 54), none⟩,
    ⟨some 9, .mv (.k (.int .i64 0)), none⟩])
  (.ret)))))
theorem b44 : Body Try.prog 44 c44 [.tmp 8, .tmp 9] 55 := ⟨by kernel_rfl, _, _, Try.func44, rfl, by kernel_rfl, by kernel_rfl, rfl⟩
def c45 : ACode :=
  .seq (.reg [⟨some 6, .mv (.k (.int .i64 0)), none⟩,
    ⟨some 7, .mv (.k (.int .i64 0)), none⟩])
  (.seq (.seq (.reg [⟨some 10, .mv (.t 0), none⟩,
    ⟨some 11, .call (.k (.fn 37 [] [])) [(.t 10)], none⟩,
    ⟨some 12, .un .not (.t 11), none⟩])
  (.cond (.t 12) (.seq (.reg [⟨some 6, .mv (.k (.int .i64 0)), none⟩,
      ⟨some 7, .mv (.k (.int .i64 1)), none⟩])
    (.ret))
    (.skip)))
  (.seq (.seq (.reg [⟨some 13, .mv (.t 1), none⟩,
    ⟨some 14, .bslice 1 1 [(.int .i64 0)] [(0, 1, (.t 13))], none⟩,
    ⟨some 15, .call (.k (.fn 55 [] [])) [(.t 14)], none⟩,
    ⟨some 16, .bin .neq (.t 15) (.k (.int .i64 0)), none⟩,
    ⟨some 17, .mv (.t 16), none⟩,
    ⟨some 18, .mv (.t 2), some (17, false)⟩,
    ⟨some 19, .bslice 1 1 [(.int .i64 0)] [(0, 1, (.t 18))], some (17, false)⟩,
    ⟨some 20, .call (.k (.fn 38 [] [])) [(.t 19)], some (17, false)⟩,
    ⟨some 21, .bin .neq (.t 20) (.k (.int .i64 0)), some (17, false)⟩,
    ⟨some 22, .pick (.t 17) (.k (.bool true)) (.t 21), none⟩])
  (.cond (.t 22) (.seq (.reg [⟨some 6, .mv (.k (.int .i64 0)), none⟩,
      ⟨some 7, .mv (.k (.int .i64 7)), none⟩])
    (.ret))
    (.skip)))
  (.seq (.reg [⟨some 24, .mv (.t 0), none⟩,
    ⟨some 25, .nchk (.t 24), none⟩,
    ⟨some 26, .faddr 1 (.t 25), none⟩,
    ⟨some 27, .load false 1 (.t 26), none⟩,
    ⟨some 28, .mv (.t 1), none⟩,
    ⟨some 29, .mv (.t 2), none⟩,
    ⟨some 30, .build [(.int .i64 0), (.int .i64 0)] [(0, 1, (.t 28)), (1, 1, (.t 29))], none⟩,
    ⟨some 31, .mlook true true [0, 0] (.int .i64 0) (.t 27) (.t 30), none⟩,
    ⟨some 23, .mv (.t 31), none⟩,
    ⟨some 32, .ext (.t 23) 0, none⟩,
    ⟨some 33, .ext (.t 23) 1, none⟩,
    ⟨some 8, .mv (.t 32), none⟩,
    ⟨some 9, .mv (.t 33), none⟩])
  (.seq (.seq (.reg [⟨some 34, .mv (.t 9), none⟩,
    ⟨some 35, .un .not (.t 34), none⟩])
  (.cond (.t 35) (.seq (.reg [⟨some 6, .mv (.k (.int .i64 0)), none⟩,
      ⟨some 7, .mv (.k (.int .i64 4)), none⟩])
    (.ret))
    (.skip)))
  (.seq (.reg [⟨some 36, .mv (.t 8), none⟩,
    ⟨some 6, .mv (.t 36), none⟩,
    ⟨some 7, .mv (.k (.int .i64 0)), none⟩])
  (.ret))))))
theorem b45 : Body Try.prog 45 c45 [.tmp 6, .tmp 7] 37 := ⟨by kernel_rfl, _, _, Try.func45, rfl, by kernel_rfl, by kernel_rfl, rfl⟩
def c46 : ACode :=
  .seq (.reg [⟨some 4, .new [(.int .i64 0), (.int .i64 0), (.int .i64 0), (.bool false)], none⟩,
    ⟨some 5, .mv (.k (.int .i64 0)), none⟩])
  (.seq (.seq (.reg [⟨some 7, .mv (.t 0), none⟩,
    ⟨some 8, .mv (.t 1), none⟩,
    ⟨some 9, .call (.k (.fn 63 [] [])) [(.t 7), (.t 8)], none⟩,
    ⟨some 6, .mv (.t 9), none⟩])
  (.seq (.reg [⟨some 10, .mv (.t 6), none⟩,
    ⟨some 11, .bin .neq (.t 10) (.k (.int .i64 0)), none⟩])
  (.cond (.t 11) (.seq (.reg [⟨some 12, .load true 4 (.t 4), none⟩,
      ⟨some 13, .mv (.t 6), none⟩,
      ⟨none, .store 4 (.t 4) (.t 12), none⟩,
      ⟨some 5, .mv (.t 13), none⟩])
    (.ret))
    (.skip))))
  (.seq (.reg [⟨some 14, .mv (.t 0), none⟩,
    ⟨some 15, .nchk (.t 14), none⟩,
    ⟨some 16, .faddr 0 (.t 15), none⟩,
    ⟨some 17, .load false 1 (.t 16), none⟩,
    ⟨some 18, .mv (.t 1), none⟩,
    ⟨some 19, .iaddrS 7 (.t 17) (.t 18), none⟩,
    ⟨some 20, .faddr 0 (.t 19), none⟩,
    ⟨some 21, .load true 4 (.t 20), none⟩,
    ⟨none, .store 4 (.t 4) (.t 21), none⟩,
    ⟨some 5, .mv (.k (.int .i64 0)), none⟩])
  (.ret)))
theorem b46 : Body Try.prog 46 c46 [.cell 4 true 4, .tmp 5] 22 := ⟨by kernel_rfl, _, _, Try.func46, rfl, by kernel_rfl, by kernel_rfl, rfl⟩
def c48 : ACode :=
  .seq (.reg [⟨some 7, .box (.t 3), none⟩,
    ⟨some 8, .mv (.k (.int .i64 0)), none⟩])
  (.seq (.block 0 (.seq (.reg [⟨some 10, .mv (.t 0), none⟩,
     ⟨some 11, .call (.k (.fn 64 [] [])) [(.t 10)], none⟩,
     ⟨some 12, .un .not (.t 11), none⟩,
     ⟨some 9, .mv (.t 12), none⟩])
   (.cond (.t 9) (.seq (.reg [⟨some 8, .mv (.k (.int .i64 1)), none⟩])
     (.ret))
     (.seq (.reg [⟨some 14, .mv (.t 2), none⟩,
       ⟨some 15, .bin .lss (.t 14) (.k (.int .i64 1)), none⟩,
       ⟨some 16, .mv (.t 15), none⟩,
       ⟨some 17, .mv (.t 1), some (16, false)⟩,
       ⟨some 18, .bin .lss (.t 17) (.k (.int .i64 0)), some (16, false)⟩,
       ⟨some 19, .pick (.t 16) (.k (.bool true)) (.t 18), none⟩,
       ⟨some 20, .mv (.t 19), none⟩,
       ⟨some 21, .mv (.t 1), some (20, false)⟩,
       ⟨some 22, .bin .geq (.t 21) (.k (.int .i64 1024)), some (20, false)⟩,
       ⟨some 23, .pick (.t 20) (.k (.bool true)) (.t 22), none⟩,
       ⟨some 24, .mv (.t 23), none⟩,
       ⟨some 25, .mv (.t 2), some (24, false)⟩,
       ⟨some 26, .mv (.t 1), some (24, false)⟩,
       ⟨some 27, .bin .sub (.k (.int .i64 1024)) (.t 26), some (24, false)⟩,
       ⟨some 28, .bin .gtr (.t 25) (.t 27), some (24, false)⟩,
       ⟨some 29, .pick (.t 24) (.k (.bool true)) (.t 28), none⟩,
       ⟨some 13, .mv (.t 29), none⟩])
     (.cond (.t 13) (.seq (.reg [⟨some 8, .mv (.k (.int .i64 7)), none⟩])
       (.ret))
       (.seq (.reg [⟨some 31, .mv (.t 0), none⟩,
         ⟨some 32, .mv (.t 1), none⟩,
         ⟨some 33, .mv (.t 2), none⟩,
         ⟨some 34, .faddr 1 (.t 7), none⟩,
         ⟨some 35, .load false 1 (.t 34), none⟩,
         ⟨some 36, .call (.k (.fn 65 [] [])) [(.t 31), (.t 32), (.t 33), (.t 35)], none⟩,
         ⟨some 37, .un .not (.t 36), none⟩,
         ⟨some 30, .mv (.t 37), none⟩])
       (.cond (.t 30) (.seq (.reg [⟨some 8, .mv (.k (.int .i64 9)), none⟩])
         (.ret))
         (.seq (.reg [⟨some 39, .mv (.t 0), none⟩,
           ⟨some 40, .faddr 0 (.t 7), none⟩,
           ⟨some 41, .load false 1 (.t 40), none⟩,
           ⟨some 42, .call (.k (.fn 66 [] [])) [(.t 39), (.t 41)], none⟩,
           ⟨some 38, .mv (.t 42), none⟩])
         (.cond (.t 38) (.seq (.reg [⟨some 8, .mv (.k (.int .i64 60)), none⟩])
           (.ret))
           (.skip))))))))))
  (.seq (.reg [⟨some 43, .mv (.t 0), none⟩,
    ⟨some 44, .mv (.t 1), none⟩,
    ⟨some 45, .mv (.t 2), none⟩,
    ⟨some 46, .faddr 2 (.t 7), none⟩,
    ⟨some 47, .load false 1 (.t 46), none⟩,
    ⟨some 48, .call (.k (.fn 67 [] [])) [(.t 43), (.t 44), (.t 45), (.t 47)], none⟩])
  (.seq (.reg [⟨some 8, .mv (.k (.int .i64 0)), none⟩])
  (.ret))))
theorem b48 : Body Try.prog 48 c48 [.tmp 8] 49 := ⟨by kernel_rfl, _, _, Try.func48, rfl, by kernel_rfl, by kernel_rfl, rfl⟩
def c49 : ACode :=
  .seq (.reg [⟨some 4, .box (.t 1), none⟩,
    ⟨some 5, .box (.t 2), none⟩,
    ⟨some 6, .new [(.int .i64 0), .nilf, .nilf], none⟩])
  (.seq (.reg [⟨some 7, .mv (.t 0), none⟩,
    ⟨some 8, .mkfn 68 [] [(.t 4)], none⟩,
    ⟨some 9, .mkfn 69 [] [(.t 5)], none⟩,
    ⟨some 10, .build [(.int .i64 0), .nilf, .nilf] [(0, 1, (.t 7)), (1, 1, (.t 8)), (2, 1, (.t 9))], none⟩,
    ⟨none, .store 3 (.t 6) (.t 10), none⟩])
  (.ret))
theorem b49 : Body Try.prog 49 c49 [.cell 6 true 3] 11 := ⟨by kernel_rfl, _, _, Try.func49, rfl, by kernel_rfl, by kernel_rfl, rfl⟩
def c50 : ACode :=
  .seq (.reg [⟨some 4, .new [(.int .i64 0), (.int .i64 0), (.int .i64 0), (.bool false)], none⟩])
  (.seq (.reg [⟨some 8, .mv (.t 0), none⟩,
    ⟨some 9, .nchk (.t 8), none⟩,
    ⟨some 10, .faddr 0 (.t 9), none⟩,
    ⟨some 11, .load false 1 (.t 10), none⟩,
    ⟨some 12, .mv (.t 1), none⟩,
    ⟨some 13, .call (.k (.fn 70 [] [])) [(.t 11), (.t 12)], none⟩,
    ⟨some 7, .mv (.t 13), none⟩,
    ⟨some 14, .ext (.t 7) 0, none⟩,
    ⟨some 15, .ext (.t 7) 1, none⟩,
    ⟨some 5, .new [(.int .i64 0), (.int .i64 0), (.int .i64 0), (.bool false)], none⟩,
    ⟨none, .store 4 (.t 5) (.t 14), none⟩,
    ⟨some 6, .mv (.t 15), none⟩])
  (.seq (.regD [⟨some 16, .mv (.t 0), none⟩,
    ⟨some 17, .nchk (.t 16), none⟩,
    ⟨some 18, .faddr 1 (.t 17), none⟩,
    ⟨some 19, .load false 1 (.t 18), none⟩,
    ⟨some 20, .faddr 0 (.t 5), none⟩,
    ⟨some 21, .load false 1 (.t 20), none⟩,
    ⟨some 22, .faddr 1 (.t 5), none⟩,
    ⟨some 23, .load false 1 (.t 22), none⟩,
    ⟨some 24, .build [(.int .i64 0), (.int .i64 0)] [(0, 1, (.t 21)), (1, 1, (.t 23))], none⟩,
    ⟨none, .mdel true [0, 0] (.t 19) (.t 24), none⟩] [[], [0], [1], [2], [], [4], [], [6], [5, 7], [3, 8]])
  (.seq (.regD [⟨some 25, .mv (.t 0), none⟩,
    ⟨some 26, .faddr 2 (.t 5), none⟩,
    ⟨some 27, .load false 1 (.t 26), none⟩,
    ⟨some 28, .nchk (.t 25), none⟩,
    ⟨some 29, .faddr 2 (.t 28), none⟩,
    ⟨some 30, .iaddrA 1024 1 (.t 29) (.t 27), none⟩,
    ⟨some 31, .load false 1 (.t 30), none⟩,
    ⟨some 32, .bin .sub (.t 31) (.k (.int .i64 1)), none⟩,
    ⟨some 33, .nchk (.t 25), none⟩,
    ⟨some 34, .faddr 2 (.t 33), none⟩,
    ⟨some 35, .iaddrA 1024 1 (.t 34) (.t 27), none⟩,
    ⟨none, .store 1 (.t 35) (.t 32), none⟩] [[], [], [1], [0], [3], [4, 2], [5], [6], [0], [8], [9, 2, 0, 1, 2, 3, 4, 5, 6, 7], [10, 7, 0, 1, 2, 3, 4, 5, 6, 7]])
  (.seq (.reg [⟨some 36, .load true 4 (.t 5), none⟩,
    ⟨none, .store 4 (.t 4) (.t 36), none⟩])
  (.ret)))))
theorem b50 : Body Try.prog 50 c50 [.cell 4 true 4] 37 := ⟨by kernel_rfl, _, _, Try.func50, rfl, by kernel_rfl, by kernel_rfl, rfl⟩
def c51 : ACode :=
  .seq (.reg [⟨some 3, .box (.t 0), none⟩])
  (.seq (.seq (.reg [⟨some 6, .load false 1 (.t 1), none⟩,
    ⟨some 7, .call (.k (.fn 37 [] [])) [(.t 6)], none⟩,
    ⟨some 8, .un .not (.t 7), none⟩])
  (.cond (.t 8) (.ret)
    (.skip)))
  (.seq (.regD [⟨some 9, .load false 1 (.t 1), none⟩,
    ⟨some 10, .nchk (.t 9), none⟩,
    ⟨some 11, .faddr 0 (.t 10), none⟩,
    ⟨some 12, .load false 1 (.t 11), none⟩,
    ⟨some 13, .load false 1 (.t 2), none⟩,
    ⟨some 14, .call (.k (.fn 52 [] [])) [(.t 12), (.t 13), (.k (.bool false))], none⟩] [[], [0], [1], [2], [], [3, 4]])
  (.block 0 (.rangeF (.t 14) [15, 16] (.reg [⟨some 5, .new [(.int .i64 0), (.int .i64 0), (.int .i64 0), (.bool false)], none⟩,
       ⟨none, .store 4 (.t 5) (.t 16), none⟩])
     (.block 1 (.seq (.reg [⟨some 17, .load false 1 (.t 3), none⟩,
        ⟨some 18, .load true 4 (.t 5), none⟩,
        ⟨some 19, .call (.t 17) [(.t 18)], none⟩,
        ⟨some 20, .un .not (.t 19), none⟩])
      (.cond (.t 20) (.ret)
        (.skip))))))))
theorem b51 : Body Try.prog 51 c51 [] 21 := ⟨by kernel_rfl, _, _, Try.func51, rfl, by kernel_rfl, by kernel_rfl, rfl⟩
def c52 : ACode :=
  .seq (.reg [⟨some 3, .box (.t 0), none⟩,
    ⟨some 4, .box (.t 1), none⟩,
    ⟨some 5, .box (.t 2), none⟩,
    ⟨some 6, .mv (.k .nilf), none⟩])
  (.seq (.reg [⟨some 7, .mkfn 71 [] [(.t 3), (.t 4), (.t 5)], none⟩,
    ⟨some 6, .mv (.t 7), none⟩])
  (.ret))
theorem b52 : Body Try.prog 52 c52 [.tmp 6] 8 := ⟨by kernel_rfl, _, _, Try.func52, rfl, by kernel_rfl, by kernel_rfl, rfl⟩
def c53 : ACode :=
  .seq (.reg [⟨some 1, .box (.t 0), none⟩,
    ⟨some 2, .mv (.k .nilp), none⟩,
    ⟨some 3, .mv (.k (.int .i64 0)), none⟩])
  (.seq (.reg [⟨some 7, .load true 1 (.t 1), none⟩,
    ⟨some 8, .call (.k (.fn 73 [] [])) [(.t 7)], none⟩,
    ⟨some 6, .mv (.t 8), none⟩,
    ⟨some 9, .ext (.t 6) 0, none⟩,
    ⟨some 10, .ext (.t 6) 1, none⟩,
    ⟨some 4, .new [.nils, (.int .i64 0), (.int .i64 0), (.int .i64 0), (.int .i64 0), (.int .i64 0), (.int .i64 0), (.int .i64 0), (.int .i64 0), (.int .i64 0), (.int .i64 0), (.int .i64 0), (.int .i64 0), (.int .i64 0), (.int .i64 0)], none⟩,
    ⟨none, .store 15 (.t 4) (.t 9), none⟩,
    ⟨some 5, .mv (.t 10), none⟩])
  (.seq (.seq (.reg [⟨some 11, .mv (.t 5), none⟩,
    ⟨some 12, .bin .neq (.t 11) (.k (.int .i64 0)), none⟩])
  (.cond (.t 12) (.seq (.reg [⟨some 13, .mv (.t 5), none⟩,
      ⟨some 2, .mv (.k .nilp), none⟩,
      ⟨some 3, .mv (.t 13), none⟩])
    (.ret))
    (.skip)))
  (.seq (.reg [⟨some 14, .load true 15 (.t 4), none⟩,
    ⟨some 15, .build Go.Pol.sysZ [(0, 1, (.k (.bool true))), (67585, 15, (.t 14))], none⟩,
    ⟨some 16, .box (.t 15), none⟩,
    ⟨some 2, .mv (.t 16), none⟩,
    ⟨some 3, .mv (.k (.int .i64 0)), none⟩])
  (.ret))))
theorem b53 : Body Try.prog 53 c53 [.tmp 2, .tmp 3] 17 := ⟨by kernel_rfl, _, _, Try.func53, rfl, ccodeZ_ok Zs_ok (by kernel_rfl), by kernel_rfl, rfl⟩
def c54 : ACode :=
  .seq (.reg [⟨some 4, .mv (.k .nilp), none⟩,
    ⟨some 5, .mv (.k (.int .i64 0)), none⟩])
  (.seq (.seq (.reg [⟨some 6, .mv (.t 0), none⟩,
    ⟨some 7, .bin .lss (.t 6) (.k (.int .i64 1)), none⟩,
    ⟨some 8, .mv (.t 7), none⟩,
    ⟨some 9, .mv (.t 0), some (8, false)⟩,
    ⟨some 10, .bin .gtr (.t 9) (.k (.int .i64 2000)), some (8, false)⟩,
    ⟨some 11, .pick (.t 8) (.k (.bool true)) (.t 10), none⟩,
    ⟨some 12, .mv (.t 11), none⟩,
    ⟨some 13, .mv (.t 1), some (12, false)⟩,
    ⟨some 14, .bin .lss (.t 13) (.k (.int .i64 1)), some (12, false)⟩,
    ⟨some 15, .pick (.t 12) (.k (.bool true)) (.t 14), none⟩,
    ⟨some 16, .mv (.t 15), none⟩,
    ⟨some 17, .mv (.t 1), some (16, false)⟩,
    ⟨some 18, .bin .gtr (.t 17) (.k (.int .i64 64)), some (16, false)⟩,
    ⟨some 19, .pick (.t 16) (.k (.bool true)) (.t 18), none⟩])
  (.cond (.t 19) (.seq (.reg [⟨some 4, .mv (.k .nilp), none⟩,
      ⟨some 5, .mv (.k (.int .i64 7)), none⟩])
    (.ret))
    (.skip)))
  (.seq (.reg [⟨some 20, .mv (.t 0), none⟩,
    ⟨some 21, .mv (.t 1), none⟩,
    ⟨some 22, .call (.k (.fn 74 [] [])) [(.t 20), (.t 21)], none⟩,
    ⟨some 4, .mv (.t 22), none⟩,
    ⟨some 5, .mv (.k (.int .i64 0)), none⟩])
  (.ret)))
theorem b54 : Body Try.prog 54 c54 [.tmp 4, .tmp 5] 23 := ⟨by kernel_rfl, _, _, Try.func54, rfl, by kernel_rfl, by kernel_rfl, rfl⟩
def c55 : ACode :=
  .seq (.reg [⟨some 2, .mv (.k (.int .i64 0)), none⟩])
  (.seq (.seq (.reg [⟨some 5, .mv (.t 0), none⟩,
    ⟨some 6, .len (.t 5), none⟩,
    ⟨some 7, .mv (.k (.int .i64 0)), none⟩])
  (.block 0 (.loop (.seq (.reg [⟨some 8, .bin .lss (.t 7) (.t 6), none⟩])
    (.seq (.cond (.t 8) (.skip)
      (.exit 0))
    (.seq (.block 1 (.seq (.reg [⟨some 9, .iaddrS 1 (.t 5) (.t 7), none⟩,
       ⟨some 10, .load false 1 (.t 9), none⟩,
       ⟨some 4, .mv (.t 10), none⟩])
     (.seq (.reg [⟨some 11, .mv (.t 4), none⟩,
       ⟨some 12, .bin .lss (.t 11) (.k (.int .i64 0)), none⟩,
       ⟨some 13, .mv (.t 12), none⟩,
       ⟨some 14, .mv (.t 4), some (13, false)⟩,
       ⟨some 15, .bin .geq (.t 14) (.k (.int .i64 64)), some (13, false)⟩,
       ⟨some 16, .pick (.t 13) (.k (.bool true)) (.t 15), none⟩])
     (.cond (.t 16) (.seq (.reg [⟨some 2, .mv (.k (.int .i64 7)), none⟩])
       (.ret))
       (.skip)))))
    (.reg [⟨some 17, .bin .add (.t 7) (.k (.int .i64 1)), none⟩,
      ⟨some 7, .mv (.t 17), none⟩])))))))
  (.seq (.reg [⟨some 2, .mv (.k (.int .i64 0)), none⟩])
  (.ret)))
theorem b55 : Body Try.prog 55 c55 [.tmp 2] 18 := ⟨by kernel_rfl, _, _, Try.func55, rfl, by kernel_rfl, by kernel_rfl, rfl⟩
def c57 : ACode :=
  .seq (.reg [⟨some 4, .mv (.k (.int .u8 0)), none⟩,
    ⟨some 5, .mv (.k (.int .i64 0)), none⟩])
  (.seq (.reg [⟨some 9, .mv (.t 0), none⟩,
    ⟨some 10, .mv (.t 1), none⟩,
    ⟨some 11, .call (.k (.fn 58 [] [])) [(.t 9), (.t 10)], none⟩,
    ⟨some 8, .mv (.t 11), none⟩,
    ⟨some 12, .ext (.t 8) 0, none⟩,
    ⟨some 13, .ext (.t 8) 1, none⟩,
    ⟨some 6, .mv (.t 12), none⟩,
    ⟨some 7, .mv (.t 13), none⟩])
  (.seq (.seq (.reg [⟨some 14, .mv (.t 7), none⟩,
    ⟨some 15, .bin .neq (.t 14) (.k (.int .i64 0)), none⟩])
  (.cond (.t 15) (.seq (.reg [⟨some 16, .mv (.t 7), none⟩,
      ⟨some 4, .mv (.k (.int .u8 0)), none⟩,
      ⟨some 5, .mv (.t 16), none⟩])
    (.ret))
    (.skip)))
  (.seq (.reg [⟨some 17, .mv (.t 6), none⟩,
    ⟨some 18, .nchk (.t 17), none⟩,
    ⟨some 19, .load false 1 (.t 18), none⟩,
    ⟨some 4, .mv (.t 19), none⟩,
    ⟨some 5, .mv (.k (.int .i64 0)), none⟩])
  (.ret))))
theorem b57 : Body Try.prog 57 c57 [.tmp 4, .tmp 5] 20 := ⟨by kernel_rfl, _, _, Try.func57, rfl, by kernel_rfl, by kernel_rfl, rfl⟩
def c58 : ACode :=
  .seq (.reg [⟨some 4, .mv (.k .nilp), none⟩,
    ⟨some 5, .mv (.k (.int .i64 0)), none⟩])
  (.seq (.seq (.reg [⟨some 7, .mv (.t 0), none⟩,
    ⟨some 8, .call (.k (.fn 64 [] [])) [(.t 7)], none⟩,
    ⟨some 9, .un .not (.t 8), none⟩])
  (.cond (.t 9) (.seq (.reg [⟨some 4, .mv (.k .nilp), none⟩,
      ⟨some 5, .mv (.k (.int .i64 1)), none⟩])
    (.ret))
    (.skip)))
  (.seq (.seq (.reg [⟨some 10, .mv (.t 1), none⟩,
    ⟨some 11, .bin .lss (.t 10) (.k (.int .i64 0)), none⟩,
    ⟨some 12, .mv (.t 11), none⟩,
    ⟨some 13, .mv (.t 1), some (12, false)⟩,
    ⟨some 14, .bin .geq (.t 13) (.k (.int .i64 65536)), some (12, false)⟩,
    ⟨some 15, .pick (.t 12) (.k (.bool true)) (.t 14), none⟩])
  (.cond (.t 15) (.seq (.reg [⟨some 4, .mv (.k .nilp), none⟩,
      ⟨some 5, .mv (.k (.int .i64 7)), none⟩])
    (.ret))
    (.skip)))
  (.seq (.reg [⟨some 16, .mv (.t 0), none⟩,
    ⟨some 17, .mv (.t 1), none⟩,
    ⟨some 18, .bin .quo (.t 17) (.k (.int .i64 64)), none⟩,
    ⟨some 19, .nchk (.t 16), none⟩,
    ⟨some 20, .faddr 1 (.t 19), none⟩,
    ⟨some 21, .iaddrA 1024 66 (.t 20) (.t 18), none⟩,
    ⟨some 6, .mv (.t 21), none⟩])
  (.seq (.seq (.reg [⟨some 22, .mv (.t 6), none⟩,
    ⟨some 23, .nchk (.t 22), none⟩,
    ⟨some 24, .faddr 0 (.t 23), none⟩,
    ⟨some 25, .load false 1 (.t 24), none⟩,
    ⟨some 26, .bin .neq (.t 25) (.k (.int .i64 2)), none⟩])
  (.cond (.t 26) (.seq (.reg [⟨some 4, .mv (.k .nilp), none⟩,
      ⟨some 5, .mv (.k (.int .i64 61)), none⟩])
    (.ret))
    (.skip)))
  (.seq (.reg [⟨some 27, .mv (.t 6), none⟩,
    ⟨some 28, .mv (.t 1), none⟩,
    ⟨some 29, .bin .rem (.t 28) (.k (.int .i64 64)), none⟩,
    ⟨some 30, .nchk (.t 27), none⟩,
    ⟨some 31, .faddr 2 (.t 30), none⟩,
    ⟨some 32, .iaddrA 64 1 (.t 31) (.t 29), none⟩,
    ⟨some 4, .mv (.t 32), none⟩,
    ⟨some 5, .mv (.k (.int .i64 0)), none⟩])
  (.ret))))))
theorem b58 : Body Try.prog 58 c58 [.tmp 4, .tmp 5] 33 := ⟨by kernel_rfl, _, _, Try.func58, rfl, by kernel_rfl, by kernel_rfl, rfl⟩
def c59 : ACode :=
  .seq (.reg [⟨some 6, .mv (.k (.int .i64 0)), none⟩,
    ⟨some 7, .mv (.k (.int .i64 0)), none⟩])
  (.seq (.seq (.reg [⟨some 9, .mv (.t 0), none⟩,
    ⟨some 10, .mv (.t 1), none⟩,
    ⟨some 11, .call (.k (.fn 75 [] [])) [(.t 9), (.t 10)], none⟩,
    ⟨some 8, .mv (.t 11), none⟩])
  (.seq (.reg [⟨some 12, .mv (.t 8), none⟩,
    ⟨some 13, .bin .neq (.t 12) (.k (.int .i64 0)), none⟩])
  (.cond (.t 13) (.seq (.reg [⟨some 14, .mv (.t 8), none⟩,
      ⟨some 6, .mv (.k (.int .i64 0)), none⟩,
      ⟨some 7, .mv (.t 14), none⟩])
    (.ret))
    (.skip))))
  (.seq (.reg [⟨some 15, .mv (.t 0), none⟩,
    ⟨some 16, .nchk (.t 15), none⟩,
    ⟨some 17, .faddr 1 (.t 16), none⟩,
    ⟨some 18, .load false 1 (.t 17), none⟩,
    ⟨some 19, .mv (.t 1), none⟩,
    ⟨some 20, .iaddrS 3 (.t 18) (.t 19), none⟩,
    ⟨some 21, .faddr 1 (.t 20), none⟩,
    ⟨some 22, .load false 1 (.t 21), none⟩,
    ⟨some 6, .mv (.t 22), none⟩])
  (.seq (.seq (.reg [⟨some 23, .mv (.t 2), none⟩])
  (.cond (.t 23) (.reg [⟨some 24, .mv (.t 0), none⟩,
      ⟨some 25, .nchk (.t 24), none⟩,
      ⟨some 26, .faddr 1 (.t 25), none⟩,
      ⟨some 27, .load false 1 (.t 26), none⟩,
      ⟨some 28, .mv (.t 1), none⟩,
      ⟨some 29, .iaddrS 3 (.t 27) (.t 28), none⟩,
      ⟨some 30, .faddr 0 (.t 29), none⟩,
      ⟨some 31, .load false 1 (.t 30), none⟩,
      ⟨some 6, .mv (.t 31), none⟩])
    (.skip)))
  (.seq (.seq (.reg [⟨some 32, .mv (.t 6), none⟩,
    ⟨some 33, .bin .eql (.t 32) (.k (.int .i64 (-1))), none⟩])
  (.cond (.t 33) (.seq (.reg [⟨some 6, .mv (.k (.int .i64 0)), none⟩,
      ⟨some 7, .mv (.k (.int .i64 4)), none⟩])
    (.ret))
    (.skip)))
  (.seq (.reg [⟨some 34, .mv (.t 6), none⟩,
    ⟨some 6, .mv (.t 34), none⟩,
    ⟨some 7, .mv (.k (.int .i64 0)), none⟩])
  (.ret))))))
theorem b59 : Body Try.prog 59 c59 [.tmp 6, .tmp 7] 35 := ⟨by kernel_rfl, _, _, Try.func59, rfl, by kernel_rfl, by kernel_rfl, rfl⟩
def c60 : ACode :=
  .seq (.reg [⟨some 6, .mv (.k (.int .i64 0)), none⟩,
    ⟨some 7, .mv (.k (.int .i64 0)), none⟩])
  (.seq (.seq (.reg [⟨some 9, .mv (.t 0), none⟩,
    ⟨some 10, .mv (.t 1), none⟩,
    ⟨some 11, .call (.k (.fn 63 [] [])) [(.t 9), (.t 10)], none⟩,
    ⟨some 8, .mv (.t 11), none⟩])
  (.seq (.reg [⟨some 12, .mv (.t 8), none⟩,
    ⟨some 13, .bin .neq (.t 12) (.k (.int .i64 0)), none⟩])
  (.cond (.t 13) (.seq (.reg [⟨some 14, .mv (.t 8), none⟩,
      ⟨some 6, .mv (.k (.int .i64 0)), none⟩,
      ⟨some 7, .mv (.t 14), none⟩])
    (.ret))
    (.skip))))
  (.seq (.reg [⟨some 15, .mv (.t 0), none⟩,
    ⟨some 16, .mv (.t 1), none⟩,
    ⟨some 17, .mv (.t 2), none⟩,
    ⟨some 18, .call (.k (.fn 72 [] [])) [(.t 15), (.t 16), (.t 17)], none⟩,
    ⟨some 6, .mv (.t 18), none⟩])
  (.seq (.seq (.reg [⟨some 19, .mv (.t 6), none⟩,
    ⟨some 20, .bin .eql (.t 19) (.k (.int .i64 (-1))), none⟩])
  (.cond (.t 20) (.seq (.reg [⟨some 6, .mv (.k (.int .i64 0)), none⟩,
      ⟨some 7, .mv (.k (.int .i64 9)), none⟩])
    (.ret))
    (.skip)))
  (.seq (.reg [⟨some 21, .mv (.t 6), none⟩,
    ⟨some 6, .mv (.t 21), none⟩,
    ⟨some 7, .mv (.k (.int .i64 0)), none⟩])
  (.ret)))))
theorem b60 : Body Try.prog 60 c60 [.tmp 6, .tmp 7] 22 := ⟨by kernel_rfl, _, _, Try.func60, rfl, by kernel_rfl, by kernel_rfl, rfl⟩
def c61 : ACode :=
  .seq (.reg [⟨some 5, .box (.t 2), none⟩,
    ⟨some 6, .mv (.k (.int .i64 0)), none⟩,
    ⟨some 7, .mv (.k (.int .i64 0)), none⟩])
  (.seq (.seq (.reg [⟨some 10, .mv (.t 0), none⟩,
    ⟨some 11, .mv (.t 1), none⟩,
    ⟨some 12, .call (.k (.fn 63 [] [])) [(.t 10), (.t 11)], none⟩,
    ⟨some 8, .mv (.t 12), none⟩])
  (.seq (.reg [⟨some 13, .mv (.t 8), none⟩,
    ⟨some 14, .bin .neq (.t 13) (.k (.int .i64 0)), none⟩])
  (.cond (.t 14) (.seq (.reg [⟨some 15, .mv (.t 8), none⟩,
      ⟨some 6, .mv (.k (.int .i64 0)), none⟩,
      ⟨some 7, .mv (.t 15), none⟩])
    (.ret))
    (.skip))))
  (.seq (.reg [⟨some 16, .mv (.t 0), none⟩,
    ⟨some 17, .call (.k (.fn 76 [] [])) [(.t 16)], none⟩,
    ⟨some 6, .mv (.t 17), none⟩])
  (.seq (.seq (.reg [⟨some 18, .mv (.t 6), none⟩,
    ⟨some 19, .bin .eql (.t 18) (.k (.int .i64 (-1))), none⟩])
  (.cond (.t 19) (.seq (.reg [⟨some 6, .mv (.k (.int .i64 0)), none⟩,
      ⟨some 7, .mv (.k (.int .i64 5)), none⟩])
    (.ret))
    (.skip)))
  (.seq (.regD [⟨some 20, .mv (.t 0), none⟩,
    ⟨some 21, .nchk (.t 20), none⟩,
    ⟨some 22, .faddr 0 (.t 21), none⟩,
    ⟨some 23, .load false 1 (.t 22), none⟩,
    ⟨some 24, .mv (.t 6), none⟩,
    ⟨some 25, .load true 4 (.t 5), none⟩,
    ⟨some 26, .iaddrS 7 (.t 23) (.t 24), none⟩,
    ⟨some 27, .faddr 0 (.t 26), none⟩,
    ⟨none, .store 4 (.t 27) (.t 25), none⟩] [[], [0], [1], [2], [], [], [3, 4, 0, 1, 2, 3, 4, 5], [6, 0, 1, 2, 3, 4, 5], [7, 5, 0, 1, 2, 3, 4, 5]])
  (.seq (.reg [⟨some 28, .mv (.t 0), none⟩,
    ⟨some 29, .nchk (.t 28), none⟩,
    ⟨some 30, .faddr 0 (.t 29), none⟩,
    ⟨some 31, .load false 1 (.t 30), none⟩,
    ⟨some 32, .mv (.t 1), none⟩,
    ⟨some 33, .iaddrS 7 (.t 31) (.t 32), none⟩,
    ⟨some 9, .mv (.t 33), none⟩])
  (.seq (.regD [⟨some 34, .mv (.t 0), none⟩,
    ⟨some 35, .mv (.t 6), none⟩,
    ⟨some 36, .mv (.t 9), none⟩,
    ⟨some 37, .nchk (.t 36), none⟩,
    ⟨some 38, .faddr 4 (.t 37), none⟩,
    ⟨some 39, .load false 1 (.t 38), none⟩,
    ⟨some 40, .mv (.t 1), none⟩,
    ⟨some 41, .mv (.t 9), none⟩,
    ⟨some 42, .nchk (.t 41), none⟩,
    ⟨some 43, .faddr 5 (.t 42), none⟩,
    ⟨some 44, .load false 1 (.t 43), none⟩,
    ⟨some 45, .call (.k (.fn 77 [] [])) [(.t 34), (.t 35), (.t 39), (.t 40), (.t 44)], none⟩] [[], [], [], [2], [3], [4], [], [], [7], [8], [9], [0, 1, 5, 6, 10]])
  (.seq (.reg [⟨some 46, .mv (.t 6), none⟩,
    ⟨some 6, .mv (.t 46), none⟩,
    ⟨some 7, .mv (.k (.int .i64 0)), none⟩])
  (.ret))))))))
theorem b61 : Body Try.prog 61 c61 [.tmp 6, .tmp 7] 47 := ⟨by kernel_rfl, _, _, Try.func61, rfl, by kernel_rfl, by kernel_rfl, rfl⟩
def c62 : ACode :=
  .seq (.reg [⟨some 6, .box (.t 2), none⟩,
    ⟨some 8, .mv (.k (.int .i64 0)), none⟩,
    ⟨some 9, .mv (.k (.int .i64 0)), none⟩])
  (.seq (.seq (.reg [⟨some 11, .mv (.t 0), none⟩,
    ⟨some 12, .mv (.t 1), none⟩,
    ⟨some 13, .call (.k (.fn 75 [] [])) [(.t 11), (.t 12)], none⟩,
    ⟨some 10, .mv (.t 13), none⟩])
  (.seq (.reg [⟨some 14, .mv (.t 10), none⟩,
    ⟨some 15, .bin .neq (.t 14) (.k (.int .i64 0)), none⟩])
  (.cond (.t 15) (.seq (.reg [⟨some 16, .mv (.t 10), none⟩,
      ⟨some 8, .mv (.k (.int .i64 0)), none⟩,
      ⟨some 9, .mv (.t 16), none⟩])
    (.ret))
    (.skip))))
  (.seq (.reg [⟨some 17, .mv (.t 0), none⟩,
    ⟨some 18, .call (.k (.fn 76 [] [])) [(.t 17)], none⟩,
    ⟨some 8, .mv (.t 18), none⟩])
  (.seq (.seq (.reg [⟨some 19, .mv (.t 8), none⟩,
    ⟨some 20, .bin .eql (.t 19) (.k (.int .i64 (-1))), none⟩])
  (.cond (.t 20) (.seq (.reg [⟨some 8, .mv (.k (.int .i64 0)), none⟩,
      ⟨some 9, .mv (.k (.int .i64 5)), none⟩])
    (.ret))
    (.skip)))
  (.seq (.regD [⟨some 21, .mv (.t 0), none⟩,
    ⟨some 22, .nchk (.t 21), none⟩,
    ⟨some 23, .faddr 0 (.t 22), none⟩,
    ⟨some 24, .load false 1 (.t 23), none⟩,
    ⟨some 25, .mv (.t 8), none⟩,
    ⟨some 26, .load true 4 (.t 6), none⟩,
    ⟨some 27, .iaddrS 7 (.t 24) (.t 25), none⟩,
    ⟨some 28, .faddr 0 (.t 27), none⟩,
    ⟨none, .store 4 (.t 28) (.t 26), none⟩] [[], [0], [1], [2], [], [], [3, 4, 0, 1, 2, 3, 4, 5], [6, 0, 1, 2, 3, 4, 5], [7, 5, 0, 1, 2, 3, 4, 5]])
  (.seq (.reg [⟨some 29, .mv (.t 0), none⟩,
    ⟨some 30, .mv (.t 8), none⟩,
    ⟨some 31, .mv (.t 1), none⟩,
    ⟨some 32, .mv (.t 3), none⟩,
    ⟨some 33, .call (.k (.fn 78 [] [])) [(.t 29), (.t 30), (.t 31), (.t 32)], none⟩])
  (.seq (.reg [⟨some 34, .mv (.t 8), none⟩,
    ⟨some 8, .mv (.t 34), none⟩,
    ⟨some 9, .mv (.k (.int .i64 0)), none⟩])
  (.ret)))))))
theorem b62 : Body Try.prog 62 c62 [.tmp 8, .tmp 9] 35 := ⟨by kernel_rfl, _, _, Try.func62, rfl, by kernel_rfl, by kernel_rfl, rfl⟩
def c63 : ACode :=
  .seq (.reg [⟨some 4, .mv (.k (.int .i64 0)), none⟩])
  (.seq (.block 0 (.seq (.reg [⟨some 6, .mv (.t 0), none⟩,
     ⟨some 7, .call (.k (.fn 79 [] [])) [(.t 6)], none⟩,
     ⟨some 8, .un .not (.t 7), none⟩,
     ⟨some 5, .mv (.t 8), none⟩])
   (.cond (.t 5) (.seq (.reg [⟨some 4, .mv (.k (.int .i64 1)), none⟩])
     (.ret))
     (.seq (.reg [⟨some 10, .mv (.t 1), none⟩,
       ⟨some 11, .bin .lss (.t 10) (.k (.int .i64 0)), none⟩,
       ⟨some 12, .mv (.t 11), none⟩,
       ⟨some 13, .mv (.t 1), some (12, false)⟩,
       ⟨some 14, .mv (.t 0), some (12, false)⟩,
       ⟨some 15, .nchk (.t 14), some (12, false)⟩,
       ⟨some 16, .faddr 0 (.t 15), some (12, false)⟩,
       ⟨some 17, .load false 1 (.t 16), some (12, false)⟩,
       ⟨some 18, .len (.t 17), some (12, false)⟩,
       ⟨some 19, .bin .geq (.t 13) (.t 18), some (12, false)⟩,
       ⟨some 20, .pick (.t 12) (.k (.bool true)) (.t 19), none⟩,
       ⟨some 21, .mv (.t 20), none⟩,
       ⟨some 22, .mv (.t 0), some (21, false)⟩,
       ⟨some 23, .nchk (.t 22), some (21, false)⟩,
       ⟨some 24, .faddr 0 (.t 23), some (21, false)⟩,
       ⟨some 25, .load false 1 (.t 24), some (21, false)⟩,
       ⟨some 26, .mv (.t 1), some (21, false)⟩,
       ⟨some 27, .iaddrS 7 (.t 25) (.t 26), some (21, false)⟩,
       ⟨some 28, .faddr 4 (.t 27), some (21, false)⟩,
       ⟨some 29, .load false 1 (.t 28), some (21, false)⟩,
       ⟨some 30, .bin .eql (.t 29) (.k (.int .i64 (-1))), some (21, false)⟩,
       ⟨some 31, .pick (.t 21) (.k (.bool true)) (.t 30), none⟩,
       ⟨some 9, .mv (.t 31), none⟩])
     (.cond (.t 9) (.seq (.reg [⟨some 4, .mv (.k (.int .i64 4)), none⟩])
       (.ret))
       (.skip))))))
  (.seq (.reg [⟨some 4, .mv (.k (.int .i64 0)), none⟩])
  (.ret)))
theorem b63 : Body Try.prog 63 c63 [.tmp 4] 32 := ⟨by kernel_rfl, _, _, Try.func63, rfl, by kernel_rfl, by kernel_rfl, rfl⟩
def c64 : ACode :=
  .seq (.reg [⟨some 2, .mv (.k (.bool false)), none⟩])
  (.seq (.reg [⟨some 3, .mv (.t 0), none⟩,
    ⟨some 4, .eqp true false (.t 3) (.k .nilp), none⟩,
    ⟨some 5, .mv (.t 4), none⟩,
    ⟨some 6, .mv (.t 0), some (5, true)⟩,
    ⟨some 7, .nchk (.t 6), some (5, true)⟩,
    ⟨some 8, .faddr 0 (.t 7), some (5, true)⟩,
    ⟨some 9, .load false 1 (.t 8), some (5, true)⟩,
    ⟨some 10, .pick (.t 5) (.t 9) (.k (.bool false)), none⟩,
    ⟨some 2, .mv (.t 10), none⟩])
  (.ret))
theorem b64 : Body Try.prog 64 c64 [.tmp 2] 11 := ⟨by kernel_rfl, _, _, Try.func64, rfl, by kernel_rfl, by kernel_rfl, rfl⟩
def c65 : ACode :=
  .seq (.reg [⟨some 8, .mv (.k (.bool false)), none⟩])
  (.seq (.seq (.reg [⟨some 10, .mv (.t 2), none⟩,
    ⟨some 11, .mv (.k (.int .i64 0)), none⟩])
  (.block 0 (.loop (.seq (.reg [⟨some 12, .bin .lss (.t 11) (.t 10), none⟩])
    (.seq (.cond (.t 12) (.skip)
      (.exit 0))
    (.seq (.block 1 (.seq (.reg [⟨some 13, .mv (.t 11), none⟩,
       ⟨some 9, .mv (.t 13), none⟩])
     (.seq (.reg [⟨some 14, .mv (.t 3), none⟩,
       ⟨some 15, .mv (.t 0), none⟩,
       ⟨some 16, .mv (.t 1), none⟩,
       ⟨some 17, .mv (.t 9), none⟩,
       ⟨some 18, .bin .add (.t 16) (.t 17), none⟩,
       ⟨some 19, .nchk (.t 15), none⟩,
       ⟨some 20, .faddr 1 (.t 19), none⟩,
       ⟨some 21, .iaddrA 1024 66 (.t 20) (.t 18), none⟩,
       ⟨some 22, .call (.t 14) [(.t 21)], none⟩,
       ⟨some 23, .un .not (.t 22), none⟩])
     (.cond (.t 23) (.seq (.reg [⟨some 8, .mv (.k (.bool false)), none⟩])
       (.ret))
       (.skip)))))
    (.reg [⟨some 24, .bin .add (.t 11) (.k (.int .i64 1)), none⟩,
      ⟨some 11, .mv (.t 24), none⟩])))))))
  (.seq (.reg [⟨some 8, .mv (.k (.bool true)), none⟩])
  (.ret)))
theorem b65 : Body Try.prog 65 c65 [.tmp 8] 25 := ⟨by kernel_rfl, _, _, Try.func65, rfl, by kernel_rfl, by kernel_rfl, rfl⟩
def c66 : ACode :=
  .seq (.reg [⟨some 4, .mv (.k (.bool false)), none⟩])
  (.seq (.reg [⟨some 9, .mv (.t 0), none⟩,
    ⟨some 10, .nchk (.t 9), none⟩,
    ⟨some 11, .faddr 67585 (.t 10), none⟩,
    ⟨some 12, .load true 15 (.t 11), none⟩,
    ⟨some 13, .mv (.t 1), none⟩,
    ⟨some 14, .call (.k (.fn 80 [] [])) [(.t 12), (.t 13)], none⟩,
    ⟨some 8, .mv (.t 14), none⟩,
    ⟨some 15, .ext (.t 8) 0, none⟩,
    ⟨some 16, .ext (.t 8) 1, none⟩,
    ⟨some 17, .ext (.t 8) 2, none⟩,
    ⟨some 5, .new [.nils, (.int .i64 0), (.int .i64 0), (.int .i64 0), (.int .i64 0), (.int .i64 0), (.int .i64 0), (.int .i64 0), (.int .i64 0), (.int .i64 0), (.int .i64 0), (.int .i64 0), (.int .i64 0), (.int .i64 0), (.int .i64 0)], none⟩,
    ⟨none, .store 15 (.t 5) (.t 15), none⟩,
    ⟨some 6, .mv (.t 16), none⟩,
    ⟨some 7, .mv (.t 17), none⟩])
  (.seq (.seq (.reg [⟨some 18, .mv (.t 7), none⟩,
    ⟨some 19, .bin .eql (.t 18) (.k (.int .i64 0)), none⟩])
  (.cond (.t 19) (.reg [⟨some 20, .mv (.t 0), none⟩,
      ⟨some 21, .load true 15 (.t 5), none⟩,
      ⟨some 22, .nchk (.t 20), none⟩,
      ⟨some 23, .faddr 67585 (.t 22), none⟩,
      ⟨none, .store 15 (.t 23) (.t 21), none⟩])
    (.skip)))
  (.seq (.reg [⟨some 24, .mv (.t 6), none⟩,
    ⟨some 25, .mv (.t 24), none⟩,
    ⟨some 26, .mv (.t 7), some (25, true)⟩,
    ⟨some 27, .bin .eql (.t 26) (.k (.int .i64 0)), some (25, true)⟩,
    ⟨some 28, .pick (.t 25) (.t 27) (.k (.bool false)), none⟩,
    ⟨some 4, .mv (.t 28), none⟩])
  (.ret))))
theorem b66 : Body Try.prog 66 c66 [.tmp 4] 29 := ⟨by kernel_rfl, _, _, Try.func66, rfl, by kernel_rfl, by kernel_rfl, rfl⟩
def c67 : ACode :=
  .seq (.reg [⟨some 9, .mv (.t 2), none⟩,
    ⟨some 10, .mv (.k (.int .i64 0)), none⟩])
  (.block 0 (.loop (.seq (.reg [⟨some 11, .bin .lss (.t 10) (.t 9), none⟩])
    (.seq (.cond (.t 11) (.skip)
      (.exit 0))
    (.seq (.block 1 (.seq (.reg [⟨some 12, .mv (.t 10), none⟩,
       ⟨some 8, .mv (.t 12), none⟩])
     (.reg [⟨some 13, .mv (.t 3), none⟩,
       ⟨some 14, .mv (.t 0), none⟩,
       ⟨some 15, .mv (.t 1), none⟩,
       ⟨some 16, .mv (.t 8), none⟩,
       ⟨some 17, .bin .add (.t 15) (.t 16), none⟩,
       ⟨some 18, .nchk (.t 14), none⟩,
       ⟨some 19, .faddr 1 (.t 18), none⟩,
       ⟨some 20, .iaddrA 1024 66 (.t 19) (.t 17), none⟩,
       ⟨some 21, .call (.t 13) [(.t 20)], none⟩])))
    (.reg [⟨some 22, .bin .add (.t 10) (.k (.int .i64 1)), none⟩,
      ⟨some 10, .mv (.t 22), none⟩]))))))
theorem b67 : Body Try.prog 67 c67 [] 23 := ⟨by kernel_rfl, _, _, Try.func67, rfl, by kernel_rfl, by kernel_rfl, rfl⟩
def c68 : ACode :=
  .seq (.reg [⟨some 3, .mv (.k (.bool false)), none⟩])
  (.seq (.regD [⟨some 4, .mv (.t 0), none⟩,
    ⟨some 5, .nchk (.t 4), none⟩,
    ⟨some 6, .faddr 0 (.t 5), none⟩,
    ⟨some 7, .load false 1 (.t 6), none⟩,
    ⟨some 8, .load false 1 (.t 1), none⟩,
    ⟨some 9, .bin .eql (.t 7) (.t 8), none⟩,
    ⟨some 10, .mv (.t 9), none⟩,
    ⟨some 11, .mv (.t 0), some (10, true)⟩,
    ⟨some 12, .nchk (.t 11), some (10, true)⟩,
    ⟨some 13, .faddr 1 (.t 12), some (10, true)⟩,
    ⟨some 14, .load false 1 (.t 13), some (10, true)⟩,
    ⟨some 15, .un .not (.t 14), some (10, true)⟩,
    ⟨some 16, .pick (.t 10) (.t 15) (.k (.bool false)), none⟩,
    ⟨some 3, .mv (.t 16), none⟩] [[], [0], [1], [2], [], [3, 4], [5], [6], [7, 6], [8, 6], [9, 6], [10, 6], [6, 11], [12, 6, 0, 1, 2, 3, 4, 5, 6, 7, 8, 9, 10, 11, 12]])
  (.ret))
theorem b68 : Body Try.prog 68 c68 [.tmp 3] 17 := ⟨by kernel_rfl, _, _, Try.func68, rfl, by kernel_rfl, by kernel_rfl, rfl⟩
def c69 : ACode :=
  .reg [⟨some 3, .mv (.t 0), none⟩,
    ⟨some 4, .load false 1 (.t 1), none⟩,
    ⟨some 5, .build [(.int .i64 0), (.bool false), (.int .u8 0), (.int .u8 0), (.int .u8 0), (.int .u8 0), (.int .u8 0), (.int .u8 0), (.int .u8 0), (.int .u8 0), (.int .u8 0), (.int .u8 0), (.int .u8 0), (.int .u8 0), (.int .u8 0), (.int .u8 0), (.int .u8 0), (.int .u8 0), (.int .u8 0), (.int .u8 0), (.int .u8 0), (.int .u8 0), (.int .u8 0), (.int .u8 0), (.int .u8 0), (.int .u8 0), (.int .u8 0), (.int .u8 0), (.int .u8 0), (.int .u8 0), (.int .u8 0), (.int .u8 0), (.int .u8 0), (.int .u8 0), (.int .u8 0), (.int .u8 0), (.int .u8 0), (.int .u8 0), (.int .u8 0), (.int .u8 0), (.int .u8 0), (.int .u8 0), (.int .u8 0), (.int .u8 0), (.int .u8 0), (.int .u8 0), (.int .u8 0), (.int .u8 0), (.int .u8 0), (.int .u8 0), (.int .u8 0), (.int .u8 0), (.int .u8 0), (.int .u8 0), (.int .u8 0), (.int .u8 0), (.int .u8 0), (.int .u8 0), (.int .u8 0), (.int .u8 0), (.int .u8 0), (.int .u8 0), (.int .u8 0), (.int .u8 0), (.int .u8 0), (.int .u8 0)] [(0, 1, (.t 4))], none⟩,
    ⟨some 6, .nchk (.t 3), none⟩,
    ⟨none, .store 66 (.t 6) (.t 5), none⟩]
theorem b69 : Body Try.prog 69 c69 [] 7 := ⟨by kernel_rfl, _, _, Try.func69, rfl, by kernel_rfl, by kernel_rfl, rfl⟩
def c70 : ACode :=
  .seq (.reg [⟨some 4, .new [(.int .i64 0), (.int .i64 0), (.int .i64 0), (.bool false)], none⟩,
    ⟨some 5, .mv (.k (.int .i64 0)), none⟩])
  (.seq (.seq (.reg [⟨some 7, .mv (.t 0), none⟩,
    ⟨some 8, .mv (.t 1), none⟩,
    ⟨some 9, .call (.k (.fn 63 [] [])) [(.t 7), (.t 8)], none⟩,
    ⟨some 6, .mv (.t 9), none⟩])
  (.seq (.reg [⟨some 10, .mv (.t 6), none⟩,
    ⟨some 11, .bin .neq (.t 10) (.k (.int .i64 0)), none⟩])
  (.cond (.t 11) (.seq (.reg [⟨some 12, .load true 4 (.t 4), none⟩,
      ⟨some 13, .mv (.t 6), none⟩,
      ⟨none, .store 4 (.t 4) (.t 12), none⟩,
      ⟨some 5, .mv (.t 13), none⟩])
    (.ret))
    (.skip))))
  (.seq (.reg [⟨some 14, .mv (.t 0), none⟩,
    ⟨some 15, .mv (.t 1), none⟩,
    ⟨some 16, .call (.k (.fn 81 [] [])) [(.t 14), (.t 15)], none⟩])
  (.seq (.regD [⟨some 17, .mv (.t 0), none⟩,
    ⟨some 18, .nchk (.t 17), none⟩,
    ⟨some 19, .faddr 0 (.t 18), none⟩,
    ⟨some 20, .load false 1 (.t 19), none⟩,
    ⟨some 21, .mv (.t 1), none⟩,
    ⟨some 22, .mv (.t 0), none⟩,
    ⟨some 23, .nchk (.t 22), none⟩,
    ⟨some 24, .faddr 0 (.t 23), none⟩,
    ⟨some 25, .load false 1 (.t 24), none⟩,
    ⟨some 26, .mv (.t 1), none⟩,
    ⟨some 27, .iaddrS 7 (.t 25) (.t 26), none⟩,
    ⟨some 28, .faddr 0 (.t 27), none⟩,
    ⟨some 29, .load true 4 (.t 28), none⟩,
    ⟨some 30, .load true 4 (.t 4), none⟩,
    ⟨none, .store 4 (.t 4) (.t 29), none⟩,
    ⟨some 31, .iaddrS 7 (.t 20) (.t 21), none⟩,
    ⟨some 32, .faddr 0 (.t 31), none⟩,
    ⟨none, .store 4 (.t 32) (.t 30), none⟩] [[], [0], [1], [2], [], [], [5], [6], [7], [], [8, 9], [10], [11], [], [12, 5, 6, 7, 8, 9, 10, 11, 12, 13], [3, 4, 0, 1, 2, 3, 4, 5, 6, 7, 8, 9, 10, 11, 12, 13, 14], [15, 0, 1, 2, 3, 4, 5, 6, 7, 8, 9, 10, 11, 12, 13, 14], [16, 13, 14, 0, 1, 2, 3, 4, 5, 6, 7, 8, 9, 10, 11, 12, 13, 14]])
  (.seq (.reg [⟨some 33, .mv (.t 0), none⟩,
    ⟨some 34, .mv (.t 0), none⟩,
    ⟨some 35, .nchk (.t 34), none⟩,
    ⟨some 36, .faddr 2 (.t 35), none⟩,
    ⟨some 37, .load false 1 (.t 36), none⟩,
    ⟨some 38, .mv (.t 1), none⟩,
    ⟨some 39, .minmax false (.t 37) [(.t 38)], none⟩,
    ⟨some 40, .nchk (.t 33), none⟩,
    ⟨some 41, .faddr 2 (.t 40), none⟩,
    ⟨none, .store 1 (.t 41) (.t 39), none⟩])
  (.seq (.reg [⟨some 42, .load true 4 (.t 4), none⟩,
    ⟨none, .store 4 (.t 4) (.t 42), none⟩,
    ⟨some 5, .mv (.k (.int .i64 0)), none⟩])
  (.ret))))))
theorem b70 : Body Try.prog 70 c70 [.cell 4 true 4, .tmp 5] 43 := ⟨by kernel_rfl, _, _, Try.func70, rfl, by kernel_rfl, by kernel_rfl, rfl⟩
def c71 : ACode :=
  .seq (.reg [⟨some 9, .load false 1 (.t 1), none⟩,
    ⟨some 10, .load false 1 (.t 2), none⟩,
    ⟨some 11, .load false 1 (.t 3), none⟩,
    ⟨some 12, .un .not (.t 11), none⟩,
    ⟨some 13, .call (.k (.fn 59 [] [])) [(.t 9), (.t 10), (.t 12)], none⟩,
    ⟨some 8, .mv (.t 13), none⟩,
    ⟨some 14, .ext (.t 8) 0, none⟩,
    ⟨some 15, .ext (.t 8) 1, none⟩,
    ⟨some 5, .mv (.t 14), none⟩,
    ⟨some 6, .mv (.t 15), none⟩])
  (.block 0 (.loop (.seq (.seq (.reg [⟨some 16, .mv (.t 6), none⟩,
      ⟨some 17, .bin .eql (.t 16) (.k (.int .i64 0)), none⟩,
      ⟨some 18, .mv (.t 17), none⟩,
      ⟨some 19, .mv (.t 5), some (18, true)⟩,
      ⟨some 20, .bin .neq (.t 19) (.k (.int .i64 (-1))), some (18, true)⟩,
      ⟨some 21, .pick (.t 18) (.t 20) (.k (.bool false)), none⟩])
    (.cond (.t 21) (.skip)
      (.exit 0)))
    (.block 1 (.seq (.reg [⟨some 22, .load false 1 (.t 1), none⟩,
       ⟨some 23, .mv (.t 5), none⟩,
       ⟨some 24, .load false 1 (.t 3), none⟩,
       ⟨some 25, .call (.k (.fn 72 [] [])) [(.t 22), (.t 23), (.t 24)], none⟩,
       ⟨some 7, .mv (.t 25), none⟩])
     (.seq (.seq (.reg [⟨some 26, .mv (.t 0), none⟩,
       ⟨some 27, .mv (.t 5), none⟩,
       ⟨some 28, .load false 1 (.t 1), none⟩,
       ⟨some 29, .nchk (.t 28), none⟩,
       ⟨some 30, .faddr 0 (.t 29), none⟩,
       ⟨some 31, .load false 1 (.t 30), none⟩,
       ⟨some 32, .mv (.t 5), none⟩,
       ⟨some 33, .iaddrS 7 (.t 31) (.t 32), none⟩,
       ⟨some 34, .faddr 0 (.t 33), none⟩,
       ⟨some 35, .load true 4 (.t 34), none⟩,
       ⟨some 36, .call (.t 26) [(.t 27), (.t 35)], none⟩,
       ⟨some 37, .un .not (.t 36), none⟩])
     (.cond (.t 37) (.ret)
       (.skip)))
     (.reg [⟨some 38, .mv (.t 7), none⟩,
       ⟨some 5, .mv (.t 38), none⟩])))))))
theorem b71 : Body Try.prog 71 c71 [] 39 := ⟨by kernel_rfl, _, _, Try.func71, rfl, by kernel_rfl, by kernel_rfl, rfl⟩
def c72 : ACode :=
  .seq (.reg [⟨some 6, .mv (.k (.int .i64 0)), none⟩])
  (.seq (.seq (.reg [⟨some 7, .mv (.t 2), none⟩])
  (.cond (.t 7) (.seq (.reg [⟨some 8, .mv (.t 0), none⟩,
      ⟨some 9, .nchk (.t 8), none⟩,
      ⟨some 10, .faddr 0 (.t 9), none⟩,
      ⟨some 11, .load false 1 (.t 10), none⟩,
      ⟨some 12, .mv (.t 1), none⟩,
      ⟨some 13, .iaddrS 7 (.t 11) (.t 12), none⟩,
      ⟨some 14, .faddr 6 (.t 13), none⟩,
      ⟨some 15, .load false 1 (.t 14), none⟩,
      ⟨some 6, .mv (.t 15), none⟩])
    (.ret))
    (.skip)))
  (.seq (.reg [⟨some 16, .mv (.t 0), none⟩,
    ⟨some 17, .nchk (.t 16), none⟩,
    ⟨some 18, .faddr 0 (.t 17), none⟩,
    ⟨some 19, .load false 1 (.t 18), none⟩,
    ⟨some 20, .mv (.t 1), none⟩,
    ⟨some 21, .iaddrS 7 (.t 19) (.t 20), none⟩,
    ⟨some 22, .faddr 5 (.t 21), none⟩,
    ⟨some 23, .load false 1 (.t 22), none⟩,
    ⟨some 6, .mv (.t 23), none⟩])
  (.ret)))
theorem b72 : Body Try.prog 72 c72 [.tmp 6] 24 := ⟨by kernel_rfl, _, _, Try.func72, rfl, by kernel_rfl, by kernel_rfl, rfl⟩
def c73 : ACode :=
  .seq (.reg [⟨some 1, .box (.t 0), none⟩,
    ⟨some 2, .new [.nils, (.int .i64 0), (.int .i64 0), (.int .i64 0), (.int .i64 0), (.int .i64 0), (.int .i64 0), (.int .i64 0), (.int .i64 0), (.int .i64 0), (.int .i64 0), (.int .i64 0), (.int .i64 0), (.int .i64 0), (.int .i64 0)], none⟩,
    ⟨some 3, .mv (.k (.int .i64 0)), none⟩])
  (.seq (.seq (.reg [⟨some 7, .load true 1 (.t 1), none⟩,
    ⟨some 8, .call (.k (.fn 82 [] [])) [(.t 7)], none⟩,
    ⟨some 6, .mv (.t 8), none⟩,
    ⟨some 9, .ext (.t 6) 0, none⟩,
    ⟨some 10, .ext (.t 6) 1, none⟩,
    ⟨some 4, .mv (.t 9), none⟩,
    ⟨some 5, .mv (.t 10), none⟩])
  (.seq (.reg [⟨some 11, .mv (.t 5), none⟩,
    ⟨some 12, .bin .neq (.t 11) (.k (.int .i64 0)), none⟩])
  (.cond (.t 12) (.seq (.reg [⟨some 13, .build [.nils, (.int .i64 0), (.int .i64 0), (.int .i64 0), (.int .i64 0), (.int .i64 0), (.int .i64 0), (.int .i64 0), (.int .i64 0), (.int .i64 0), (.int .i64 0), (.int .i64 0), (.int .i64 0), (.int .i64 0), (.int .i64 0)] [], none⟩,
      ⟨some 14, .mv (.t 5), none⟩,
      ⟨none, .store 15 (.t 2) (.t 13), none⟩,
      ⟨some 3, .mv (.t 14), none⟩])
    (.ret))
    (.skip))))
  (.seq (.reg [⟨some 15, .faddr 0 (.t 1), none⟩,
    ⟨some 16, .load false 1 (.t 15), none⟩,
    ⟨some 17, .call (.k (.fn 83 [] [])) [(.t 16)], none⟩,
    ⟨some 18, .build [.nils] [(0, 1, (.t 17))], none⟩,
    ⟨some 19, .build [.nils, (.int .i64 0), (.int .i64 0), (.int .i64 0), (.int .i64 0), (.int .i64 0), (.int .i64 0), (.int .i64 0), (.int .i64 0), (.int .i64 0), (.int .i64 0), (.int .i64 0), (.int .i64 0), (.int .i64 0), (.int .i64 0)] [(0, 1, (.t 18))], none⟩,
    ⟨none, .store 15 (.t 2) (.t 19), none⟩,
    ⟨some 3, .mv (.k (.int .i64 0)), none⟩])
  (.ret)))
theorem b73 : Body Try.prog 73 c73 [.cell 2 true 15, .tmp 3] 20 := ⟨by kernel_rfl, _, _, Try.func73, rfl, by kernel_rfl, by kernel_rfl, rfl⟩
def c74 : ACode :=
  .seq (.reg [⟨some 4, .mv (.k .nilp), none⟩])
  (.seq (.regD [⟨some 8, .mv (.t 0), none⟩,
    ⟨some 9, .mks 7 56 [(.int .i64 0), (.int .i64 0), (.int .i64 0), (.bool false), (.int .i64 0), (.int .i64 0), (.int .i64 0)] (.t 8) (.t 8), none⟩,
    ⟨some 10, .mv (.t 1), none⟩,
    ⟨some 11, .mks 3 24 [(.int .i64 0), (.int .i64 0), (.int .i64 0)] (.t 10) (.t 10), none⟩,
    ⟨some 12, .build [.nils, .nils, (.int .i64 0)] [(0, 1, (.t 9)), (1, 1, (.t 11))], none⟩,
    ⟨some 13, .box (.t 12), none⟩,
    ⟨some 5, .mv (.t 13), none⟩] [[], [0, 0], [], [2, 2], [1, 3], [4], [5, 0, 1, 2, 3, 4, 5]])
  (.seq (.seq (.reg [⟨some 14, .mv (.t 5), none⟩,
    ⟨some 15, .nchk (.t 14), none⟩,
    ⟨some 16, .faddr 0 (.t 15), none⟩,
    ⟨some 17, .load false 1 (.t 16), none⟩,
    ⟨some 18, .len (.t 17), none⟩,
    ⟨some 19, .mv (.k (.int .i64 0)), none⟩])
  (.block 0 (.loop (.seq (.reg [⟨some 20, .bin .lss (.t 19) (.t 18), none⟩])
    (.seq (.cond (.t 20) (.skip)
      (.exit 0))
    (.seq (.block 1 (.seq (.reg [⟨some 21, .mv (.t 19), none⟩,
       ⟨some 6, .mv (.t 21), none⟩])
     (.reg [⟨some 22, .mv (.t 5), none⟩,
       ⟨some 23, .nchk (.t 22), none⟩,
       ⟨some 24, .faddr 0 (.t 23), none⟩,
       ⟨some 25, .load false 1 (.t 24), none⟩,
       ⟨some 26, .mv (.t 6), none⟩,
       ⟨some 27, .build [(.int .i64 0), (.int .i64 0), (.int .i64 0), (.bool false), (.int .i64 0), (.int .i64 0), (.int .i64 0)] [(4, 1, (.k (.int .i64 (-1)))), (5, 1, (.k (.int .i64 (-1)))), (6, 1, (.k (.int .i64 (-1))))], none⟩,
       ⟨some 28, .iaddrS 7 (.t 25) (.t 26), none⟩,
       ⟨none, .store 7 (.t 28) (.t 27), none⟩])))
    (.reg [⟨some 29, .bin .add (.t 19) (.k (.int .i64 1)), none⟩,
      ⟨some 19, .mv (.t 29), none⟩])))))))
  (.seq (.seq (.reg [⟨some 30, .mv (.t 5), none⟩,
    ⟨some 31, .nchk (.t 30), none⟩,
    ⟨some 32, .faddr 1 (.t 31), none⟩,
    ⟨some 33, .load false 1 (.t 32), none⟩,
    ⟨some 34, .len (.t 33), none⟩,
    ⟨some 35, .mv (.k (.int .i64 0)), none⟩])
  (.block 2 (.loop (.seq (.reg [⟨some 36, .bin .lss (.t 35) (.t 34), none⟩])
    (.seq (.cond (.t 36) (.skip)
      (.exit 2))
    (.seq (.block 3 (.seq (.reg [⟨some 37, .mv (.t 35), none⟩,
       ⟨some 7, .mv (.t 37), none⟩])
     (.reg [⟨some 38, .mv (.t 5), none⟩,
       ⟨some 39, .nchk (.t 38), none⟩,
       ⟨some 40, .faddr 1 (.t 39), none⟩,
       ⟨some 41, .load false 1 (.t 40), none⟩,
       ⟨some 42, .mv (.t 7), none⟩,
       ⟨some 43, .build [(.int .i64 0), (.int .i64 0), (.int .i64 0)] [(0, 1, (.k (.int .i64 (-1)))), (1, 1, (.k (.int .i64 (-1)))), (2, 1, (.k (.int .i64 0)))], none⟩,
       ⟨some 44, .iaddrS 3 (.t 41) (.t 42), none⟩,
       ⟨none, .store 3 (.t 44) (.t 43), none⟩])))
    (.reg [⟨some 45, .bin .add (.t 35) (.k (.int .i64 1)), none⟩,
      ⟨some 35, .mv (.t 45), none⟩])))))))
  (.seq (.reg [⟨some 46, .mv (.t 5), none⟩,
    ⟨some 4, .mv (.t 46), none⟩])
  (.ret)))))
theorem b74 : Body Try.prog 74 c74 [.tmp 4] 47 := ⟨by kernel_rfl, _, _, Try.func74, rfl, by kernel_rfl, by kernel_rfl, rfl⟩
def c75 : ACode :=
  .seq (.reg [⟨some 4, .mv (.k (.int .i64 0)), none⟩])
  (.seq (.block 0 (.seq (.reg [⟨some 6, .mv (.t 0), none⟩,
     ⟨some 7, .call (.k (.fn 79 [] [])) [(.t 6)], none⟩,
     ⟨some 8, .un .not (.t 7), none⟩,
     ⟨some 5, .mv (.t 8), none⟩])
   (.cond (.t 5) (.seq (.reg [⟨some 4, .mv (.k (.int .i64 1)), none⟩])
     (.ret))
     (.seq (.reg [⟨some 10, .mv (.t 1), none⟩,
       ⟨some 11, .bin .lss (.t 10) (.k (.int .i64 0)), none⟩,
       ⟨some 12, .mv (.t 11), none⟩,
       ⟨some 13, .mv (.t 1), some (12, false)⟩,
       ⟨some 14, .mv (.t 0), some (12, false)⟩,
       ⟨some 15, .nchk (.t 14), some (12, false)⟩,
       ⟨some 16, .faddr 1 (.t 15), some (12, false)⟩,
       ⟨some 17, .load false 1 (.t 16), some (12, false)⟩,
       ⟨some 18, .len (.t 17), some (12, false)⟩,
       ⟨some 19, .bin .geq (.t 13) (.t 18), some (12, false)⟩,
       ⟨some 20, .pick (.t 12) (.k (.bool true)) (.t 19), none⟩,
       ⟨some 9, .mv (.t 20), none⟩])
     (.cond (.t 9) (.seq (.reg [⟨some 4, .mv (.k (.int .i64 7)), none⟩])
       (.ret))
       (.skip))))))
  (.seq (.reg [⟨some 4, .mv (.k (.int .i64 0)), none⟩])
  (.ret)))
theorem b75 : Body Try.prog 75 c75 [.tmp 4] 21 := ⟨by kernel_rfl, _, _, Try.func75, rfl, by kernel_rfl, by kernel_rfl, rfl⟩
def c76 : ACode :=
  .seq (.reg [⟨some 2, .mv (.k (.int .i64 0)), none⟩])
  (.seq (.block 0 (.loop (.seq (.seq (.regD [⟨some 3, .mv (.t 0), none⟩,
      ⟨some 4, .nchk (.t 3), none⟩,
      ⟨some 5, .faddr 2 (.t 4), none⟩,
      ⟨some 6, .load false 1 (.t 5), none⟩,
      ⟨some 7, .mv (.t 0), none⟩,
      ⟨some 8, .nchk (.t 7), none⟩,
      ⟨some 9, .faddr 0 (.t 8), none⟩,
      ⟨some 10, .load false 1 (.t 9), none⟩,
      ⟨some 11, .len (.t 10), none⟩,
      ⟨some 12, .bin .lss (.t 6) (.t 11), none⟩] [[], [0], [1], [2], [], [4], [5], [6], [7], [3, 8]])
    (.cond (.t 12) (.skip)
      (.exit 0)))
    (.seq (.block 1 (.seq (.regD [⟨some 20, .mv (.t 0), none⟩,
       ⟨some 21, .nchk (.t 20), none⟩,
       ⟨some 22, .faddr 0 (.t 21), none⟩,
       ⟨some 23, .load false 1 (.t 22), none⟩,
       ⟨some 24, .mv (.t 0), none⟩,
       ⟨some 25, .nchk (.t 24), none⟩,
       ⟨some 26, .faddr 2 (.t 25), none⟩,
       ⟨some 27, .load false 1 (.t 26), none⟩,
       ⟨some 28, .iaddrS 7 (.t 23) (.t 27), none⟩,
       ⟨some 29, .faddr 4 (.t 28), none⟩,
       ⟨some 30, .load false 1 (.t 29), none⟩,
       ⟨some 31, .bin .eql (.t 30) (.k (.int .i64 (-1))), none⟩] [[], [0], [1], [2], [], [4], [5], [6], [3, 7], [8], [9], [10]])
     (.cond (.t 31) (.seq (.reg [⟨some 32, .mv (.t 0), none⟩,
         ⟨some 33, .nchk (.t 32), none⟩,
         ⟨some 34, .faddr 2 (.t 33), none⟩,
         ⟨some 35, .load false 1 (.t 34), none⟩,
         ⟨some 2, .mv (.t 35), none⟩])
       (.ret))
       (.skip))))
    (.reg [⟨some 13, .mv (.t 0), none⟩,
      ⟨some 14, .nchk (.t 13), none⟩,
      ⟨some 15, .faddr 2 (.t 14), none⟩,
      ⟨some 16, .load false 1 (.t 15), none⟩,
      ⟨some 17, .bin .add (.t 16) (.k (.int .i64 1)), none⟩,
      ⟨some 18, .nchk (.t 13), none⟩,
      ⟨some 19, .faddr 2 (.t 18), none⟩,
      ⟨none, .store 1 (.t 19) (.t 17), none⟩])))))
  (.seq (.reg [⟨some 2, .mv (.k (.int .i64 (-1))), none⟩])
  (.ret)))
theorem b76 : Body Try.prog 76 c76 [.tmp 2] 36 := ⟨by kernel_rfl, _, _, Try.func76, rfl, by kernel_rfl, by kernel_rfl, rfl⟩
def c77 : ACode :=
  .seq (.regD [⟨some 12, .mv (.t 0), none⟩,
    ⟨some 13, .nchk (.t 12), none⟩,
    ⟨some 14, .faddr 0 (.t 13), none⟩,
    ⟨some 15, .load false 1 (.t 14), none⟩,
    ⟨some 16, .mv (.t 1), none⟩,
    ⟨some 17, .iaddrS 7 (.t 15) (.t 16), none⟩,
    ⟨some 18, .mv (.t 0), none⟩,
    ⟨some 19, .nchk (.t 18), none⟩,
    ⟨some 20, .faddr 1 (.t 19), none⟩,
    ⟨some 21, .load false 1 (.t 20), none⟩,
    ⟨some 22, .mv (.t 2), none⟩,
    ⟨some 23, .iaddrS 3 (.t 21) (.t 22), none⟩,
    ⟨some 10, .mv (.t 17), none⟩,
    ⟨some 11, .mv (.t 23), none⟩] [[], [0], [1], [2], [], [3, 4], [], [6], [7], [8], [], [9, 10], [5, 0, 1, 2, 3, 4, 5], [11, 12, 0, 1, 2, 3, 4, 5, 6, 7, 8, 9, 10, 11, 12]])
  (.seq (.reg [⟨some 24, .mv (.t 10), none⟩,
    ⟨some 25, .mv (.t 10), none⟩,
    ⟨some 26, .mv (.t 10), none⟩,
    ⟨some 27, .mv (.t 2), none⟩,
    ⟨some 28, .mv (.t 3), none⟩,
    ⟨some 29, .mv (.t 4), none⟩,
    ⟨some 30, .nchk (.t 24), none⟩,
    ⟨some 31, .faddr 4 (.t 30), none⟩,
    ⟨none, .store 1 (.t 31) (.t 27), none⟩,
    ⟨some 32, .nchk (.t 25), none⟩,
    ⟨some 33, .faddr 6 (.t 32), none⟩,
    ⟨none, .store 1 (.t 33) (.t 28), none⟩,
    ⟨some 34, .nchk (.t 26), none⟩,
    ⟨some 35, .faddr 5 (.t 34), none⟩,
    ⟨none, .store 1 (.t 35) (.t 29), none⟩])
  (.seq (.seq (.reg [⟨some 36, .mv (.t 3), none⟩,
    ⟨some 37, .bin .eql (.t 36) (.k (.int .i64 (-1))), none⟩])
  (.cond (.t 37) (.reg [⟨some 38, .mv (.t 11), none⟩,
      ⟨some 39, .mv (.t 1), none⟩,
      ⟨some 40, .nchk (.t 38), none⟩,
      ⟨some 41, .faddr 0 (.t 40), none⟩,
      ⟨none, .store 1 (.t 41) (.t 39), none⟩])
    (.reg [⟨some 42, .mv (.t 0), none⟩,
      ⟨some 43, .nchk (.t 42), none⟩,
      ⟨some 44, .faddr 0 (.t 43), none⟩,
      ⟨some 45, .load false 1 (.t 44), none⟩,
      ⟨some 46, .mv (.t 3), none⟩,
      ⟨some 47, .mv (.t 1), none⟩,
      ⟨some 48, .iaddrS 7 (.t 45) (.t 46), none⟩,
      ⟨some 49, .faddr 5 (.t 48), none⟩,
      ⟨none, .store 1 (.t 49) (.t 47), none⟩])))
  (.seq (.seq (.reg [⟨some 50, .mv (.t 4), none⟩,
    ⟨some 51, .bin .eql (.t 50) (.k (.int .i64 (-1))), none⟩])
  (.cond (.t 51) (.reg [⟨some 52, .mv (.t 11), none⟩,
      ⟨some 53, .mv (.t 1), none⟩,
      ⟨some 54, .nchk (.t 52), none⟩,
      ⟨some 55, .faddr 1 (.t 54), none⟩,
      ⟨none, .store 1 (.t 55) (.t 53), none⟩])
    (.reg [⟨some 56, .mv (.t 0), none⟩,
      ⟨some 57, .nchk (.t 56), none⟩,
      ⟨some 58, .faddr 0 (.t 57), none⟩,
      ⟨some 59, .load false 1 (.t 58), none⟩,
      ⟨some 60, .mv (.t 4), none⟩,
      ⟨some 61, .mv (.t 1), none⟩,
      ⟨some 62, .iaddrS 7 (.t 59) (.t 60), none⟩,
      ⟨some 63, .faddr 6 (.t 62), none⟩,
      ⟨none, .store 1 (.t 63) (.t 61), none⟩])))
  (.reg [⟨some 64, .mv (.t 11), none⟩,
    ⟨some 65, .nchk (.t 64), none⟩,
    ⟨some 66, .faddr 2 (.t 65), none⟩,
    ⟨some 67, .load false 1 (.t 66), none⟩,
    ⟨some 68, .bin .add (.t 67) (.k (.int .i64 1)), none⟩,
    ⟨some 69, .nchk (.t 64), none⟩,
    ⟨some 70, .faddr 2 (.t 69), none⟩,
    ⟨none, .store 1 (.t 70) (.t 68), none⟩]))))
theorem b77 : Body Try.prog 77 c77 [] 71 := ⟨by kernel_rfl, _, _, Try.func77, rfl, by kernel_rfl, by kernel_rfl, rfl⟩
def c78 : ACode :=
  .seq (.reg [⟨some 8, .mv (.t 3), none⟩])
  (.cond (.t 8) (.reg [⟨some 9, .mv (.t 0), none⟩,
      ⟨some 10, .mv (.t 1), none⟩,
      ⟨some 11, .mv (.t 2), none⟩,
      ⟨some 12, .mv (.t 0), none⟩,
      ⟨some 13, .nchk (.t 12), none⟩,
      ⟨some 14, .faddr 1 (.t 13), none⟩,
      ⟨some 15, .load false 1 (.t 14), none⟩,
      ⟨some 16, .mv (.t 2), none⟩,
      ⟨some 17, .iaddrS 3 (.t 15) (.t 16), none⟩,
      ⟨some 18, .faddr 0 (.t 17), none⟩,
      ⟨some 19, .load false 1 (.t 18), none⟩,
      ⟨some 20, .call (.k (.fn 77 [] [])) [(.t 9), (.t 10), (.t 11), (.k (.int .i64 (-1))), (.t 19)], none⟩])
    (.reg [⟨some 21, .mv (.t 0), none⟩,
      ⟨some 22, .mv (.t 1), none⟩,
      ⟨some 23, .mv (.t 2), none⟩,
      ⟨some 24, .mv (.t 0), none⟩,
      ⟨some 25, .nchk (.t 24), none⟩,
      ⟨some 26, .faddr 1 (.t 25), none⟩,
      ⟨some 27, .load false 1 (.t 26), none⟩,
      ⟨some 28, .mv (.t 2), none⟩,
      ⟨some 29, .iaddrS 3 (.t 27) (.t 28), none⟩,
      ⟨some 30, .faddr 1 (.t 29), none⟩,
      ⟨some 31, .load false 1 (.t 30), none⟩,
      ⟨some 32, .call (.k (.fn 77 [] [])) [(.t 21), (.t 22), (.t 23), (.t 31), (.k (.int .i64 (-1)))], none⟩]))
theorem b78 : Body Try.prog 78 c78 [] 33 := ⟨by kernel_rfl, _, _, Try.func78, rfl, by kernel_rfl, by kernel_rfl, rfl⟩
def c79 : ACode :=
  .seq (.reg [⟨some 2, .mv (.k (.bool false)), none⟩])
  (.seq (.reg [⟨some 3, .mv (.t 0), none⟩,
    ⟨some 4, .eqp true false (.t 3) (.k .nilp), none⟩,
    ⟨some 5, .mv (.t 4), none⟩,
    ⟨some 6, .mv (.t 0), some (5, true)⟩,
    ⟨some 7, .nchk (.t 6), some (5, true)⟩,
    ⟨some 8, .faddr 0 (.t 7), some (5, true)⟩,
    ⟨some 9, .load false 1 (.t 8), some (5, true)⟩,
    ⟨some 10, .len (.t 9), some (5, true)⟩,
    ⟨some 11, .bin .gtr (.t 10) (.k (.int .i64 0)), some (5, true)⟩,
    ⟨some 12, .pick (.t 5) (.t 11) (.k (.bool false)), none⟩,
    ⟨some 2, .mv (.t 12), none⟩])
  (.ret))
theorem b79 : Body Try.prog 79 c79 [.tmp 2] 13 := ⟨by kernel_rfl, _, _, Try.func79, rfl, by kernel_rfl, by kernel_rfl, rfl⟩
def c80 : ACode :=
  .seq (.reg [⟨some 2, .box (.t 0), none⟩,
    ⟨some 4, .new [.nils, (.int .i64 0), (.int .i64 0), (.int .i64 0), (.int .i64 0), (.int .i64 0), (.int .i64 0), (.int .i64 0), (.int .i64 0), (.int .i64 0), (.int .i64 0), (.int .i64 0), (.int .i64 0), (.int .i64 0), (.int .i64 0)], none⟩,
    ⟨some 5, .mv (.k (.bool false)), none⟩,
    ⟨some 6, .mv (.k (.int .i64 0)), none⟩])
  (.seq (.seq (.reg [⟨some 9, .load true 15 (.t 2), none⟩,
    ⟨some 10, .call (.k (.fn 84 [] [])) [(.t 9)], none⟩,
    ⟨some 7, .mv (.t 10), none⟩])
  (.seq (.reg [⟨some 11, .mv (.t 7), none⟩,
    ⟨some 12, .bin .neq (.t 11) (.k (.int .i64 0)), none⟩])
  (.cond (.t 12) (.seq (.reg [⟨some 13, .build [.nils, (.int .i64 0), (.int .i64 0), (.int .i64 0), (.int .i64 0), (.int .i64 0), (.int .i64 0), (.int .i64 0), (.int .i64 0), (.int .i64 0), (.int .i64 0), (.int .i64 0), (.int .i64 0), (.int .i64 0), (.int .i64 0)] [], none⟩,
      ⟨some 14, .mv (.t 7), none⟩,
      ⟨none, .store 15 (.t 4) (.t 13), none⟩,
      ⟨some 5, .mv (.k (.bool false)), none⟩,
      ⟨some 6, .mv (.t 14), none⟩])
    (.ret))
    (.skip))))
  (.seq (.block 0 (.seq (.reg [⟨some 16, .mv (.t 1), none⟩,
     ⟨some 17, .bin .lss (.t 16) (.k (.int .i64 0)), none⟩,
     ⟨some 18, .mv (.t 17), none⟩,
     ⟨some 19, .mv (.t 1), some (18, false)⟩,
     ⟨some 20, .bin .geq (.t 19) (.k (.int .i64 7)), some (18, false)⟩,
     ⟨some 21, .pick (.t 18) (.k (.bool true)) (.t 20), none⟩,
     ⟨some 15, .mv (.t 21), none⟩])
   (.cond (.t 15) (.seq (.reg [⟨some 22, .build [.nils, (.int .i64 0), (.int .i64 0), (.int .i64 0), (.int .i64 0), (.int .i64 0), (.int .i64 0), (.int .i64 0), (.int .i64 0), (.int .i64 0), (.int .i64 0), (.int .i64 0), (.int .i64 0), (.int .i64 0), (.int .i64 0)] [], none⟩,
       ⟨none, .store 15 (.t 4) (.t 22), none⟩,
       ⟨some 5, .mv (.k (.bool false)), none⟩,
       ⟨some 6, .mv (.k (.int .i64 2)), none⟩])
     (.ret))
     (.seq (.reg [⟨some 24, .mv (.t 1), none⟩,
       ⟨some 25, .faddr 1 (.t 2), none⟩,
       ⟨some 26, .iaddrA 7 1 (.t 25) (.t 24), none⟩,
       ⟨some 27, .load false 1 (.t 26), none⟩,
       ⟨some 28, .bin .eql (.t 27) (.k (.int .i64 1000000)), none⟩,
       ⟨some 23, .mv (.t 28), none⟩])
     (.cond (.t 23) (.seq (.reg [⟨some 29, .build [.nils, (.int .i64 0), (.int .i64 0), (.int .i64 0), (.int .i64 0), (.int .i64 0), (.int .i64 0), (.int .i64 0), (.int .i64 0), (.int .i64 0), (.int .i64 0), (.int .i64 0), (.int .i64 0), (.int .i64 0), (.int .i64 0)] [], none⟩,
         ⟨none, .store 15 (.t 4) (.t 29), none⟩,
         ⟨some 5, .mv (.k (.bool false)), none⟩,
         ⟨some 6, .mv (.k (.int .i64 3)), none⟩])
       (.ret))
       (.skip))))))
  (.seq (.reg [⟨some 30, .faddr 0 (.t 2), none⟩,
    ⟨some 31, .faddr 0 (.t 30), none⟩,
    ⟨some 32, .load false 1 (.t 31), none⟩,
    ⟨some 33, .call (.k (.fn 83 [] [])) [(.t 32)], none⟩,
    ⟨some 34, .faddr 0 (.t 2), none⟩,
    ⟨some 35, .faddr 0 (.t 34), none⟩,
    ⟨none, .store 1 (.t 35) (.t 33), none⟩])
  (.seq (.reg [⟨some 36, .mv (.t 1), none⟩,
    ⟨some 37, .faddr 1 (.t 2), none⟩,
    ⟨some 38, .iaddrA 7 1 (.t 37) (.t 36), none⟩,
    ⟨some 39, .load false 1 (.t 38), none⟩,
    ⟨some 40, .bin .add (.t 39) (.k (.int .i64 1)), none⟩,
    ⟨some 41, .faddr 1 (.t 2), none⟩,
    ⟨some 42, .iaddrA 7 1 (.t 41) (.t 36), none⟩,
    ⟨none, .store 1 (.t 42) (.t 40), none⟩])
  (.seq (.regD [⟨some 43, .faddr 0 (.t 2), none⟩,
    ⟨some 44, .load true 1 (.t 43), none⟩,
    ⟨some 45, .mv (.t 1), none⟩,
    ⟨some 46, .mv (.t 1), none⟩,
    ⟨some 47, .faddr 1 (.t 2), none⟩,
    ⟨some 48, .iaddrA 7 1 (.t 47) (.t 46), none⟩,
    ⟨some 49, .load false 1 (.t 48), none⟩,
    ⟨some 50, .call (.k (.fn 85 [] [])) [(.t 44), (.t 45), (.t 49)], none⟩,
    ⟨some 8, .mv (.t 50), none⟩] [[], [0], [], [], [], [4, 3], [5], [1, 2, 6], [7, 7, 0, 1, 2, 3, 4, 5, 6, 7]])
  (.seq (.seq (.reg [⟨some 51, .mv (.t 8), none⟩])
  (.cond (.t 51) (.reg [⟨some 52, .mv (.t 1), none⟩,
      ⟨some 53, .faddr 8 (.t 2), none⟩,
      ⟨some 54, .iaddrA 7 1 (.t 53) (.t 52), none⟩,
      ⟨some 55, .load false 1 (.t 54), none⟩,
      ⟨some 56, .bin .add (.t 55) (.k (.int .i64 1)), none⟩,
      ⟨some 57, .faddr 8 (.t 2), none⟩,
      ⟨some 58, .iaddrA 7 1 (.t 57) (.t 52), none⟩,
      ⟨none, .store 1 (.t 58) (.t 56), none⟩])
    (.skip)))
  (.seq (.reg [⟨some 59, .load true 15 (.t 2), none⟩,
    ⟨some 60, .mv (.t 8), none⟩,
    ⟨none, .store 15 (.t 4) (.t 59), none⟩,
    ⟨some 5, .mv (.t 60), none⟩,
    ⟨some 6, .mv (.k (.int .i64 0)), none⟩])
  (.ret))))))))
theorem b80 : Body Try.prog 80 c80 [.cell 4 true 15, .tmp 5, .tmp 6] 61 := ⟨by kernel_rfl, _, _, Try.func80, rfl, by kernel_rfl, by kernel_rfl, rfl⟩
def c81 : ACode :=
  .seq (.reg [⟨some 6, .mv (.t 0), none⟩,
    ⟨some 7, .nchk (.t 6), none⟩,
    ⟨some 8, .faddr 0 (.t 7), none⟩,
    ⟨some 9, .load false 1 (.t 8), none⟩,
    ⟨some 10, .mv (.t 1), none⟩,
    ⟨some 11, .iaddrS 7 (.t 9) (.t 10), none⟩,
    ⟨some 4, .mv (.t 11), none⟩])
  (.seq (.regD [⟨some 12, .mv (.t 0), none⟩,
    ⟨some 13, .nchk (.t 12), none⟩,
    ⟨some 14, .faddr 1 (.t 13), none⟩,
    ⟨some 15, .load false 1 (.t 14), none⟩,
    ⟨some 16, .mv (.t 4), none⟩,
    ⟨some 17, .nchk (.t 16), none⟩,
    ⟨some 18, .faddr 4 (.t 17), none⟩,
    ⟨some 19, .load false 1 (.t 18), none⟩,
    ⟨some 20, .iaddrS 3 (.t 15) (.t 19), none⟩,
    ⟨some 5, .mv (.t 20), none⟩] [[], [0], [1], [2], [], [4], [5], [6], [3, 7], [8, 0, 1, 2, 3, 4, 5, 6, 7, 8]])
  (.seq (.seq (.reg [⟨some 21, .mv (.t 4), none⟩,
    ⟨some 22, .nchk (.t 21), none⟩,
    ⟨some 23, .faddr 6 (.t 22), none⟩,
    ⟨some 24, .load false 1 (.t 23), none⟩,
    ⟨some 25, .bin .eql (.t 24) (.k (.int .i64 (-1))), none⟩])
  (.cond (.t 25) (.reg [⟨some 26, .mv (.t 5), none⟩,
      ⟨some 27, .mv (.t 4), none⟩,
      ⟨some 28, .nchk (.t 27), none⟩,
      ⟨some 29, .faddr 5 (.t 28), none⟩,
      ⟨some 30, .load false 1 (.t 29), none⟩,
      ⟨some 31, .nchk (.t 26), none⟩,
      ⟨some 32, .faddr 0 (.t 31), none⟩,
      ⟨none, .store 1 (.t 32) (.t 30), none⟩])
    (.regD [⟨some 33, .mv (.t 0), none⟩,
      ⟨some 34, .nchk (.t 33), none⟩,
      ⟨some 35, .faddr 0 (.t 34), none⟩,
      ⟨some 36, .load false 1 (.t 35), none⟩,
      ⟨some 37, .mv (.t 4), none⟩,
      ⟨some 38, .nchk (.t 37), none⟩,
      ⟨some 39, .faddr 6 (.t 38), none⟩,
      ⟨some 40, .load false 1 (.t 39), none⟩,
      ⟨some 41, .mv (.t 4), none⟩,
      ⟨some 42, .nchk (.t 41), none⟩,
      ⟨some 43, .faddr 5 (.t 42), none⟩,
      ⟨some 44, .load false 1 (.t 43), none⟩,
      ⟨some 45, .iaddrS 7 (.t 36) (.t 40), none⟩,
      ⟨some 46, .faddr 5 (.t 45), none⟩,
      ⟨none, .store 1 (.t 46) (.t 44), none⟩] [[], [0], [1], [2], [], [4], [5], [6], [], [8], [9], [10], [3, 7, 0, 1, 2, 3, 4, 5, 6, 7, 8, 9, 10, 11], [12, 0, 1, 2, 3, 4, 5, 6, 7, 8, 9, 10, 11], [13, 11, 0, 1, 2, 3, 4, 5, 6, 7, 8, 9, 10, 11]])))
  (.seq (.seq (.reg [⟨some 47, .mv (.t 4), none⟩,
    ⟨some 48, .nchk (.t 47), none⟩,
    ⟨some 49, .faddr 5 (.t 48), none⟩,
    ⟨some 50, .load false 1 (.t 49), none⟩,
    ⟨some 51, .bin .eql (.t 50) (.k (.int .i64 (-1))), none⟩])
  (.cond (.t 51) (.reg [⟨some 52, .mv (.t 5), none⟩,
      ⟨some 53, .mv (.t 4), none⟩,
      ⟨some 54, .nchk (.t 53), none⟩,
      ⟨some 55, .faddr 6 (.t 54), none⟩,
      ⟨some 56, .load false 1 (.t 55), none⟩,
      ⟨some 57, .nchk (.t 52), none⟩,
      ⟨some 58, .faddr 1 (.t 57), none⟩,
      ⟨none, .store 1 (.t 58) (.t 56), none⟩])
    (.regD [⟨some 59, .mv (.t 0), none⟩,
      ⟨some 60, .nchk (.t 59), none⟩,
      ⟨some 61, .faddr 0 (.t 60), none⟩,
      ⟨some 62, .load false 1 (.t 61), none⟩,
      ⟨some 63, .mv (.t 4), none⟩,
      ⟨some 64, .nchk (.t 63), none⟩,
      ⟨some 65, .faddr 5 (.t 64), none⟩,
      ⟨some 66, .load false 1 (.t 65), none⟩,
      ⟨some 67, .mv (.t 4), none⟩,
      ⟨some 68, .nchk (.t 67), none⟩,
      ⟨some 69, .faddr 6 (.t 68), none⟩,
      ⟨some 70, .load false 1 (.t 69), none⟩,
      ⟨some 71, .iaddrS 7 (.t 62) (.t 66), none⟩,
      ⟨some 72, .faddr 6 (.t 71), none⟩,
      ⟨none, .store 1 (.t 72) (.t 70), none⟩] [[], [0], [1], [2], [], [4], [5], [6], [], [8], [9], [10], [3, 7, 0, 1, 2, 3, 4, 5, 6, 7, 8, 9, 10, 11], [12, 0, 1, 2, 3, 4, 5, 6, 7, 8, 9, 10, 11], [13, 11, 0, 1, 2, 3, 4, 5, 6, 7, 8, 9, 10, 11]])))
  (.seq (.reg [⟨some 73, .mv (.t 5), none⟩,
    ⟨some 74, .nchk (.t 73), none⟩,
    ⟨some 75, .faddr 2 (.t 74), none⟩,
    ⟨some 76, .load false 1 (.t 75), none⟩,
    ⟨some 77, .bin .sub (.t 76) (.k (.int .i64 1)), none⟩,
    ⟨some 78, .nchk (.t 73), none⟩,
    ⟨some 79, .faddr 2 (.t 78), none⟩,
    ⟨none, .store 1 (.t 79) (.t 77), none⟩])
  (.reg [⟨some 80, .mv (.t 4), none⟩,
    ⟨some 81, .mv (.t 4), none⟩,
    ⟨some 82, .mv (.t 4), none⟩,
    ⟨some 83, .nchk (.t 80), none⟩,
    ⟨some 84, .faddr 4 (.t 83), none⟩,
    ⟨none, .store 1 (.t 84) (.k (.int .i64 (-1))), none⟩,
    ⟨some 85, .nchk (.t 81), none⟩,
    ⟨some 86, .faddr 6 (.t 85), none⟩,
    ⟨none, .store 1 (.t 86) (.k (.int .i64 (-1))), none⟩,
    ⟨some 87, .nchk (.t 82), none⟩,
    ⟨some 88, .faddr 5 (.t 87), none⟩,
    ⟨none, .store 1 (.t 88) (.k (.int .i64 (-1))), none⟩])))))
theorem b81 : Body Try.prog 81 c81 [] 89 := ⟨by kernel_rfl, _, _, Try.func81, rfl, by kernel_rfl, by kernel_rfl, rfl⟩
def c82 : ACode :=
  .seq (.reg [⟨some 1, .box (.t 0), none⟩,
    ⟨some 2, .mv (.k (.int .i64 0)), none⟩,
    ⟨some 3, .mv (.k (.int .i64 0)), none⟩])
  (.seq (.seq (.reg [⟨some 7, .faddr 0 (.t 1), none⟩,
    ⟨some 8, .load false 1 (.t 7), none⟩,
    ⟨some 9, .len (.t 8), none⟩,
    ⟨some 10, .bin .gtr (.t 9) (.k (.int .i64 50)), none⟩])
  (.cond (.t 10) (.seq (.reg [⟨some 2, .mv (.k (.int .i64 0)), none⟩,
      ⟨some 3, .mv (.k (.int .i64 3)), none⟩])
    (.ret))
    (.skip)))
  (.seq (.seq (.reg [⟨some 11, .faddr 0 (.t 1), none⟩,
    ⟨some 12, .load false 1 (.t 11), none⟩,
    ⟨some 13, .len (.t 12), none⟩,
    ⟨some 14, .mv (.k (.int .i64 0)), none⟩])
  (.block 0 (.loop (.seq (.reg [⟨some 15, .bin .lss (.t 14) (.t 13), none⟩])
    (.seq (.cond (.t 15) (.skip)
      (.exit 0))
    (.seq (.block 1 (.seq (.reg [⟨some 16, .mv (.t 14), none⟩,
       ⟨some 17, .iaddrS 4 (.t 12) (.t 14), none⟩,
       ⟨some 18, .load true 4 (.t 17), none⟩,
       ⟨some 5, .new [(.int .i64 0), (.int .i64 0), (.int .i64 0), (.int .i64 0)], none⟩,
       ⟨some 4, .mv (.t 16), none⟩,
       ⟨none, .store 4 (.t 5) (.t 18), none⟩])
     (.seq (.reg [⟨some 19, .load true 4 (.t 5), none⟩,
       ⟨some 20, .call (.k (.fn 86 [] [])) [(.t 19)], none⟩,
       ⟨some 6, .mv (.t 20), none⟩])
     (.seq (.reg [⟨some 21, .mv (.t 6), none⟩,
       ⟨some 22, .bin .neq (.t 21) (.k (.int .i64 0)), none⟩])
     (.cond (.t 22) (.seq (.reg [⟨some 23, .mv (.t 4), none⟩,
         ⟨some 24, .mv (.t 6), none⟩,
         ⟨some 2, .mv (.t 23), none⟩,
         ⟨some 3, .mv (.t 24), none⟩])
       (.ret))
       (.skip))))))
    (.reg [⟨some 25, .bin .add (.t 14) (.k (.int .i64 1)), none⟩,
      ⟨some 14, .mv (.t 25), none⟩])))))))
  (.seq (.reg [⟨some 2, .mv (.k (.int .i64 0)), none⟩,
    ⟨some 3, .mv (.k (.int .i64 0)), none⟩])
  (.ret))))
theorem b82 : Body Try.prog 82 c82 [.tmp 2, .tmp 3] 26 := ⟨by kernel_rfl, _, _, Try.func82, rfl, by kernel_rfl, by kernel_rfl, rfl⟩
def c83 : ACode :=
  .seq (.reg [⟨some 2, .mv (.k .nils), none⟩])
  (.seq (.seq (.reg [⟨some 3, .mv (.t 0), none⟩,
    ⟨some 4, .eqn false (.t 3), none⟩])
  (.cond (.t 4) (.seq (.reg [⟨some 2, .mv (.k .nils), none⟩])
    (.ret))
    (.skip)))
  (.seq (.reg [⟨some 5, .bslice 4 0 [] [], none⟩,
    ⟨some 6, .mv (.t 0), none⟩,
    ⟨some 7, .append 4 32 (.t 5) (.t 6), none⟩,
    ⟨some 2, .mv (.t 7), none⟩])
  (.ret)))
theorem b83 : Body Try.prog 83 c83 [.tmp 2] 8 := ⟨by kernel_rfl, _, _, Try.func83, rfl, by kernel_rfl, by kernel_rfl, rfl⟩
def c84 : ACode :=
  .seq (.reg [⟨some 1, .box (.t 0), none⟩,
    ⟨some 2, .mv (.k (.int .i64 0)), none⟩])
  (.seq (.seq (.reg [⟨some 8, .faddr 0 (.t 1), none⟩,
    ⟨some 9, .load true 1 (.t 8), none⟩,
    ⟨some 10, .call (.k (.fn 82 [] [])) [(.t 9)], none⟩,
    ⟨some 7, .mv (.t 10), none⟩,
    ⟨some 11, .ext (.t 7) 0, none⟩,
    ⟨some 12, .ext (.t 7) 1, none⟩,
    ⟨some 3, .mv (.t 11), none⟩,
    ⟨some 4, .mv (.t 12), none⟩])
  (.seq (.reg [⟨some 13, .mv (.t 4), none⟩,
    ⟨some 14, .bin .neq (.t 13) (.k (.int .i64 0)), none⟩])
  (.cond (.t 14) (.seq (.reg [⟨some 15, .mv (.t 4), none⟩,
      ⟨some 2, .mv (.t 15), none⟩])
    (.ret))
    (.skip))))
  (.seq (.seq (.reg [⟨some 16, .faddr 1 (.t 1), none⟩,
    ⟨some 17, .load true 7 (.t 16), none⟩,
    ⟨some 18, .mv (.k (.int .i64 0)), none⟩])
  (.block 0 (.loop (.seq (.reg [⟨some 19, .bin .lss (.t 18) (.k (.int .i64 7)), none⟩])
    (.seq (.cond (.t 19) (.skip)
      (.exit 0))
    (.seq (.block 1 (.seq (.reg [⟨some 20, .mv (.t 18), none⟩,
       ⟨some 21, .idx false 7 1 (.t 17) (.t 18), none⟩,
       ⟨some 5, .mv (.t 20), none⟩,
       ⟨some 6, .mv (.t 21), none⟩])
     (.seq (.regD [⟨some 22, .mv (.t 6), none⟩,
       ⟨some 23, .bin .lss (.t 22) (.k (.int .i64 0)), none⟩,
       ⟨some 24, .mv (.t 23), none⟩,
       ⟨some 25, .mv (.t 6), some (24, false)⟩,
       ⟨some 26, .bin .gtr (.t 25) (.k (.int .i64 1000000)), some (24, false)⟩,
       ⟨some 27, .pick (.t 24) (.k (.bool true)) (.t 26), none⟩,
       ⟨some 28, .mv (.t 27), none⟩,
       ⟨some 29, .faddr 0 (.t 1), some (28, false)⟩,
       ⟨some 30, .load true 1 (.t 29), some (28, false)⟩,
       ⟨some 31, .mv (.t 5), some (28, false)⟩,
       ⟨some 32, .mv (.t 6), some (28, false)⟩,
       ⟨some 33, .call (.k (.fn 87 [] [])) [(.t 30), (.t 31), (.t 32)], some (28, false)⟩,
       ⟨some 34, .mv (.t 5), some (28, false)⟩,
       ⟨some 35, .faddr 8 (.t 1), some (28, false)⟩,
       ⟨some 36, .iaddrA 7 1 (.t 35) (.t 34), some (28, false)⟩,
       ⟨some 37, .load false 1 (.t 36), some (28, false)⟩,
       ⟨some 38, .bin .neq (.t 33) (.t 37), some (28, false)⟩,
       ⟨some 39, .pick (.t 28) (.k (.bool true)) (.t 38), none⟩] [[], [0], [1], [2], [3, 2], [2, 4], [5, 2], [6], [7, 6], [6], [6], [8, 9, 10, 6, 6], [6], [6], [13, 12, 6], [14, 6], [11, 15, 6], [6, 16]])
     (.cond (.t 39) (.seq (.reg [⟨some 2, .mv (.k (.int .i64 6)), none⟩])
       (.ret))
       (.skip)))))
    (.reg [⟨some 40, .bin .add (.t 18) (.k (.int .i64 1)), none⟩,
      ⟨some 18, .mv (.t 40), none⟩])))))))
  (.seq (.reg [⟨some 2, .mv (.k (.int .i64 0)), none⟩])
  (.ret))))
theorem b84 : Body Try.prog 84 c84 [.tmp 2] 41 := ⟨by kernel_rfl, _, _, Try.func84, rfl, by kernel_rfl, by kernel_rfl, rfl⟩
def c85 : ACode :=
  .seq (.reg [⟨some 3, .box (.t 0), none⟩,
    ⟨some 4, .box (.t 1), none⟩,
    ⟨some 5, .box (.t 2), none⟩,
    ⟨some 6, .mv (.k (.bool false)), none⟩])
  (.seq (.reg [⟨some 7, .faddr 0 (.t 3), none⟩,
    ⟨some 8, .load false 1 (.t 7), none⟩,
    ⟨some 9, .mkfn 89 [] [(.t 4), (.t 5)], none⟩,
    ⟨some 10, .call (.k (.fn 88 [] [])) [(.t 8), (.t 9)], none⟩,
    ⟨some 6, .mv (.t 10), none⟩])
  (.ret))
theorem b85 : Body Try.prog 85 c85 [.tmp 6] 11 := ⟨by kernel_rfl, _, _, Try.func85, rfl, by kernel_rfl, by kernel_rfl, rfl⟩
def c86 : ACode :=
  .seq (.reg [⟨some 1, .box (.t 0), none⟩,
    ⟨some 2, .mv (.k (.int .i64 0)), none⟩])
  (.seq (.block 0 (.seq (.reg [⟨some 4, .faddr 0 (.t 1), none⟩,
     ⟨some 5, .load false 1 (.t 4), none⟩,
     ⟨some 6, .bin .lss (.t 5) (.k (.int .i64 0)), none⟩,
     ⟨some 7, .mv (.t 6), none⟩,
     ⟨some 8, .faddr 0 (.t 1), some (7, false)⟩,
     ⟨some 9, .load false 1 (.t 8), some (7, false)⟩,
     ⟨some 10, .bin .geq (.t 9) (.k (.int .i64 7)), some (7, false)⟩,
     ⟨some 11, .pick (.t 7) (.k (.bool true)) (.t 10), none⟩,
     ⟨some 3, .mv (.t 11), none⟩])
   (.cond (.t 3) (.seq (.reg [⟨some 2, .mv (.k (.int .i64 2)), none⟩])
     (.ret))
     (.seq (.reg [⟨some 13, .faddr 1 (.t 1), none⟩,
       ⟨some 14, .load false 1 (.t 13), none⟩,
       ⟨some 15, .bin .lss (.t 14) (.k (.int .i64 1)), none⟩,
       ⟨some 16, .mv (.t 15), none⟩,
       ⟨some 17, .faddr 1 (.t 1), some (16, false)⟩,
       ⟨some 18, .load false 1 (.t 17), some (16, false)⟩,
       ⟨some 19, .bin .gtr (.t 18) (.k (.int .i64 10000)), some (16, false)⟩,
       ⟨some 20, .pick (.t 16) (.k (.bool true)) (.t 19), none⟩,
       ⟨some 21, .mv (.t 20), none⟩,
       ⟨some 22, .faddr 2 (.t 1), some (21, false)⟩,
       ⟨some 23, .load false 1 (.t 22), some (21, false)⟩,
       ⟨some 24, .bin .lss (.t 23) (.k (.int .i64 0)), some (21, false)⟩,
       ⟨some 25, .pick (.t 21) (.k (.bool true)) (.t 24), none⟩,
       ⟨some 26, .mv (.t 25), none⟩,
       ⟨some 27, .faddr 2 (.t 1), some (26, false)⟩,
       ⟨some 28, .load false 1 (.t 27), some (26, false)⟩,
       ⟨some 29, .bin .gtr (.t 28) (.k (.int .i64 12)), some (26, false)⟩,
       ⟨some 30, .pick (.t 26) (.k (.bool true)) (.t 29), none⟩,
       ⟨some 31, .mv (.t 30), none⟩,
       ⟨some 32, .faddr 3 (.t 1), some (31, false)⟩,
       ⟨some 33, .load false 1 (.t 32), some (31, false)⟩,
       ⟨some 34, .bin .lss (.t 33) (.k (.int .i64 0)), some (31, false)⟩,
       ⟨some 35, .pick (.t 31) (.k (.bool true)) (.t 34), none⟩,
       ⟨some 36, .mv (.t 35), none⟩,
       ⟨some 37, .faddr 3 (.t 1), some (36, false)⟩,
       ⟨some 38, .load false 1 (.t 37), some (36, false)⟩,
       ⟨some 39, .bin .gtr (.t 38) (.k (.int .i64 1000)), some (36, false)⟩,
       ⟨some 40, .pick (.t 36) (.k (.bool true)) (.t 39), none⟩,
       ⟨some 12, .mv (.t 40), none⟩])
     (.cond (.t 12) (.seq (.reg [⟨some 2, .mv (.k (.int .i64 7)), none⟩])
       (.ret))
       (.seq (.reg [⟨some 42, .faddr 2 (.t 1), none⟩,
         ⟨some 43, .load false 1 (.t 42), none⟩,
         ⟨some 44, .bin .eql (.t 43) (.k (.int .i64 0)), none⟩,
         ⟨some 45, .mv (.t 44), none⟩,
         ⟨some 46, .faddr 3 (.t 1), some (45, true)⟩,
         ⟨some 47, .load false 1 (.t 46), some (45, true)⟩,
         ⟨some 48, .bin .neq (.t 47) (.k (.int .i64 1)), some (45, true)⟩,
         ⟨some 49, .pick (.t 45) (.t 48) (.k (.bool false)), none⟩,
         ⟨some 41, .mv (.t 49), none⟩])
       (.cond (.t 41) (.seq (.reg [⟨some 2, .mv (.k (.int .i64 6)), none⟩])
         (.ret))
         (.skip))))))))
  (.seq (.reg [⟨some 2, .mv (.k (.int .i64 0)), none⟩])
  (.ret)))
theorem b86 : Body Try.prog 86 c86 [.tmp 2] 50 := ⟨by kernel_rfl, _, _, Try.func86, rfl, by kernel_rfl, by kernel_rfl, rfl⟩
def c87 : ACode :=
  .seq (.reg [⟨some 3, .box (.t 0), none⟩,
    ⟨some 6, .mv (.k (.int .i64 0)), none⟩])
  (.seq (.seq (.reg [⟨some 9, .load true 1 (.t 3), none⟩,
    ⟨some 10, .mv (.t 1), none⟩,
    ⟨some 11, .mv (.t 2), none⟩,
    ⟨some 12, .call (.k (.fn 91 [] [])) [(.t 9), (.t 10), (.t 11)], none⟩,
    ⟨some 13, .len (.t 12), none⟩,
    ⟨some 14, .mv (.k (.int .i64 0)), none⟩])
  (.block 0 (.loop (.seq (.reg [⟨some 15, .bin .lss (.t 14) (.t 13), none⟩])
    (.seq (.cond (.t 15) (.skip)
      (.exit 0))
    (.seq (.block 1 (.seq (.reg [⟨some 16, .iaddrS 1 (.t 12) (.t 14), none⟩,
       ⟨some 17, .load false 1 (.t 16), none⟩,
       ⟨some 8, .mv (.t 17), none⟩])
     (.seq (.reg [⟨some 18, .mv (.t 8), none⟩])
     (.cond (.t 18) (.reg [⟨some 19, .mv (.t 6), none⟩,
         ⟨some 20, .bin .add (.t 19) (.k (.int .i64 1)), none⟩,
         ⟨some 6, .mv (.t 20), none⟩])
       (.skip)))))
    (.reg [⟨some 21, .bin .add (.t 14) (.k (.int .i64 1)), none⟩,
      ⟨some 14, .mv (.t 21), none⟩])))))))
  (.seq (.reg [⟨some 22, .mv (.t 6), none⟩,
    ⟨some 6, .mv (.t 22), none⟩])
  (.ret)))
theorem b87 : Body Try.prog 87 c87 [.tmp 6] 23 := ⟨by kernel_rfl, _, _, Try.func87, rfl, by kernel_rfl, by kernel_rfl, rfl⟩
def c88 : ACode :=
  .seq (.reg [⟨some 4, .mv (.k (.bool false)), none⟩])
  (.seq (.reg [⟨some 5, .mv (.t 0), none⟩,
    ⟨some 6, .mv (.t 1), none⟩,
    ⟨some 7, .call (.k (.fn 92 [] [])) [(.t 5), (.t 6)], none⟩,
    ⟨some 8, .bin .geq (.t 7) (.k (.int .i64 0)), none⟩,
    ⟨some 4, .mv (.t 8), none⟩])
  (.ret))
theorem b88 : Body Try.prog 88 c88 [.tmp 4] 9 := ⟨by kernel_rfl, _, _, Try.func88, rfl, by kernel_rfl, by kernel_rfl, rfl⟩
def c89 : ACode :=
  .seq (.reg [⟨some 3, .box (.t 0), none⟩,
    ⟨some 4, .mv (.k (.bool false)), none⟩])
  (.seq (.regD [⟨some 5, .faddr 0 (.t 3), none⟩,
    ⟨some 6, .load false 1 (.t 5), none⟩,
    ⟨some 7, .load false 1 (.t 1), none⟩,
    ⟨some 8, .bin .eql (.t 6) (.t 7), none⟩,
    ⟨some 9, .mv (.t 8), none⟩,
    ⟨some 10, .load true 4 (.t 3), some (9, true)⟩,
    ⟨some 11, .load false 1 (.t 2), some (9, true)⟩,
    ⟨some 12, .bin .sub (.t 11) (.k (.int .i64 1)), some (9, true)⟩,
    ⟨some 13, .call (.k (.fn 90 [] [])) [(.t 10), (.t 12)], some (9, true)⟩,
    ⟨some 14, .load false 1 (.t 2), some (9, true)⟩,
    ⟨some 15, .bin .eql (.t 13) (.t 14), some (9, true)⟩,
    ⟨some 16, .pick (.t 9) (.t 15) (.k (.bool false)), none⟩,
    ⟨some 4, .mv (.t 16), none⟩] [[], [0], [], [1, 2], [3], [4], [4], [6, 4], [5, 7, 4, 4], [4], [8, 9, 4], [4, 10], [11, 8, 0, 1, 2, 3, 4, 5, 6, 7, 8, 9, 10, 11]])
  (.ret))
theorem b89 : Body Try.prog 89 c89 [.tmp 4] 17 := ⟨by kernel_rfl, _, _, Try.func89, rfl, by kernel_rfl, by kernel_rfl, rfl⟩
def c90 : ACode :=
  .seq (.reg [⟨some 2, .box (.t 0), none⟩,
    ⟨some 4, .mv (.k (.int .i64 0)), none⟩])
  (.seq (.seq (.reg [⟨some 6, .mv (.t 1), none⟩,
    ⟨some 7, .faddr 1 (.t 2), none⟩,
    ⟨some 8, .load false 1 (.t 7), none⟩,
    ⟨some 9, .bin .lss (.t 6) (.t 8), none⟩])
  (.cond (.t 9) (.seq (.reg [⟨some 10, .faddr 1 (.t 2), none⟩,
      ⟨some 11, .load false 1 (.t 10), none⟩,
      ⟨some 4, .mv (.t 11), none⟩])
    (.ret))
    (.skip)))
  (.seq (.seq (.reg [⟨some 12, .faddr 2 (.t 2), none⟩,
    ⟨some 13, .load false 1 (.t 12), none⟩,
    ⟨some 14, .bin .eql (.t 13) (.k (.int .i64 0)), none⟩])
  (.cond (.t 14) (.seq (.reg [⟨some 4, .mv (.k (.int .i64 0)), none⟩])
    (.ret))
    (.skip)))
  (.seq (.reg [⟨some 15, .mv (.t 1), none⟩,
    ⟨some 16, .faddr 1 (.t 2), none⟩,
    ⟨some 17, .load false 1 (.t 16), none⟩,
    ⟨some 18, .bin .sub (.t 15) (.t 17), none⟩,
    ⟨some 19, .faddr 2 (.t 2), none⟩,
    ⟨some 20, .load false 1 (.t 19), none⟩,
    ⟨some 21, .bin .quo (.t 18) (.t 20), none⟩,
    ⟨some 22, .bin .add (.t 21) (.k (.int .i64 1)), none⟩,
    ⟨some 5, .mv (.t 22), none⟩])
  (.seq (.seq (.reg [⟨some 23, .faddr 3 (.t 2), none⟩,
    ⟨some 24, .load false 1 (.t 23), none⟩,
    ⟨some 25, .bin .gtr (.t 24) (.k (.int .i64 0)), none⟩,
    ⟨some 26, .mv (.t 25), none⟩,
    ⟨some 27, .mv (.t 5), some (26, true)⟩,
    ⟨some 28, .faddr 3 (.t 2), some (26, true)⟩,
    ⟨some 29, .load false 1 (.t 28), some (26, true)⟩,
    ⟨some 30, .bin .geq (.t 27) (.t 29), some (26, true)⟩,
    ⟨some 31, .pick (.t 26) (.t 30) (.k (.bool false)), none⟩])
  (.cond (.t 31) (.seq (.reg [⟨some 4, .mv (.k (.int .i64 0)), none⟩])
    (.ret))
    (.skip)))
  (.seq (.reg [⟨some 32, .faddr 1 (.t 2), none⟩,
    ⟨some 33, .load false 1 (.t 32), none⟩,
    ⟨some 34, .mv (.t 5), none⟩,
    ⟨some 35, .faddr 2 (.t 2), none⟩,
    ⟨some 36, .load false 1 (.t 35), none⟩,
    ⟨some 37, .bin .mul (.t 34) (.t 36), none⟩,
    ⟨some 38, .bin .add (.t 33) (.t 37), none⟩,
    ⟨some 4, .mv (.t 38), none⟩])
  (.ret))))))
theorem b90 : Body Try.prog 90 c90 [.tmp 4] 39 := ⟨by kernel_rfl, _, _, Try.func90, rfl, by kernel_rfl, by kernel_rfl, rfl⟩
def c91 : ACode :=
  .seq (.reg [⟨some 3, .box (.t 0), none⟩,
    ⟨some 6, .mv (.k .nils), none⟩])
  (.seq (.reg [⟨some 11, .mv (.t 2), none⟩,
    ⟨some 12, .bin .add (.t 11) (.k (.int .i64 1)), none⟩,
    ⟨some 13, .mks 1 1 [(.bool false)] (.t 12) (.t 12), none⟩,
    ⟨some 7, .new [.nils], none⟩,
    ⟨none, .store 1 (.t 7) (.t 13), none⟩])
  (.seq (.seq (.reg [⟨some 14, .faddr 0 (.t 3), none⟩,
    ⟨some 15, .load false 1 (.t 14), none⟩,
    ⟨some 16, .len (.t 15), none⟩,
    ⟨some 17, .mv (.k (.int .i64 0)), none⟩])
  (.block 0 (.loop (.seq (.reg [⟨some 18, .bin .lss (.t 17) (.t 16), none⟩])
    (.seq (.cond (.t 18) (.skip)
      (.exit 0))
    (.seq (.block 1 (.seq (.reg [⟨some 19, .iaddrS 4 (.t 15) (.t 17), none⟩,
       ⟨some 20, .load true 4 (.t 19), none⟩,
       ⟨some 9, .new [(.int .i64 0), (.int .i64 0), (.int .i64 0), (.int .i64 0)], none⟩,
       ⟨none, .store 4 (.t 9) (.t 20), none⟩])
     (.seq (.seq (.reg [⟨some 21, .faddr 0 (.t 9), none⟩,
       ⟨some 22, .load false 1 (.t 21), none⟩,
       ⟨some 23, .mv (.t 1), none⟩,
       ⟨some 24, .bin .neq (.t 22) (.t 23), none⟩])
     (.cond (.t 24) (.exit 1)
       (.skip)))
     (.seq (.reg [⟨some 25, .load true 4 (.t 9), none⟩,
       ⟨some 26, .mv (.t 2), none⟩,
       ⟨some 27, .call (.k (.fn 93 [] [])) [(.t 25), (.t 26)], none⟩])
     (.block 2 (.rangeF (.t 27) [28] (.reg [⟨some 10, .mv (.t 28), none⟩])
        (.block 3 (.reg [⟨some 29, .load false 1 (.t 7), none⟩,
           ⟨some 30, .mv (.t 10), none⟩,
           ⟨some 31, .iaddrS 1 (.t 29) (.t 30), none⟩,
           ⟨none, .store 1 (.t 31) (.k (.bool true)), none⟩]))))))))
    (.reg [⟨some 32, .bin .add (.t 17) (.k (.int .i64 1)), none⟩,
      ⟨some 17, .mv (.t 32), none⟩])))))))
  (.seq (.reg [⟨some 33, .load false 1 (.t 7), none⟩,
    ⟨some 6, .mv (.t 33), none⟩])
  (.ret))))
theorem b91 : Body Try.prog 91 c91 [.tmp 6] 34 := ⟨by kernel_rfl, _, _, Try.func91, rfl, by kernel_rfl, by kernel_rfl, rfl⟩
def c92 : ACode :=
  .seq (.reg [⟨some 4, .mv (.k (.int .i64 0)), none⟩])
  (.seq (.seq (.reg [⟨some 6, .mv (.t 0), none⟩,
    ⟨some 7, .len (.t 6), none⟩,
    ⟨some 8, .mv (.k (.int .i64 0)), none⟩])
  (.block 0 (.loop (.seq (.reg [⟨some 9, .bin .lss (.t 8) (.t 7), none⟩])
    (.seq (.cond (.t 9) (.skip)
      (.exit 0))
    (.seq (.block 1 (.seq (.reg [⟨some 10, .mv (.t 8), none⟩,
       ⟨some 5, .mv (.t 10), none⟩])
     (.seq (.reg [⟨some 11, .mv (.t 1), none⟩,
       ⟨some 12, .mv (.t 0), none⟩,
       ⟨some 13, .mv (.t 5), none⟩,
       ⟨some 14, .iaddrS 4 (.t 12) (.t 13), none⟩,
       ⟨some 15, .load true 4 (.t 14), none⟩,
       ⟨some 16, .call (.t 11) [(.t 15)], none⟩])
     (.cond (.t 16) (.seq (.reg [⟨some 17, .mv (.t 5), none⟩,
         ⟨some 4, .mv (.t 17), none⟩])
       (.ret))
       (.skip)))))
    (.reg [⟨some 18, .bin .add (.t 8) (.k (.int .i64 1)), none⟩,
      ⟨some 8, .mv (.t 18), none⟩])))))))
  (.seq (.reg [⟨some 4, .mv (.k (.int .i64 (-1))), none⟩])
  (.ret)))
theorem b92 : Body Try.prog 92 c92 [.tmp 4] 19 := ⟨by kernel_rfl, _, _, Try.func92, rfl, by kernel_rfl, by kernel_rfl, rfl⟩
def c93 : ACode :=
  .seq (.reg [⟨some 2, .box (.t 0), none⟩,
    ⟨some 3, .box (.t 1), none⟩,
    ⟨some 4, .mv (.k .nilf), none⟩])
  (.seq (.reg [⟨some 5, .mkfn 94 [] [(.t 2), (.t 3)], none⟩,
    ⟨some 4, .mv (.t 5), none⟩])
  (.ret))
theorem b93 : Body Try.prog 93 c93 [.tmp 4] 6 := ⟨by kernel_rfl, _, _, Try.func93, rfl, by kernel_rfl, by kernel_rfl, rfl⟩
def c94 : ACode :=
  .seq (.reg [⟨some 6, .faddr 1 (.t 1), none⟩,
    ⟨some 7, .load false 1 (.t 6), none⟩,
    ⟨some 4, .mv (.t 7), none⟩])
  (.seq (.reg [⟨some 5, .mv (.k (.int .i64 0)), none⟩])
  (.block 0 (.loop (.seq (.seq (.reg [⟨some 8, .mv (.t 4), none⟩,
      ⟨some 9, .load false 1 (.t 2), none⟩,
      ⟨some 10, .bin .leq (.t 8) (.t 9), none⟩,
      ⟨some 11, .mv (.t 10), none⟩,
      ⟨some 12, .faddr 3 (.t 1), some (11, true)⟩,
      ⟨some 13, .load false 1 (.t 12), some (11, true)⟩,
      ⟨some 14, .bin .eql (.t 13) (.k (.int .i64 0)), some (11, true)⟩,
      ⟨some 15, .mv (.t 14), some (11, true)⟩,
      ⟨some 16, .mv (.t 5), some (15, false)⟩,
      ⟨some 17, .faddr 3 (.t 1), some (15, false)⟩,
      ⟨some 18, .load false 1 (.t 17), some (15, false)⟩,
      ⟨some 19, .bin .lss (.t 16) (.t 18), some (15, false)⟩,
      ⟨some 20, .pick (.t 15) (.k (.bool true)) (.t 19), some (11, true)⟩,
      ⟨some 21, .pick (.t 11) (.t 20) (.k (.bool false)), none⟩])
    (.cond (.t 21) (.skip)
      (.exit 0)))
    (.seq (.block 1 (.seq (.seq (.reg [⟨some 24, .mv (.t 0), none⟩,
       ⟨some 25, .mv (.t 4), none⟩,
       ⟨some 26, .call (.t 24) [(.t 25)], none⟩,
       ⟨some 27, .un .not (.t 26), none⟩])
     (.cond (.t 27) (.ret)
       (.skip)))
     (.reg [⟨some 28, .mv (.t 4), none⟩,
       ⟨some 29, .faddr 2 (.t 1), none⟩,
       ⟨some 30, .load false 1 (.t 29), none⟩,
       ⟨some 31, .bin .add (.t 28) (.t 30), none⟩,
       ⟨some 4, .mv (.t 31), none⟩])))
    (.reg [⟨some 22, .mv (.t 5), none⟩,
      ⟨some 23, .bin .add (.t 22) (.k (.int .i64 1)), none⟩,
      ⟨some 5, .mv (.t 23), none⟩]))))))
theorem b94 : Body Try.prog 94 c94 [] 32 := ⟨by kernel_rfl, _, _, Try.func94, rfl, by kernel_rfl, by kernel_rfl, rfl⟩
end Go.Proofs.Ytccbhbdbmmkcdaa
