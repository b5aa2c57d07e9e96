/-
  Abstract code of functions, printed by a program, and that it is theirs.
-/
import Derived.Test.YtjlbfijjfjogiaaProg
import Derived.Test.YtjlbfijjfjogiaaZz
set_option linter.unusedSimpArgs false
set_option linter.unusedVariables false
namespace Go.Proofs.Ytjlbfijjfjogiaa
open Go.Am
def c3 : ACode :=
  .seq (.reg [⟨some 1, .box (.t 0), none⟩,
    ⟨some 2, .mv (.k (.bool false)), none⟩])
  (.seq (.seq (.reg [⟨some 7, .faddr 0 (.t 1), none⟩,
    ⟨some 8, .load false 1 (.t 7), none⟩,
    ⟨some 9, .len (.t 8), none⟩,
    ⟨some 10, .bin .gtr (.t 9) (.k (.int .i64 1100)), none⟩,
    ⟨some 11, .mv (.t 10), none⟩,
    ⟨some 12, .faddr 1 (.t 1), some (11, false)⟩,
    ⟨some 13, .load false 1 (.t 12), some (11, false)⟩,
    ⟨some 14, .len (.t 13), some (11, false)⟩,
    ⟨some 15, .bin .gtr (.t 14) (.k (.int .i64 1100)), some (11, false)⟩,
    ⟨some 16, .pick (.t 11) (.k (.bool true)) (.t 15), none⟩,
    ⟨some 17, .mv (.t 16), none⟩,
    ⟨some 18, .faddr 2 (.t 1), some (17, false)⟩,
    ⟨some 19, .load false 1 (.t 18), some (17, false)⟩,
    ⟨some 20, .len (.t 19), some (17, false)⟩,
    ⟨some 21, .bin .gtr (.t 20) (.k (.int .i64 1100)), some (17, false)⟩,
    ⟨some 22, .pick (.t 17) (.k (.bool true)) (.t 21), none⟩,
    ⟨some 23, .mv (.t 22), none⟩,
    ⟨some 24, .faddr 3 (.t 1), some (23, false)⟩,
    ⟨some 25, .faddr 0 (.t 24), some (23, false)⟩,
    ⟨some 26, .faddr 0 (.t 25), some (23, false)⟩,
    ⟨some 27, .load false 1 (.t 26), some (23, false)⟩,
    ⟨some 28, .len (.t 27), some (23, false)⟩,
    ⟨some 29, .bin .gtr (.t 28) (.k (.int .i64 60)), some (23, false)⟩,
    ⟨some 30, .pick (.t 23) (.k (.bool true)) (.t 29), none⟩])
  (.cond (.t 30) (.seq (.reg [⟨some 31, .call (.k (.fn 11 [] [])) [], none⟩,
      ⟨some 2, .mv (.t 31), none⟩])
    (.ret))
    (.skip)))
  (.seq (.reg [⟨some 33, .load true 18 (.t 1), none⟩,
    ⟨some 34, .call (.k (.fn 12 [] [])) [(.t 33)], none⟩,
    ⟨some 32, .mv (.t 34), none⟩,
    ⟨some 35, .ext (.t 32) 0, none⟩,
    ⟨some 36, .ext (.t 32) 1, none⟩,
    ⟨some 3, .mv (.t 35), none⟩,
    ⟨some 4, .mv (.t 36), none⟩])
  (.seq (.reg [⟨some 38, .load true 18 (.t 1), none⟩,
    ⟨some 39, .call (.k (.fn 13 [] [])) [(.t 38)], none⟩,
    ⟨some 37, .mv (.t 39), none⟩,
    ⟨some 40, .ext (.t 37) 0, none⟩,
    ⟨some 41, .ext (.t 37) 1, none⟩,
    ⟨some 5, .mv (.t 40), none⟩,
    ⟨some 6, .mv (.t 41), none⟩])
  (.seq (.seq (.reg [⟨some 42, .mv (.t 4), none⟩,
    ⟨some 43, .mv (.t 6), none⟩,
    ⟨some 44, .bin .neq (.t 42) (.t 43), none⟩])
  (.cond (.t 44) (.seq (.reg [⟨some 2, .mv (.k (.bool false)), none⟩])
    (.ret))
    (.skip)))
  (.seq (.seq (.reg [⟨some 45, .mv (.t 4), none⟩,
    ⟨some 46, .bin .neq (.t 45) (.k (.int .i64 0)), none⟩])
  (.cond (.t 46) (.seq (.reg [⟨some 47, .mv (.t 3), none⟩,
      ⟨some 48, .eqp false false (.t 47) (.k .nilp), none⟩,
      ⟨some 49, .mv (.t 48), none⟩,
      ⟨some 50, .call (.k (.fn 11 [] [])) [], some (49, true)⟩,
      ⟨some 51, .pick (.t 49) (.t 50) (.k (.bool false)), none⟩,
      ⟨some 2, .mv (.t 51), none⟩])
    (.ret))
    (.skip)))
  (.seq (.regD [⟨some 52, .mv (.t 3), none⟩,
    ⟨some 53, .call (.k (.fn 15 [] [])) [(.t 52)], none⟩,
    ⟨some 54, .load true 18 (.t 1), none⟩,
    ⟨some 55, .call (.k (.fn 14 [] [])) [(.t 53), (.t 54)], none⟩,
    ⟨some 56, .mv (.t 55), none⟩,
    ⟨some 57, .call (.k (.fn 11 [] [])) [], some (56, true)⟩,
    ⟨some 58, .pick (.t 56) (.t 57) (.k (.bool false)), none⟩,
    ⟨some 2, .mv (.t 58), none⟩] [[], [0], [], [1, 2, 1], [3, 3], [4, 4], [4, 5], [6, 5, 0, 1, 2, 3, 4, 5, 6]])
  (.ret)))))))
theorem b3 : Body Try.prog 3 c3 [.tmp 2] 59 := ⟨by kernel_rfl, _, _, Try.func3, rfl, by kernel_rfl, by kernel_rfl, rfl⟩
def c4 : ACode :=
  .seq (.reg [⟨some 1, .box (.t 0), none⟩,
    ⟨some 2, .mv (.k (.bool false)), none⟩])
  (.seq (.seq (.reg [⟨some 3, .mv (.k (.int .i64 0)), none⟩])
  (.block 0 (.loop (.seq (.seq (.reg [⟨some 12, .mv (.t 3), none⟩,
      ⟨some 13, .bin .lss (.t 12) (.k (.int .i64 2)), none⟩])
    (.cond (.t 13) (.skip)
      (.exit 0)))
    (.seq (.block 1 (.seq (.reg [⟨some 4, .mv (.k .nilp), none⟩])
     (.seq (.seq (.reg [⟨some 16, .mv (.t 3), none⟩,
       ⟨some 17, .bin .eql (.t 16) (.k (.int .i64 1)), none⟩])
     (.cond (.t 17) (.reg [⟨some 18, .build Go.Pol.sysZ [], none⟩,
         ⟨some 19, .box (.t 18), none⟩,
         ⟨some 4, .mv (.t 19), none⟩])
       (.skip)))
     (.seq (.reg [⟨some 21, .mv (.t 4), none⟩,
       ⟨some 22, .faddr 3 (.t 1), none⟩,
       ⟨some 23, .load false 1 (.t 22), none⟩,
       ⟨some 24, .call (.k (.fn 16 [] [])) [(.t 21), (.t 23)], none⟩,
       ⟨some 20, .mv (.t 24), none⟩,
       ⟨some 25, .ext (.t 20) 0, none⟩,
       ⟨some 26, .ext (.t 20) 1, none⟩,
       ⟨some 5, .mv (.t 25), none⟩,
       ⟨some 6, .mv (.t 26), none⟩])
     (.seq (.reg [⟨some 28, .mv (.t 4), none⟩,
       ⟨some 29, .faddr 1 (.t 1), none⟩,
       ⟨some 30, .load false 1 (.t 29), none⟩,
       ⟨some 31, .call (.k (.fn 17 [] [])) [(.t 28), (.t 30)], none⟩,
       ⟨some 27, .mv (.t 31), none⟩,
       ⟨some 32, .ext (.t 27) 0, none⟩,
       ⟨some 33, .ext (.t 27) 1, none⟩,
       ⟨some 34, .ext (.t 27) 2, none⟩,
       ⟨some 7, .mv (.t 32), none⟩,
       ⟨some 8, .mv (.t 33), none⟩,
       ⟨some 9, .mv (.t 34), none⟩])
     (.seq (.reg [⟨some 36, .mv (.t 4), none⟩,
       ⟨some 37, .call (.k (.fn 18 [] [])) [(.t 36)], none⟩,
       ⟨some 35, .mv (.t 37), none⟩,
       ⟨some 38, .ext (.t 35) 0, none⟩,
       ⟨some 39, .ext (.t 35) 1, none⟩,
       ⟨some 10, .new [(.int .i64 0), (.int .i64 0), (.int .i64 0), (.int .i64 0), (.int .i64 0)], none⟩,
       ⟨none, .store 5 (.t 10) (.t 38), none⟩,
       ⟨some 11, .mv (.t 39), none⟩])
     (.seq (.reg [⟨some 40, .mv (.t 5), none⟩,
       ⟨some 41, .bin .neq (.t 40) (.k (.int .u8 0)), none⟩,
       ⟨some 42, .mv (.t 41), none⟩,
       ⟨some 43, .mv (.t 7), some (42, false)⟩,
       ⟨some 44, .bin .neq (.t 43) (.k (.int .i64 0)), some (42, false)⟩,
       ⟨some 45, .pick (.t 42) (.k (.bool true)) (.t 44), none⟩,
       ⟨some 46, .mv (.t 45), none⟩,
       ⟨some 47, .mv (.t 8), some (46, false)⟩,
       ⟨some 48, .pick (.t 46) (.k (.bool true)) (.t 47), none⟩,
       ⟨some 49, .mv (.t 48), none⟩,
       ⟨some 50, .load true 5 (.t 10), some (49, false)⟩,
       ⟨some 51, .build [(.int .i64 0), (.int .i64 0), (.int .i64 0), (.int .i64 0), (.int .i64 0)] [], some (49, false)⟩,
       ⟨some 52, .eqs true [0, 0, 0, 0, 0] (.t 50) (.t 51), some (49, false)⟩,
       ⟨some 53, .pick (.t 49) (.k (.bool true)) (.t 52), none⟩,
       ⟨some 54, .mv (.t 53), none⟩,
       ⟨some 55, .mv (.t 6), some (54, false)⟩,
       ⟨some 56, .bin .neq (.t 55) (.k (.int .i64 1)), some (54, false)⟩,
       ⟨some 57, .pick (.t 54) (.k (.bool true)) (.t 56), none⟩,
       ⟨some 58, .mv (.t 57), none⟩,
       ⟨some 59, .mv (.t 9), some (58, false)⟩,
       ⟨some 60, .bin .neq (.t 59) (.k (.int .i64 1)), some (58, false)⟩,
       ⟨some 61, .pick (.t 58) (.k (.bool true)) (.t 60), none⟩,
       ⟨some 62, .mv (.t 61), none⟩,
       ⟨some 63, .mv (.t 11), some (62, false)⟩,
       ⟨some 64, .bin .neq (.t 63) (.k (.int .i64 1)), some (62, false)⟩,
       ⟨some 65, .pick (.t 62) (.k (.bool true)) (.t 64), none⟩,
       ⟨some 66, .mv (.t 65), none⟩,
       ⟨some 67, .mv (.t 4), some (66, false)⟩,
       ⟨some 68, .load true 6 (.t 1), some (66, false)⟩,
       ⟨some 69, .call (.k (.fn 19 [] [])) [(.t 67), (.t 68)], some (66, false)⟩,
       ⟨some 70, .bin .neq (.t 69) (.k (.int .i64 1)), some (66, false)⟩,
       ⟨some 71, .pick (.t 66) (.k (.bool true)) (.t 70), none⟩,
       ⟨some 72, .mv (.t 71), none⟩,
       ⟨some 73, .mv (.t 4), some (72, false)⟩,
       ⟨some 74, .call (.k (.fn 15 [] [])) [(.t 73)], some (72, false)⟩,
       ⟨some 75, .build [.nils, .nils, .nils, .nils, (.int .i64 0), (.int .i64 0), (.int .i64 0), (.int .i64 0), (.int .i64 0), (.int .i64 0), (.int .i64 0), (.int .i64 0), (.int .i64 0), (.int .i64 0), (.int .i64 0), (.int .i64 0), (.int .i64 0), (.int .i64 0)] [], some (72, false)⟩,
       ⟨some 76, .call (.k (.fn 14 [] [])) [(.t 74), (.t 75)], some (72, false)⟩,
       ⟨some 77, .un .not (.t 76), some (72, false)⟩,
       ⟨some 78, .pick (.t 72) (.k (.bool true)) (.t 77), none⟩])
     (.cond (.t 78) (.seq (.reg [⟨some 2, .mv (.k (.bool false)), none⟩])
       (.ret))
       (.skip)))))))))
    (.reg [⟨some 14, .mv (.t 3), none⟩,
      ⟨some 15, .bin .add (.t 14) (.k (.int .i64 1)), none⟩,
      ⟨some 3, .mv (.t 15), none⟩]))))))
  (.seq (.reg [⟨some 79, .call (.k (.fn 11 [] [])) [], none⟩,
    ⟨some 2, .mv (.t 79), none⟩])
  (.ret)))
def c5 : ACode :=
  .seq (.reg [⟨some 2, .box (.t 0), none⟩,
    ⟨some 4, .mv (.k (.bool false)), none⟩])
  (.seq (.seq (.reg [⟨some 11, .mv (.t 1), none⟩,
    ⟨some 12, .len (.t 11), none⟩,
    ⟨some 13, .bin .gtr (.t 12) (.k (.int .i64 60)), none⟩,
    ⟨some 14, .mv (.t 13), none⟩,
    ⟨some 15, .load true 1 (.t 2), some (14, false)⟩,
    ⟨some 16, .mv (.t 1), some (14, false)⟩,
    ⟨some 17, .call (.k (.fn 20 [] [])) [(.t 15), (.t 16)], some (14, false)⟩,
    ⟨some 18, .pick (.t 14) (.k (.bool true)) (.t 17), none⟩])
  (.cond (.t 18) (.seq (.reg [⟨some 19, .call (.k (.fn 11 [] [])) [], none⟩,
      ⟨some 4, .mv (.t 19), none⟩])
    (.ret))
    (.skip)))
  (.seq (.reg [⟨some 21, .load true 1 (.t 2), none⟩,
    ⟨some 22, .call (.k (.fn 21 [] [])) [(.t 21)], none⟩,
    ⟨some 20, .mv (.t 22), none⟩,
    ⟨some 23, .ext (.t 20) 0, none⟩,
    ⟨some 24, .ext (.t 20) 1, none⟩,
    ⟨some 5, .mv (.t 23), none⟩,
    ⟨some 6, .mv (.t 24), none⟩])
  (.seq (.reg [⟨some 26, .load true 1 (.t 2), none⟩,
    ⟨some 27, .call (.k (.fn 22 [] [])) [(.t 26)], none⟩,
    ⟨some 25, .mv (.t 27), none⟩,
    ⟨some 28, .ext (.t 25) 0, none⟩,
    ⟨some 29, .ext (.t 25) 1, none⟩,
    ⟨some 7, .mv (.t 28), none⟩,
    ⟨some 8, .mv (.t 29), none⟩])
  (.seq (.seq (.reg [⟨some 30, .mv (.t 6), none⟩,
    ⟨some 31, .mv (.t 8), none⟩,
    ⟨some 32, .bin .neq (.t 30) (.t 31), none⟩,
    ⟨some 33, .mv (.t 32), none⟩,
    ⟨some 34, .mv (.t 6), some (33, false)⟩,
    ⟨some 35, .bin .neq (.t 34) (.k (.int .i64 0)), some (33, false)⟩,
    ⟨some 36, .pick (.t 33) (.k (.bool true)) (.t 35), none⟩])
  (.cond (.t 36) (.seq (.reg [⟨some 37, .mv (.t 6), none⟩,
      ⟨some 38, .mv (.t 8), none⟩,
      ⟨some 39, .bin .eql (.t 37) (.t 38), none⟩,
      ⟨some 40, .mv (.t 39), none⟩,
      ⟨some 41, .mv (.t 5), some (40, true)⟩,
      ⟨some 42, .eqp false false (.t 41) (.k .nilp), some (40, true)⟩,
      ⟨some 43, .pick (.t 40) (.t 42) (.k (.bool false)), none⟩,
      ⟨some 44, .mv (.t 43), none⟩,
      ⟨some 45, .call (.k (.fn 11 [] [])) [], some (44, true)⟩,
      ⟨some 46, .pick (.t 44) (.t 45) (.k (.bool false)), none⟩,
      ⟨some 4, .mv (.t 46), none⟩])
    (.ret))
    (.skip)))
  (.seq (.seq (.reg [⟨some 9, .mv (.k (.int .i64 0)), none⟩])
  (.block 0 (.loop (.seq (.seq (.reg [⟨some 47, .mv (.t 9), none⟩,
      ⟨some 48, .mv (.t 1), none⟩,
      ⟨some 49, .len (.t 48), none⟩,
      ⟨some 50, .bin .lss (.t 47) (.t 49), none⟩])
    (.cond (.t 50) (.skip)
      (.exit 0)))
    (.seq (.block 1 (.seq (.reg [⟨some 10, .mv (.k (.bool false)), none⟩])
     (.seq (.reg [⟨some 54, .mv (.t 5), none⟩,
       ⟨some 55, .mv (.t 7), none⟩,
       ⟨some 56, .mv (.t 1), none⟩,
       ⟨some 57, .mv (.t 9), none⟩,
       ⟨some 58, .iaddrS 6 (.t 56) (.t 57), none⟩,
       ⟨some 59, .load true 6 (.t 58), none⟩,
       ⟨some 60, .call (.k (.fn 23 [] [])) [(.t 54), (.t 55), (.t 59)], none⟩,
       ⟨some 53, .mv (.t 60), none⟩,
       ⟨some 61, .ext (.t 53) 0, none⟩,
       ⟨some 62, .ext (.t 53) 1, none⟩,
       ⟨some 5, .mv (.t 61), none⟩,
       ⟨some 10, .mv (.t 62), none⟩])
     (.seq (.reg [⟨some 63, .mv (.t 10), none⟩,
       ⟨some 64, .un .not (.t 63), none⟩])
     (.cond (.t 64) (.seq (.reg [⟨some 4, .mv (.k (.bool false)), none⟩])
       (.ret))
       (.skip))))))
    (.reg [⟨some 51, .mv (.t 9), none⟩,
      ⟨some 52, .bin .add (.t 51) (.k (.int .i64 1)), none⟩,
      ⟨some 9, .mv (.t 52), none⟩]))))))
  (.seq (.reg [⟨some 65, .mv (.t 5), none⟩,
    ⟨some 66, .call (.k (.fn 15 [] [])) [(.t 65)], none⟩,
    ⟨some 67, .mv (.t 7), none⟩,
    ⟨some 68, .call (.k (.fn 24 [] [])) [(.t 67)], none⟩,
    ⟨some 69, .call (.k (.fn 14 [] [])) [(.t 66), (.t 68)], none⟩,
    ⟨some 70, .mv (.t 69), none⟩,
    ⟨some 71, .call (.k (.fn 11 [] [])) [], some (70, true)⟩,
    ⟨some 72, .pick (.t 70) (.t 71) (.k (.bool false)), none⟩,
    ⟨some 4, .mv (.t 72), none⟩])
  (.ret)))))))
def c6 : ACode :=
  .seq (.reg [⟨some 3, .box (.t 0), none⟩,
    ⟨some 5, .box (.t 2), none⟩,
    ⟨some 6, .mv (.k (.bool false)), none⟩])
  (.seq (.seq (.regD [⟨some 12, .mv (.t 1), none⟩,
    ⟨some 13, .len (.t 12), none⟩,
    ⟨some 14, .bin .gtr (.t 13) (.k (.int .i64 30)), none⟩,
    ⟨some 15, .mv (.t 14), none⟩,
    ⟨some 16, .load true 1 (.t 3), some (15, false)⟩,
    ⟨some 17, .bslice 6 0 [] [], some (15, false)⟩,
    ⟨some 18, .mv (.t 1), some (15, false)⟩,
    ⟨some 19, .append 6 64 (.t 17) (.t 18), some (15, false)⟩,
    ⟨some 20, .load true 6 (.t 5), some (15, false)⟩,
    ⟨some 21, .bslice 6 1 [(.int .u8 0), (.int .i64 0), (.int .i64 0), (.int .i64 0), (.int .u8 0), .nils] [(0, 6, (.t 20))], some (15, false)⟩,
    ⟨some 22, .append 6 64 (.t 19) (.t 21), some (15, false)⟩,
    ⟨some 23, .call (.k (.fn 20 [] [])) [(.t 16), (.t 22)], some (15, false)⟩,
    ⟨some 24, .pick (.t 15) (.k (.bool true)) (.t 23), none⟩] [[], [0], [1], [2], [3], [3], [3], [5, 6, 3, 3], [3], [8, 3], [7, 9, 7, 3], [4, 10, 10, 3], [3, 11]])
  (.cond (.t 24) (.seq (.reg [⟨some 25, .call (.k (.fn 11 [] [])) [], none⟩,
      ⟨some 6, .mv (.t 25), none⟩])
    (.ret))
    (.skip)))
  (.seq (.reg [⟨some 27, .load true 1 (.t 3), none⟩,
    ⟨some 28, .mv (.t 1), none⟩,
    ⟨some 29, .call (.k (.fn 25 [] [])) [(.t 27), (.t 28)], none⟩,
    ⟨some 26, .mv (.t 29), none⟩,
    ⟨some 30, .ext (.t 26) 0, none⟩,
    ⟨some 31, .ext (.t 26) 1, none⟩,
    ⟨some 7, .mv (.t 30), none⟩,
    ⟨some 8, .mv (.t 31), none⟩])
  (.seq (.seq (.reg [⟨some 32, .mv (.t 8), none⟩,
    ⟨some 33, .un .not (.t 32), none⟩])
  (.cond (.t 33) (.seq (.reg [⟨some 34, .call (.k (.fn 11 [] [])) [], none⟩,
      ⟨some 6, .mv (.t 34), none⟩])
    (.ret))
    (.skip)))
  (.seq (.reg [⟨some 35, .mv (.t 7), none⟩,
    ⟨some 36, .call (.k (.fn 15 [] [])) [(.t 35)], none⟩,
    ⟨some 9, .new [.nils, .nils, .nils, .nils, (.int .i64 0), (.int .i64 0), (.int .i64 0), (.int .i64 0), (.int .i64 0), (.int .i64 0), (.int .i64 0), (.int .i64 0), (.int .i64 0), (.int .i64 0), (.int .i64 0), (.int .i64 0), (.int .i64 0), (.int .i64 0)], none⟩,
    ⟨none, .store 18 (.t 9) (.t 36), none⟩])
  (.seq (.reg [⟨some 37, .mv (.t 7), none⟩,
    ⟨some 38, .load true 6 (.t 5), none⟩,
    ⟨some 39, .call (.k (.fn 19 [] [])) [(.t 37), (.t 38)], none⟩,
    ⟨some 10, .mv (.t 39), none⟩])
  (.seq (.reg [⟨some 40, .mv (.t 7), none⟩,
    ⟨some 41, .call (.k (.fn 15 [] [])) [(.t 40)], none⟩,
    ⟨some 11, .new [.nils, .nils, .nils, .nils, (.int .i64 0), (.int .i64 0), (.int .i64 0), (.int .i64 0), (.int .i64 0), (.int .i64 0), (.int .i64 0), (.int .i64 0), (.int .i64 0), (.int .i64 0), (.int .i64 0), (.int .i64 0), (.int .i64 0), (.int .i64 0)], none⟩,
    ⟨none, .store 18 (.t 11) (.t 41), none⟩])
  (.seq (.seq (.reg [⟨some 42, .mv (.t 10), none⟩,
    ⟨some 43, .bin .eql (.t 42) (.k (.int .i64 60)), none⟩])
  (.cond (.t 43) (.reg [⟨some 44, .faddr 3 (.t 9), none⟩,
      ⟨some 45, .load true 15 (.t 44), none⟩,
      ⟨some 46, .faddr 3 (.t 11), none⟩,
      ⟨none, .store 15 (.t 46) (.t 45), none⟩])
    (.skip)))
  (.seq (.reg [⟨some 47, .mv (.t 10), none⟩,
    ⟨some 48, .bin .eql (.t 47) (.k (.int .i64 0)), none⟩,
    ⟨some 49, .mv (.t 48), none⟩,
    ⟨some 50, .load true 18 (.t 9), some (49, false)⟩,
    ⟨some 51, .load true 18 (.t 11), some (49, false)⟩,
    ⟨some 52, .call (.k (.fn 14 [] [])) [(.t 50), (.t 51)], some (49, false)⟩,
    ⟨some 53, .pick (.t 49) (.k (.bool true)) (.t 52), none⟩,
    ⟨some 54, .mv (.t 53), none⟩,
    ⟨some 55, .call (.k (.fn 11 [] [])) [], some (54, true)⟩,
    ⟨some 56, .pick (.t 54) (.t 55) (.k (.bool false)), none⟩,
    ⟨some 6, .mv (.t 56), none⟩])
  (.ret)))))))))
def c7 : ACode :=
  .seq (.reg [⟨some 6, .mv (.k (.bool false)), none⟩])
  (.seq (.seq (.reg [⟨some 22, .mv (.t 0), none⟩,
    ⟨some 23, .len (.t 22), none⟩,
    ⟨some 24, .bin .gtr (.t 23) (.k (.int .i64 30)), none⟩,
    ⟨some 25, .mv (.t 24), none⟩,
    ⟨some 26, .build [.nils] [], some (25, false)⟩,
    ⟨some 27, .mv (.t 0), some (25, false)⟩,
    ⟨some 28, .call (.k (.fn 20 [] [])) [(.t 26), (.t 27)], some (25, false)⟩,
    ⟨some 29, .pick (.t 25) (.k (.bool true)) (.t 28), none⟩])
  (.cond (.t 29) (.seq (.reg [⟨some 30, .call (.k (.fn 11 [] [])) [], none⟩,
      ⟨some 6, .mv (.t 30), none⟩])
    (.ret))
    (.skip)))
  (.seq (.reg [⟨some 32, .build [.nils] [], none⟩,
    ⟨some 33, .mv (.t 0), none⟩,
    ⟨some 34, .call (.k (.fn 25 [] [])) [(.t 32), (.t 33)], none⟩,
    ⟨some 31, .mv (.t 34), none⟩,
    ⟨some 35, .ext (.t 31) 0, none⟩,
    ⟨some 36, .ext (.t 31) 1, none⟩,
    ⟨some 7, .mv (.t 35), none⟩,
    ⟨some 8, .mv (.t 36), none⟩])
  (.seq (.seq (.reg [⟨some 37, .mv (.t 8), none⟩,
    ⟨some 38, .un .not (.t 37), none⟩])
  (.cond (.t 38) (.seq (.reg [⟨some 6, .mv (.k (.bool false)), none⟩])
    (.ret))
    (.skip)))
  (.seq (.seq (.reg [⟨some 39, .mv (.t 7), none⟩,
    ⟨some 40, .build [.nils] [], none⟩,
    ⟨some 41, .call (.k (.fn 26 [] [])) [(.t 39), (.t 40)], none⟩,
    ⟨some 42, .bin .neq (.t 41) (.k (.int .i64 0)), none⟩,
    ⟨some 43, .mv (.t 42), none⟩,
    ⟨some 44, .mv (.t 1), some (43, false)⟩,
    ⟨some 45, .bin .lss (.t 44) (.k (.int .i64 0)), some (43, false)⟩,
    ⟨some 46, .pick (.t 43) (.k (.bool true)) (.t 45), none⟩,
    ⟨some 47, .mv (.t 46), none⟩,
    ⟨some 48, .mv (.t 1), some (47, false)⟩,
    ⟨some 49, .bin .geq (.t 48) (.k (.int .i64 65536)), some (47, false)⟩,
    ⟨some 50, .pick (.t 47) (.k (.bool true)) (.t 49), none⟩])
  (.cond (.t 50) (.seq (.reg [⟨some 51, .call (.k (.fn 11 [] [])) [], none⟩,
      ⟨some 6, .mv (.t 51), none⟩])
    (.ret))
    (.skip)))
  (.seq (.reg [⟨some 52, .mv (.t 1), none⟩,
    ⟨some 53, .bin .quo (.t 52) (.k (.int .i64 64)), none⟩,
    ⟨some 54, .bin .sub (.t 53) (.k (.int .i64 1)), none⟩,
    ⟨some 55, .minmax true (.t 54) [(.k (.int .i64 0))], none⟩,
    ⟨some 56, .bin .mul (.t 55) (.k (.int .i64 64)), none⟩,
    ⟨some 57, .mv (.t 1), none⟩,
    ⟨some 58, .bin .quo (.t 57) (.k (.int .i64 64)), none⟩,
    ⟨some 59, .bin .add (.t 58) (.k (.int .i64 2)), none⟩,
    ⟨some 60, .minmax false (.t 59) [(.k (.int .i64 1024))], none⟩,
    ⟨some 61, .bin .mul (.t 60) (.k (.int .i64 64)), none⟩,
    ⟨some 9, .mv (.t 56), none⟩,
    ⟨some 10, .mv (.t 61), none⟩])
  (.seq (.reg [⟨some 63, .mv (.t 7), none⟩,
    ⟨some 64, .mv (.t 9), none⟩,
    ⟨some 65, .mv (.t 10), none⟩,
    ⟨some 66, .call (.k (.fn 27 [] [])) [(.t 63), (.t 64), (.t 65)], none⟩,
    ⟨some 62, .mv (.t 66), none⟩,
    ⟨some 67, .ext (.t 62) 0, none⟩,
    ⟨some 68, .ext (.t 62) 1, none⟩,
    ⟨some 11, .mv (.t 67), none⟩,
    ⟨some 12, .mv (.t 68), none⟩])
  (.seq (.reg [⟨some 69, .mv (.t 7), none⟩,
    ⟨some 70, .mv (.t 1), none⟩,
    ⟨some 71, .mv (.t 2), none⟩,
    ⟨some 72, .call (.k (.fn 28 [] [])) [(.t 69), (.t 70), (.t 71)], none⟩,
    ⟨some 13, .mv (.t 72), none⟩])
  (.seq (.reg [⟨some 74, .mv (.t 7), none⟩,
    ⟨some 75, .mv (.t 9), none⟩,
    ⟨some 76, .mv (.t 10), none⟩,
    ⟨some 77, .call (.k (.fn 27 [] [])) [(.t 74), (.t 75), (.t 76)], none⟩,
    ⟨some 73, .mv (.t 77), none⟩,
    ⟨some 78, .ext (.t 73) 0, none⟩,
    ⟨some 79, .ext (.t 73) 1, none⟩,
    ⟨some 14, .mv (.t 78), none⟩,
    ⟨some 15, .mv (.t 79), none⟩])
  (.seq (.seq (.reg [⟨some 16, .mv (.k (.int .i64 0)), none⟩])
  (.block 0 (.loop (.seq (.seq (.reg [⟨some 80, .mv (.t 16), none⟩,
      ⟨some 81, .mv (.t 10), none⟩,
      ⟨some 82, .mv (.t 9), none⟩,
      ⟨some 83, .bin .sub (.t 81) (.t 82), none⟩,
      ⟨some 84, .bin .lss (.t 80) (.t 83), none⟩])
    (.cond (.t 84) (.skip)
      (.exit 0)))
    (.seq (.block 1 (.seq (.reg [⟨some 87, .mv (.t 11), none⟩,
       ⟨some 88, .mv (.t 16), none⟩,
       ⟨some 89, .iaddrS 1 (.t 87) (.t 88), none⟩,
       ⟨some 90, .load false 1 (.t 89), none⟩,
       ⟨some 17, .mv (.t 90), none⟩])
     (.seq (.seq (.reg [⟨some 91, .mv (.t 9), none⟩,
       ⟨some 92, .mv (.t 16), none⟩,
       ⟨some 93, .bin .add (.t 91) (.t 92), none⟩,
       ⟨some 94, .mv (.t 1), none⟩,
       ⟨some 95, .bin .eql (.t 93) (.t 94), none⟩,
       ⟨some 96, .mv (.t 95), none⟩,
       ⟨some 97, .mv (.t 13), some (96, true)⟩,
       ⟨some 98, .bin .eql (.t 97) (.k (.int .i64 0)), some (96, true)⟩,
       ⟨some 99, .pick (.t 96) (.t 98) (.k (.bool false)), none⟩])
     (.cond (.t 99) (.reg [⟨some 100, .mv (.t 2), none⟩,
         ⟨some 17, .mv (.t 100), none⟩])
       (.skip)))
     (.seq (.regD [⟨some 101, .mv (.t 14), none⟩,
       ⟨some 102, .mv (.t 16), none⟩,
       ⟨some 103, .iaddrS 1 (.t 101) (.t 102), none⟩,
       ⟨some 104, .load false 1 (.t 103), none⟩,
       ⟨some 105, .mv (.t 17), none⟩,
       ⟨some 106, .bin .neq (.t 104) (.t 105), none⟩,
       ⟨some 107, .mv (.t 106), none⟩,
       ⟨some 108, .mv (.t 12), some (107, false)⟩,
       ⟨some 109, .mv (.t 16), some (107, false)⟩,
       ⟨some 110, .iaddrS 1 (.t 108) (.t 109), some (107, false)⟩,
       ⟨some 111, .load false 1 (.t 110), some (107, false)⟩,
       ⟨some 112, .mv (.t 15), some (107, false)⟩,
       ⟨some 113, .mv (.t 16), some (107, false)⟩,
       ⟨some 114, .iaddrS 1 (.t 112) (.t 113), some (107, false)⟩,
       ⟨some 115, .load false 1 (.t 114), some (107, false)⟩,
       ⟨some 116, .eqb true (.t 111) (.t 115), some (107, false)⟩,
       ⟨some 117, .pick (.t 107) (.k (.bool true)) (.t 116), none⟩,
       ⟨some 118, .mv (.t 117), none⟩,
       ⟨some 119, .mv (.t 9), some (118, false)⟩,
       ⟨some 120, .mv (.t 16), some (118, false)⟩,
       ⟨some 121, .bin .add (.t 119) (.t 120), some (118, false)⟩,
       ⟨some 122, .mv (.t 1), some (118, false)⟩,
       ⟨some 123, .bin .eql (.t 121) (.t 122), some (118, false)⟩,
       ⟨some 124, .mv (.t 123), some (118, false)⟩,
       ⟨some 125, .mv (.t 13), some (124, true)⟩,
       ⟨some 126, .bin .eql (.t 125) (.k (.int .i64 0)), some (124, true)⟩,
       ⟨some 127, .mv (.t 12), some (124, true)⟩,
       ⟨some 128, .mv (.t 16), some (124, true)⟩,
       ⟨some 129, .iaddrS 1 (.t 127) (.t 128), some (124, true)⟩,
       ⟨some 130, .load false 1 (.t 129), some (124, true)⟩,
       ⟨some 131, .eqb false (.t 126) (.t 130), some (124, true)⟩,
       ⟨some 132, .pick (.t 124) (.t 131) (.k (.bool false)), some (118, false)⟩,
       ⟨some 133, .pick (.t 118) (.k (.bool true)) (.t 132), none⟩] [[], [], [0, 1], [2], [], [3, 4], [5], [6], [6], [7, 8, 6], [9, 6], [6], [6], [11, 12, 6], [13, 6], [10, 14, 6], [6, 15], [16, 6], [17], [17], [18, 19, 17], [17], [20, 21, 17], [22, 17, 17], [23], [24, 23], [23], [23], [26, 27, 23], [28, 23], [25, 29, 23], [23, 30, 17], [17, 31]])
     (.cond (.t 133) (.seq (.reg [⟨some 6, .mv (.k (.bool false)), none⟩])
       (.ret))
       (.skip))))))
    (.reg [⟨some 85, .mv (.t 16), none⟩,
      ⟨some 86, .bin .add (.t 85) (.k (.int .i64 1)), none⟩,
      ⟨some 16, .mv (.t 86), none⟩]))))))
  (.seq (.reg [⟨some 134, .mv (.t 1), none⟩,
    ⟨some 135, .bin .quo (.t 134) (.k (.int .i64 64)), none⟩,
    ⟨some 18, .mv (.t 135), none⟩])
  (.seq (.reg [⟨some 137, .mv (.t 7), none⟩,
    ⟨some 138, .mv (.t 18), none⟩,
    ⟨some 139, .call (.k (.fn 17 [] [])) [(.t 137), (.t 138)], none⟩,
    ⟨some 136, .mv (.t 139), none⟩,
    ⟨some 140, .ext (.t 136) 0, none⟩,
    ⟨some 141, .ext (.t 136) 1, none⟩,
    ⟨some 142, .ext (.t 136) 2, none⟩,
    ⟨some 19, .mv (.t 140), none⟩,
    ⟨some 20, .mv (.t 141), none⟩,
    ⟨some 13, .mv (.t 142), none⟩])
  (.seq (.seq (.reg [⟨some 143, .mv (.t 13), none⟩,
    ⟨some 144, .bin .neq (.t 143) (.k (.int .i64 0)), none⟩,
    ⟨some 145, .mv (.t 144), none⟩,
    ⟨some 146, .mv (.t 19), some (145, false)⟩,
    ⟨some 147, .bin .neq (.t 146) (.k (.int .i64 1)), some (145, false)⟩,
    ⟨some 148, .mv (.t 147), some (145, false)⟩,
    ⟨some 149, .mv (.t 19), some (148, true)⟩,
    ⟨some 150, .bin .neq (.t 149) (.k (.int .i64 2)), some (148, true)⟩,
    ⟨some 151, .pick (.t 148) (.t 150) (.k (.bool false)), some (145, false)⟩,
    ⟨some 152, .pick (.t 145) (.k (.bool true)) (.t 151), none⟩,
    ⟨some 153, .mv (.t 152), none⟩,
    ⟨some 154, .mv (.t 20), some (153, false)⟩,
    ⟨some 155, .pick (.t 153) (.k (.bool true)) (.t 154), none⟩])
  (.cond (.t 155) (.seq (.reg [⟨some 156, .mv (.t 13), none⟩,
      ⟨some 157, .bin .eql (.t 156) (.k (.int .i64 0)), none⟩,
      ⟨some 158, .mv (.t 157), none⟩,
      ⟨some 159, .call (.k (.fn 11 [] [])) [], some (158, true)⟩,
      ⟨some 160, .pick (.t 158) (.t 159) (.k (.bool false)), none⟩,
      ⟨some 6, .mv (.t 160), none⟩])
    (.ret))
    (.skip)))
  (.seq (.seq (.reg [⟨some 161, .mv (.t 19), none⟩,
    ⟨some 162, .bin .eql (.t 161) (.k (.int .i64 2)), none⟩,
    ⟨some 163, .mv (.t 162), none⟩,
    ⟨some 164, .mv (.t 7), some (163, true)⟩,
    ⟨some 165, .mv (.t 18), some (163, true)⟩,
    ⟨some 166, .call (.k (.fn 29 [] [])) [(.t 164), (.t 165), (.k (.int .i64 1))], some (163, true)⟩,
    ⟨some 167, .bin .neq (.t 166) (.k (.int .i64 0)), some (163, true)⟩,
    ⟨some 168, .pick (.t 163) (.t 167) (.k (.bool false)), none⟩,
    ⟨some 169, .mv (.t 168), none⟩,
    ⟨some 170, .mv (.t 7), some (169, false)⟩,
    ⟨some 171, .mv (.t 18), some (169, false)⟩,
    ⟨some 172, .call (.k (.fn 30 [] [])) [(.t 170), (.t 171), (.k (.int .i64 1))], some (169, false)⟩,
    ⟨some 173, .bin .neq (.t 172) (.k (.int .i64 0)), some (169, false)⟩,
    ⟨some 174, .pick (.t 169) (.k (.bool true)) (.t 173), none⟩])
  (.cond (.t 174) (.seq (.reg [⟨some 6, .mv (.k (.bool false)), none⟩])
    (.ret))
    (.skip)))
  (.seq (.reg [⟨some 176, .mv (.t 7), none⟩,
    ⟨some 177, .mv (.t 18), none⟩,
    ⟨some 178, .bin .mul (.t 177) (.k (.int .i64 64)), none⟩,
    ⟨some 179, .mv (.t 18), none⟩,
    ⟨some 180, .bin .add (.t 179) (.k (.int .i64 1)), none⟩,
    ⟨some 181, .bin .mul (.t 180) (.k (.int .i64 64)), none⟩,
    ⟨some 182, .call (.k (.fn 27 [] [])) [(.t 176), (.t 178), (.t 181)], none⟩,
    ⟨some 175, .mv (.t 182), none⟩,
    ⟨some 183, .ext (.t 175) 0, none⟩,
    ⟨some 184, .ext (.t 175) 1, none⟩,
    ⟨some 14, .mv (.t 183), none⟩,
    ⟨some 15, .mv (.t 184), none⟩])
  (.seq (.seq (.reg [⟨some 21, .mv (.k (.int .i64 0)), none⟩])
  (.block 2 (.loop (.seq (.seq (.reg [⟨some 185, .mv (.t 21), none⟩,
      ⟨some 186, .mv (.t 14), none⟩,
      ⟨some 187, .len (.t 186), none⟩,
      ⟨some 188, .bin .lss (.t 185) (.t 187), none⟩])
    (.cond (.t 188) (.skip)
      (.exit 2)))
    (.seq (.block 3 (.seq (.reg [⟨some 191, .mv (.t 14), none⟩,
       ⟨some 192, .mv (.t 21), none⟩,
       ⟨some 193, .iaddrS 1 (.t 191) (.t 192), none⟩,
       ⟨some 194, .load false 1 (.t 193), none⟩,
       ⟨some 195, .bin .neq (.t 194) (.k (.int .u8 0)), none⟩,
       ⟨some 196, .mv (.t 195), none⟩,
       ⟨some 197, .mv (.t 15), some (196, false)⟩,
       ⟨some 198, .mv (.t 21), some (196, false)⟩,
       ⟨some 199, .iaddrS 1 (.t 197) (.t 198), some (196, false)⟩,
       ⟨some 200, .load false 1 (.t 199), some (196, false)⟩,
       ⟨some 201, .pick (.t 196) (.k (.bool true)) (.t 200), none⟩])
     (.cond (.t 201) (.seq (.reg [⟨some 6, .mv (.k (.bool false)), none⟩])
       (.ret))
       (.skip))))
    (.reg [⟨some 189, .mv (.t 21), none⟩,
      ⟨some 190, .bin .add (.t 189) (.k (.int .i64 1)), none⟩,
      ⟨some 21, .mv (.t 190), none⟩]))))))
  (.seq (.reg [⟨some 202, .call (.k (.fn 11 [] [])) [], none⟩,
    ⟨some 6, .mv (.t 202), none⟩])
  (.ret)))))))))))))))))
def c8 : ACode :=
  .seq (.reg [⟨some 2, .box (.t 0), none⟩,
    ⟨some 4, .mv (.k (.bool false)), none⟩])
  (.seq (.seq (.reg [⟨some 15, .mv (.t 1), none⟩,
    ⟨some 16, .len (.t 15), none⟩,
    ⟨some 17, .bin .gtr (.t 16) (.k (.int .i64 40)), none⟩,
    ⟨some 18, .mv (.t 17), none⟩,
    ⟨some 19, .load true 1 (.t 2), some (18, false)⟩,
    ⟨some 20, .mv (.t 1), some (18, false)⟩,
    ⟨some 21, .call (.k (.fn 20 [] [])) [(.t 19), (.t 20)], some (18, false)⟩,
    ⟨some 22, .pick (.t 18) (.k (.bool true)) (.t 21), none⟩])
  (.cond (.t 22) (.seq (.reg [⟨some 23, .call (.k (.fn 11 [] [])) [], none⟩,
      ⟨some 4, .mv (.t 23), none⟩])
    (.ret))
    (.skip)))
  (.seq (.reg [⟨some 25, .load true 1 (.t 2), none⟩,
    ⟨some 26, .mv (.t 1), none⟩,
    ⟨some 27, .call (.k (.fn 25 [] [])) [(.t 25), (.t 26)], none⟩,
    ⟨some 24, .mv (.t 27), none⟩,
    ⟨some 28, .ext (.t 24) 0, none⟩,
    ⟨some 29, .ext (.t 24) 1, none⟩,
    ⟨some 5, .mv (.t 28), none⟩,
    ⟨some 6, .mv (.t 29), none⟩])
  (.seq (.seq (.reg [⟨some 30, .mv (.t 6), none⟩,
    ⟨some 31, .un .not (.t 30), none⟩])
  (.cond (.t 31) (.seq (.reg [⟨some 32, .call (.k (.fn 11 [] [])) [], none⟩,
      ⟨some 4, .mv (.t 32), none⟩])
    (.ret))
    (.skip)))
  (.seq (.reg [⟨some 7, .new [(.int .i64 0), (.int .i64 0), (.int .i64 0), (.int .i64 0)], none⟩])
  (.seq (.reg [⟨some 8, .mv (.k (.int .i64 0)), none⟩])
  (.seq (.seq (.reg [⟨some 9, .mv (.k (.int .i64 0)), none⟩])
  (.block 0 (.loop (.seq (.seq (.reg [⟨some 33, .mv (.t 9), none⟩,
      ⟨some 34, .bin .lss (.t 33) (.k (.int .i64 1024)), none⟩])
    (.cond (.t 34) (.skip)
      (.exit 0)))
    (.seq (.block 1 (.seq (.reg [⟨some 38, .mv (.t 5), none⟩,
       ⟨some 39, .mv (.t 9), none⟩,
       ⟨some 40, .call (.k (.fn 17 [] [])) [(.t 38), (.t 39)], none⟩,
       ⟨some 37, .mv (.t 40), none⟩,
       ⟨some 41, .ext (.t 37) 0, none⟩,
       ⟨some 42, .ext (.t 37) 1, none⟩,
       ⟨some 43, .ext (.t 37) 2, none⟩,
       ⟨some 10, .mv (.t 41), none⟩,
       ⟨some 11, .mv (.t 42), none⟩,
       ⟨some 12, .mv (.t 43), none⟩])
     (.seq (.seq (.reg [⟨some 44, .mv (.t 12), none⟩,
       ⟨some 45, .bin .neq (.t 44) (.k (.int .i64 0)), none⟩,
       ⟨some 46, .mv (.t 45), none⟩,
       ⟨some 47, .mv (.t 10), some (46, false)⟩,
       ⟨some 48, .bin .lss (.t 47) (.k (.int .i64 0)), some (46, false)⟩,
       ⟨some 49, .pick (.t 46) (.k (.bool true)) (.t 48), none⟩,
       ⟨some 50, .mv (.t 49), none⟩,
       ⟨some 51, .mv (.t 10), some (50, false)⟩,
       ⟨some 52, .bin .gtr (.t 51) (.k (.int .i64 3)), some (50, false)⟩,
       ⟨some 53, .pick (.t 50) (.k (.bool true)) (.t 52), none⟩,
       ⟨some 54, .mv (.t 53), none⟩,
       ⟨some 55, .mv (.t 11), some (54, false)⟩,
       ⟨some 56, .mv (.t 55), some (54, false)⟩,
       ⟨some 57, .mv (.t 10), some (56, true)⟩,
       ⟨some 58, .bin .neq (.t 57) (.k (.int .i64 2)), some (56, true)⟩,
       ⟨some 59, .pick (.t 56) (.t 58) (.k (.bool false)), some (54, false)⟩,
       ⟨some 60, .pick (.t 54) (.k (.bool true)) (.t 59), none⟩])
     (.cond (.t 60) (.seq (.reg [⟨some 4, .mv (.k (.bool false)), none⟩])
       (.ret))
       (.skip)))
     (.seq (.reg [⟨some 61, .mv (.t 10), none⟩,
       ⟨some 62, .iaddrA 4 1 (.t 7) (.t 61), none⟩,
       ⟨some 63, .load false 1 (.t 62), none⟩,
       ⟨some 64, .bin .add (.t 63) (.k (.int .i64 1)), none⟩,
       ⟨some 65, .iaddrA 4 1 (.t 7) (.t 61), none⟩,
       ⟨none, .store 1 (.t 65) (.t 64), none⟩])
     (.seq (.reg [⟨some 66, .mv (.t 11), none⟩])
     (.cond (.t 66) (.reg [⟨some 67, .mv (.t 8), none⟩,
         ⟨some 68, .bin .add (.t 67) (.k (.int .i64 1)), none⟩,
         ⟨some 8, .mv (.t 68), none⟩])
       (.skip)))))))
    (.reg [⟨some 35, .mv (.t 9), none⟩,
      ⟨some 36, .bin .add (.t 35) (.k (.int .i64 1)), none⟩,
      ⟨some 9, .mv (.t 36), none⟩]))))))
  (.seq (.reg [⟨some 70, .mv (.t 5), none⟩,
    ⟨some 71, .call (.k (.fn 18 [] [])) [(.t 70)], none⟩,
    ⟨some 69, .mv (.t 71), none⟩,
    ⟨some 72, .ext (.t 69) 0, none⟩,
    ⟨some 73, .ext (.t 69) 1, none⟩,
    ⟨some 13, .new [(.int .i64 0), (.int .i64 0), (.int .i64 0), (.int .i64 0), (.int .i64 0)], none⟩,
    ⟨none, .store 5 (.t 13) (.t 72), none⟩,
    ⟨some 14, .mv (.t 73), none⟩])
  (.seq (.reg [⟨some 74, .mv (.t 14), none⟩,
    ⟨some 75, .bin .eql (.t 74) (.k (.int .i64 0)), none⟩,
    ⟨some 76, .mv (.t 75), none⟩,
    ⟨some 77, .load true 5 (.t 13), some (76, true)⟩,
    ⟨some 78, .iaddrA 4 1 (.t 7) (.k (.int .i64 0)), some (76, true)⟩,
    ⟨some 79, .load false 1 (.t 78), some (76, true)⟩,
    ⟨some 80, .iaddrA 4 1 (.t 7) (.k (.int .i64 1)), some (76, true)⟩,
    ⟨some 81, .load false 1 (.t 80), some (76, true)⟩,
    ⟨some 82, .iaddrA 4 1 (.t 7) (.k (.int .i64 2)), some (76, true)⟩,
    ⟨some 83, .load false 1 (.t 82), some (76, true)⟩,
    ⟨some 84, .iaddrA 4 1 (.t 7) (.k (.int .i64 3)), some (76, true)⟩,
    ⟨some 85, .load false 1 (.t 84), some (76, true)⟩,
    ⟨some 86, .mv (.t 8), some (76, true)⟩,
    ⟨some 87, .bin .quo (.t 86) (.k (.int .i64 16)), some (76, true)⟩,
    ⟨some 88, .build [(.int .i64 0), (.int .i64 0), (.int .i64 0), (.int .i64 0), (.int .i64 0)] [(0, 1, (.t 79)), (1, 1, (.t 81)), (2, 1, (.t 83)), (3, 1, (.t 85)), (4, 1, (.t 87))], some (76, true)⟩,
    ⟨some 89, .eqs false [0, 0, 0, 0, 0] (.t 77) (.t 88), some (76, true)⟩,
    ⟨some 90, .pick (.t 76) (.t 89) (.k (.bool false)), none⟩,
    ⟨some 91, .mv (.t 90), none⟩,
    ⟨some 92, .mv (.t 8), some (91, true)⟩,
    ⟨some 93, .bin .rem (.t 92) (.k (.int .i64 16)), some (91, true)⟩,
    ⟨some 94, .bin .eql (.t 93) (.k (.int .i64 0)), some (91, true)⟩,
    ⟨some 95, .pick (.t 91) (.t 94) (.k (.bool false)), none⟩,
    ⟨some 96, .mv (.t 95), none⟩,
    ⟨some 97, .call (.k (.fn 11 [] [])) [], some (96, true)⟩,
    ⟨some 98, .pick (.t 96) (.t 97) (.k (.bool false)), none⟩,
    ⟨some 4, .mv (.t 98), none⟩])
  (.ret)))))))))
def c9 : ACode :=
  .seq (.reg [⟨some 3, .box (.t 0), none⟩,
    ⟨some 5, .box (.t 2), none⟩,
    ⟨some 6, .mv (.k (.bool false)), none⟩])
  (.seq (.seq (.regD [⟨some 18, .mv (.t 1), none⟩,
    ⟨some 19, .len (.t 18), none⟩,
    ⟨some 20, .bin .gtr (.t 19) (.k (.int .i64 30)), none⟩,
    ⟨some 21, .mv (.t 20), none⟩,
    ⟨some 22, .load true 1 (.t 3), some (21, false)⟩,
    ⟨some 23, .bslice 6 0 [] [], some (21, false)⟩,
    ⟨some 24, .mv (.t 1), some (21, false)⟩,
    ⟨some 25, .append 6 64 (.t 23) (.t 24), some (21, false)⟩,
    ⟨some 26, .load true 6 (.t 5), some (21, false)⟩,
    ⟨some 27, .bslice 6 1 [(.int .u8 0), (.int .i64 0), (.int .i64 0), (.int .i64 0), (.int .u8 0), .nils] [(0, 6, (.t 26))], some (21, false)⟩,
    ⟨some 28, .append 6 64 (.t 25) (.t 27), some (21, false)⟩,
    ⟨some 29, .call (.k (.fn 20 [] [])) [(.t 22), (.t 28)], some (21, false)⟩,
    ⟨some 30, .pick (.t 21) (.k (.bool true)) (.t 29), none⟩,
    ⟨some 31, .mv (.t 30), none⟩,
    ⟨some 32, .faddr 0 (.t 5), some (31, false)⟩,
    ⟨some 33, .load false 1 (.t 32), some (31, false)⟩,
    ⟨some 34, .bin .rem (.t 33) (.k (.int .u8 19)), some (31, false)⟩,
    ⟨some 35, .bin .gtr (.t 34) (.k (.int .u8 12)), some (31, false)⟩,
    ⟨some 36, .pick (.t 31) (.k (.bool true)) (.t 35), none⟩] [[], [0], [1], [2], [3], [3], [3], [5, 6, 3, 3], [3], [8, 3], [7, 9, 7, 3], [4, 10, 10, 3], [3, 11], [12, 11], [13], [14, 13], [15, 13], [16, 13], [13, 17]])
  (.cond (.t 36) (.seq (.reg [⟨some 37, .call (.k (.fn 11 [] [])) [], none⟩,
      ⟨some 6, .mv (.t 37), none⟩])
    (.ret))
    (.skip)))
  (.seq (.reg [⟨some 39, .load true 1 (.t 3), none⟩,
    ⟨some 40, .mv (.t 1), none⟩,
    ⟨some 41, .call (.k (.fn 25 [] [])) [(.t 39), (.t 40)], none⟩,
    ⟨some 38, .mv (.t 41), none⟩,
    ⟨some 42, .ext (.t 38) 0, none⟩,
    ⟨some 43, .ext (.t 38) 1, none⟩,
    ⟨some 7, .mv (.t 42), none⟩,
    ⟨some 8, .mv (.t 43), none⟩])
  (.seq (.seq (.reg [⟨some 44, .mv (.t 8), none⟩,
    ⟨some 45, .un .not (.t 44), none⟩])
  (.cond (.t 45) (.seq (.reg [⟨some 46, .call (.k (.fn 11 [] [])) [], none⟩,
      ⟨some 6, .mv (.t 46), none⟩])
    (.ret))
    (.skip)))
  (.seq (.reg [⟨some 47, .mv (.t 7), none⟩,
    ⟨some 48, .call (.k (.fn 15 [] [])) [(.t 47)], none⟩,
    ⟨some 9, .new [.nils, .nils, .nils, .nils, (.int .i64 0), (.int .i64 0), (.int .i64 0), (.int .i64 0), (.int .i64 0), (.int .i64 0), (.int .i64 0), (.int .i64 0), (.int .i64 0), (.int .i64 0), (.int .i64 0), (.int .i64 0), (.int .i64 0), (.int .i64 0)], none⟩,
    ⟨none, .store 18 (.t 9) (.t 48), none⟩])
  (.seq (.reg [⟨some 50, .load true 18 (.t 9), none⟩,
    ⟨some 51, .call (.k (.fn 12 [] [])) [(.t 50)], none⟩,
    ⟨some 49, .mv (.t 51), none⟩,
    ⟨some 52, .ext (.t 49) 0, none⟩,
    ⟨some 53, .ext (.t 49) 1, none⟩,
    ⟨some 10, .mv (.t 52), none⟩,
    ⟨some 11, .mv (.t 53), none⟩])
  (.seq (.seq (.reg [⟨some 54, .mv (.t 11), none⟩,
    ⟨some 55, .bin .neq (.t 54) (.k (.int .i64 0)), none⟩,
    ⟨some 56, .mv (.t 55), none⟩,
    ⟨some 57, .mv (.t 10), some (56, false)⟩,
    ⟨some 58, .build [.nils] [], some (56, false)⟩,
    ⟨some 59, .call (.k (.fn 26 [] [])) [(.t 57), (.t 58)], some (56, false)⟩,
    ⟨some 60, .bin .neq (.t 59) (.k (.int .i64 0)), some (56, false)⟩,
    ⟨some 61, .pick (.t 56) (.k (.bool true)) (.t 60), none⟩])
  (.cond (.t 61) (.seq (.reg [⟨some 6, .mv (.k (.bool false)), none⟩])
    (.ret))
    (.skip)))
  (.seq (.reg [⟨some 62, .mv (.t 10), none⟩,
    ⟨some 63, .load true 6 (.t 5), none⟩,
    ⟨some 64, .call (.k (.fn 19 [] [])) [(.t 62), (.t 63)], none⟩,
    ⟨some 12, .mv (.t 64), none⟩])
  (.seq (.reg [⟨some 65, .mv (.t 7), none⟩,
    ⟨some 66, .load true 6 (.t 5), none⟩,
    ⟨some 67, .call (.k (.fn 19 [] [])) [(.t 65), (.t 66)], none⟩,
    ⟨some 11, .mv (.t 67), none⟩])
  (.seq (.reg [⟨some 68, .mv (.t 7), none⟩,
    ⟨some 69, .call (.k (.fn 15 [] [])) [(.t 68)], none⟩,
    ⟨some 13, .new [.nils, .nils, .nils, .nils, (.int .i64 0), (.int .i64 0), (.int .i64 0), (.int .i64 0), (.int .i64 0), (.int .i64 0), (.int .i64 0), (.int .i64 0), (.int .i64 0), (.int .i64 0), (.int .i64 0), (.int .i64 0), (.int .i64 0), (.int .i64 0)], none⟩,
    ⟨none, .store 18 (.t 13) (.t 69), none⟩])
  (.seq (.seq (.reg [⟨some 70, .mv (.t 12), none⟩,
    ⟨some 71, .bin .neq (.t 70) (.k (.int .i64 0)), none⟩])
  (.cond (.t 71) (.seq (.reg [⟨some 72, .mv (.t 11), none⟩,
      ⟨some 73, .mv (.t 12), none⟩,
      ⟨some 74, .bin .eql (.t 72) (.t 73), none⟩,
      ⟨some 75, .mv (.t 74), none⟩,
      ⟨some 76, .faddr 3 (.t 9), some (75, true)⟩,
      ⟨some 77, .load true 15 (.t 76), some (75, true)⟩,
      ⟨some 78, .faddr 3 (.t 13), some (75, true)⟩,
      ⟨some 79, .load true 15 (.t 78), some (75, true)⟩,
      ⟨some 80, .call (.k (.fn 31 [] [])) [(.t 77), (.t 79)], some (75, true)⟩,
      ⟨some 81, .pick (.t 75) (.t 80) (.k (.bool false)), none⟩,
      ⟨some 82, .mv (.t 81), none⟩,
      ⟨some 83, .call (.k (.fn 11 [] [])) [], some (82, true)⟩,
      ⟨some 84, .pick (.t 82) (.t 83) (.k (.bool false)), none⟩,
      ⟨some 6, .mv (.t 84), none⟩])
    (.ret))
    (.skip)))
  (.seq (.reg [⟨some 85, .build (List.replicate 13 (.int .i64 0)) [(0, 1, (.k (.int .i64 0))), (1, 1, (.k (.int .i64 0))), (2, 1, (.k (.int .i64 1))), (3, 1, (.k (.int .i64 2))), (4, 1, (.k (.int .i64 2))), (5, 1, (.k (.int .i64 2))), (6, 1, (.k (.int .i64 3))), (7, 1, (.k (.int .i64 3))), (8, 1, (.k (.int .i64 4))), (9, 1, (.k (.int .i64 4))), (10, 1, (.k (.int .i64 5))), (11, 1, (.k (.int .i64 5))), (12, 1, (.k (.int .i64 6)))], none⟩,
    ⟨some 14, .new (List.replicate 13 (.int .i64 0)), none⟩,
    ⟨none, .store 13 (.t 14) (.t 85), none⟩])
  (.seq (.regD [⟨some 87, .faddr 3 (.t 9), none⟩,
    ⟨some 88, .load true 15 (.t 87), none⟩,
    ⟨some 89, .faddr 0 (.t 5), none⟩,
    ⟨some 90, .load false 1 (.t 89), none⟩,
    ⟨some 91, .bin .rem (.t 90) (.k (.int .u8 19)), none⟩,
    ⟨some 92, .iaddrA 13 1 (.t 14) (.t 91), none⟩,
    ⟨some 93, .load false 1 (.t 92), none⟩,
    ⟨some 94, .call (.k (.fn 32 [] [])) [(.t 88), (.t 93)], none⟩,
    ⟨some 86, .mv (.t 94), none⟩,
    ⟨some 95, .ext (.t 86) 0, none⟩,
    ⟨some 96, .ext (.t 86) 1, none⟩,
    ⟨some 97, .ext (.t 86) 2, none⟩,
    ⟨some 15, .new [.nils, (.int .i64 0), (.int .i64 0), (.int .i64 0), (.int .i64 0), (.int .i64 0), (.int .i64 0), (.int .i64 0), (.int .i64 0), (.int .i64 0), (.int .i64 0), (.int .i64 0), (.int .i64 0), (.int .i64 0), (.int .i64 0)], none⟩,
    ⟨none, .store 15 (.t 15) (.t 95), none⟩,
    ⟨some 16, .mv (.t 96), none⟩,
    ⟨some 17, .mv (.t 97), none⟩] [[], [0], [], [2], [3], [4], [5], [1, 6], [7], [8], [8], [8], [], [12, 9, 7, 0, 1, 2, 3, 4, 5, 6, 7, 8, 9, 12], [10, 13, 0, 1, 2, 3, 4, 5, 6, 7, 8, 9, 10, 12, 13], [11, 14, 0, 1, 2, 3, 4, 5, 6, 7, 8, 9, 10, 11, 12, 13, 14]])
  (.seq (.seq (.reg [⟨some 98, .mv (.t 17), none⟩,
    ⟨some 99, .bin .neq (.t 98) (.k (.int .i64 0)), none⟩])
  (.cond (.t 99) (.seq (.reg [⟨some 100, .mv (.t 11), none⟩,
      ⟨some 101, .bin .eql (.t 100) (.k (.int .i64 0)), none⟩,
      ⟨some 102, .mv (.t 101), none⟩,
      ⟨some 103, .call (.k (.fn 11 [] [])) [], some (102, true)⟩,
      ⟨some 104, .pick (.t 102) (.t 103) (.k (.bool false)), none⟩,
      ⟨some 6, .mv (.t 104), none⟩])
    (.ret))
    (.skip)))
  (.seq (.reg [⟨some 105, .mv (.t 11), none⟩,
    ⟨some 106, .bin .eql (.t 105) (.k (.int .i64 60)), none⟩,
    ⟨some 107, .mv (.t 16), none⟩,
    ⟨some 108, .eqb false (.t 106) (.t 107), none⟩,
    ⟨some 109, .mv (.t 108), none⟩,
    ⟨some 110, .mv (.t 11), some (109, true)⟩,
    ⟨some 111, .bin .eql (.t 110) (.k (.int .i64 0)), some (109, true)⟩,
    ⟨some 112, .mv (.t 16), some (109, true)⟩,
    ⟨some 113, .eqb true (.t 111) (.t 112), some (109, true)⟩,
    ⟨some 114, .pick (.t 109) (.t 113) (.k (.bool false)), none⟩,
    ⟨some 115, .mv (.t 114), none⟩,
    ⟨some 116, .load true 15 (.t 15), some (115, true)⟩,
    ⟨some 117, .faddr 3 (.t 13), some (115, true)⟩,
    ⟨some 118, .load true 15 (.t 117), some (115, true)⟩,
    ⟨some 119, .call (.k (.fn 31 [] [])) [(.t 116), (.t 118)], some (115, true)⟩,
    ⟨some 120, .pick (.t 115) (.t 119) (.k (.bool false)), none⟩,
    ⟨some 121, .mv (.t 120), none⟩,
    ⟨some 122, .call (.k (.fn 11 [] [])) [], some (121, true)⟩,
    ⟨some 123, .pick (.t 121) (.t 122) (.k (.bool false)), none⟩,
    ⟨some 6, .mv (.t 123), none⟩])
  (.ret)))))))))))))))
def c10 : ACode :=
  .seq (.reg [⟨some 2, .mv (.k (.bool false)), none⟩])
  (.seq (.seq (.reg [⟨some 10, .mv (.t 0), none⟩,
    ⟨some 11, .len (.t 10), none⟩,
    ⟨some 12, .bin .gtr (.t 11) (.k (.int .i64 30)), none⟩,
    ⟨some 13, .mv (.t 12), none⟩,
    ⟨some 14, .build [.nils] [], some (13, false)⟩,
    ⟨some 15, .mv (.t 0), some (13, false)⟩,
    ⟨some 16, .call (.k (.fn 20 [] [])) [(.t 14), (.t 15)], some (13, false)⟩,
    ⟨some 17, .pick (.t 13) (.k (.bool true)) (.t 16), none⟩])
  (.cond (.t 17) (.seq (.reg [⟨some 18, .call (.k (.fn 11 [] [])) [], none⟩,
      ⟨some 2, .mv (.t 18), none⟩])
    (.ret))
    (.skip)))
  (.seq (.reg [⟨some 20, .build [.nils] [], none⟩,
    ⟨some 21, .mv (.t 0), none⟩,
    ⟨some 22, .call (.k (.fn 25 [] [])) [(.t 20), (.t 21)], none⟩,
    ⟨some 19, .mv (.t 22), none⟩,
    ⟨some 23, .ext (.t 19) 0, none⟩,
    ⟨some 24, .ext (.t 19) 1, none⟩,
    ⟨some 3, .mv (.t 23), none⟩,
    ⟨some 4, .mv (.t 24), none⟩])
  (.seq (.seq (.reg [⟨some 25, .mv (.t 4), none⟩,
    ⟨some 26, .un .not (.t 25), none⟩,
    ⟨some 27, .mv (.t 26), none⟩,
    ⟨some 28, .mv (.t 3), some (27, false)⟩,
    ⟨some 29, .build [.nils] [], some (27, false)⟩,
    ⟨some 30, .call (.k (.fn 26 [] [])) [(.t 28), (.t 29)], some (27, false)⟩,
    ⟨some 31, .bin .neq (.t 30) (.k (.int .i64 0)), some (27, false)⟩,
    ⟨some 32, .pick (.t 27) (.k (.bool true)) (.t 31), none⟩])
  (.cond (.t 32) (.seq (.reg [⟨some 2, .mv (.k (.bool false)), none⟩])
    (.ret))
    (.skip)))
  (.seq (.seq (.reg [⟨some 5, .mv (.k (.int .i64 0)), none⟩])
  (.block 0 (.loop (.seq (.seq (.reg [⟨some 33, .mv (.t 5), none⟩,
      ⟨some 34, .bin .lss (.t 33) (.k (.int .i64 1024)), none⟩])
    (.cond (.t 34) (.skip)
      (.exit 0)))
    (.seq (.block 1 (.seq (.reg [⟨some 38, .mv (.t 3), none⟩,
       ⟨some 39, .mv (.t 5), none⟩,
       ⟨some 40, .call (.k (.fn 17 [] [])) [(.t 38), (.t 39)], none⟩,
       ⟨some 37, .mv (.t 40), none⟩,
       ⟨some 41, .ext (.t 37) 0, none⟩,
       ⟨some 42, .ext (.t 37) 1, none⟩,
       ⟨some 43, .ext (.t 37) 2, none⟩,
       ⟨some 6, .mv (.t 41), none⟩,
       ⟨some 7, .mv (.t 42), none⟩,
       ⟨some 8, .mv (.t 43), none⟩])
     (.seq (.seq (.reg [⟨some 44, .mv (.t 8), none⟩,
       ⟨some 45, .bin .neq (.t 44) (.k (.int .i64 0)), none⟩,
       ⟨some 46, .mv (.t 45), none⟩,
       ⟨some 47, .mv (.t 7), some (46, false)⟩,
       ⟨some 48, .mv (.t 47), some (46, false)⟩,
       ⟨some 49, .mv (.t 3), some (48, true)⟩,
       ⟨some 50, .mv (.t 5), some (48, true)⟩,
       ⟨some 51, .call (.k (.fn 33 [] [])) [(.t 49), (.t 50)], some (48, true)⟩,
       ⟨some 52, .bin .neq (.t 51) (.k (.int .i64 0)), some (48, true)⟩,
       ⟨some 53, .pick (.t 48) (.t 52) (.k (.bool false)), some (46, false)⟩,
       ⟨some 54, .pick (.t 46) (.k (.bool true)) (.t 53), none⟩])
     (.cond (.t 54) (.seq (.reg [⟨some 2, .mv (.k (.bool false)), none⟩])
       (.ret))
       (.skip)))
     (.seq (.reg [⟨some 55, .mv (.t 6), none⟩,
       ⟨some 56, .bin .eql (.t 55) (.k (.int .i64 2)), none⟩,
       ⟨some 57, .mv (.t 56), none⟩,
       ⟨some 58, .mv (.t 3), some (57, true)⟩,
       ⟨some 59, .mv (.t 5), some (57, true)⟩,
       ⟨some 60, .call (.k (.fn 29 [] [])) [(.t 58), (.t 59), (.k (.int .i64 1))], some (57, true)⟩,
       ⟨some 61, .bin .neq (.t 60) (.k (.int .i64 0)), some (57, true)⟩,
       ⟨some 62, .pick (.t 57) (.t 61) (.k (.bool false)), none⟩,
       ⟨some 63, .mv (.t 62), none⟩,
       ⟨some 64, .mv (.t 6), some (63, false)⟩,
       ⟨some 65, .bin .eql (.t 64) (.k (.int .i64 3)), some (63, false)⟩,
       ⟨some 66, .mv (.t 65), some (63, false)⟩,
       ⟨some 67, .mv (.t 3), some (66, true)⟩,
       ⟨some 68, .mv (.t 5), some (66, true)⟩,
       ⟨some 69, .call (.k (.fn 34 [] [])) [(.t 67), (.t 68), (.k (.int .i64 1)), (.k (.bool false))], some (66, true)⟩,
       ⟨some 70, .bin .neq (.t 69) (.k (.int .i64 0)), some (66, true)⟩,
       ⟨some 71, .pick (.t 66) (.t 70) (.k (.bool false)), some (63, false)⟩,
       ⟨some 72, .pick (.t 63) (.k (.bool true)) (.t 71), none⟩,
       ⟨some 73, .mv (.t 72), none⟩,
       ⟨some 74, .mv (.t 6), some (73, false)⟩,
       ⟨some 75, .bin .neq (.t 74) (.k (.int .i64 0)), some (73, false)⟩,
       ⟨some 76, .mv (.t 75), some (73, false)⟩,
       ⟨some 77, .mv (.t 3), some (76, true)⟩,
       ⟨some 78, .mv (.t 5), some (76, true)⟩,
       ⟨some 79, .call (.k (.fn 35 [] [])) [(.t 77), (.t 78), (.k (.int .i64 1))], some (76, true)⟩,
       ⟨some 80, .bin .neq (.t 79) (.k (.int .i64 0)), some (76, true)⟩,
       ⟨some 81, .pick (.t 76) (.t 80) (.k (.bool false)), some (73, false)⟩,
       ⟨some 82, .pick (.t 73) (.k (.bool true)) (.t 81), none⟩])
     (.cond (.t 82) (.seq (.reg [⟨some 2, .mv (.k (.bool false)), none⟩])
       (.ret))
       (.skip))))))
    (.reg [⟨some 35, .mv (.t 5), none⟩,
      ⟨some 36, .bin .add (.t 35) (.k (.int .i64 1)), none⟩,
      ⟨some 5, .mv (.t 36), none⟩]))))))
  (.seq (.reg [⟨some 83, .mv (.t 3), none⟩,
    ⟨some 84, .call (.k (.fn 15 [] [])) [(.t 83)], none⟩,
    ⟨some 9, .new [.nils, .nils, .nils, .nils, (.int .i64 0), (.int .i64 0), (.int .i64 0), (.int .i64 0), (.int .i64 0), (.int .i64 0), (.int .i64 0), (.int .i64 0), (.int .i64 0), (.int .i64 0), (.int .i64 0), (.int .i64 0), (.int .i64 0), (.int .i64 0)], none⟩,
    ⟨none, .store 18 (.t 9) (.t 84), none⟩])
  (.seq (.reg [⟨some 85, .faddr 0 (.t 9), none⟩,
    ⟨some 86, .load false 1 (.t 85), none⟩,
    ⟨some 87, .len (.t 86), none⟩,
    ⟨some 88, .bin .eql (.t 87) (.k (.int .i64 0)), none⟩,
    ⟨some 89, .mv (.t 88), none⟩,
    ⟨some 90, .faddr 1 (.t 9), some (89, true)⟩,
    ⟨some 91, .load false 1 (.t 90), some (89, true)⟩,
    ⟨some 92, .len (.t 91), some (89, true)⟩,
    ⟨some 93, .bin .eql (.t 92) (.k (.int .i64 0)), some (89, true)⟩,
    ⟨some 94, .pick (.t 89) (.t 93) (.k (.bool false)), none⟩,
    ⟨some 95, .mv (.t 94), none⟩,
    ⟨some 96, .faddr 2 (.t 9), some (95, true)⟩,
    ⟨some 97, .load false 1 (.t 96), some (95, true)⟩,
    ⟨some 98, .len (.t 97), some (95, true)⟩,
    ⟨some 99, .bin .eql (.t 98) (.k (.int .i64 0)), some (95, true)⟩,
    ⟨some 100, .pick (.t 95) (.t 99) (.k (.bool false)), none⟩,
    ⟨some 101, .mv (.t 100), none⟩,
    ⟨some 102, .call (.k (.fn 11 [] [])) [], some (101, true)⟩,
    ⟨some 103, .pick (.t 101) (.t 102) (.k (.bool false)), none⟩,
    ⟨some 2, .mv (.t 103), none⟩])
  (.ret)))))))
def c11 : ACode :=
  .seq (.reg [⟨some 0, .mv (.k (.bool false)), none⟩])
  (.seq (.reg [⟨some 11, .build [.nils] [], none⟩,
    ⟨some 12, .call (.k (.fn 21 [] [])) [(.t 11)], none⟩,
    ⟨some 10, .mv (.t 12), none⟩,
    ⟨some 13, .ext (.t 10) 0, none⟩,
    ⟨some 14, .ext (.t 10) 1, none⟩,
    ⟨some 1, .mv (.t 13), none⟩,
    ⟨some 2, .mv (.t 14), none⟩])
  (.seq (.seq (.reg [⟨some 15, .mv (.t 2), none⟩,
    ⟨some 16, .bin .neq (.t 15) (.k (.int .i64 0)), none⟩,
    ⟨some 17, .mv (.t 16), none⟩,
    ⟨some 18, .mv (.t 1), some (17, false)⟩,
    ⟨some 19, .call (.k (.fn 36 [] [])) [(.t 18), (.k (.int .i64 0)), (.k (.int .i64 4))], some (17, false)⟩,
    ⟨some 20, .bin .neq (.t 19) (.k (.int .i64 0)), some (17, false)⟩,
    ⟨some 21, .pick (.t 17) (.k (.bool true)) (.t 20), none⟩,
    ⟨some 22, .mv (.t 21), none⟩,
    ⟨some 23, .mv (.t 1), some (22, false)⟩,
    ⟨some 24, .call (.k (.fn 30 [] [])) [(.t 23), (.k (.int .i64 1)), (.k (.int .i64 2))], some (22, false)⟩,
    ⟨some 25, .bin .neq (.t 24) (.k (.int .i64 0)), some (22, false)⟩,
    ⟨some 26, .pick (.t 22) (.k (.bool true)) (.t 25), none⟩,
    ⟨some 27, .mv (.t 26), none⟩,
    ⟨some 28, .mv (.t 1), some (27, false)⟩,
    ⟨some 29, .call (.k (.fn 30 [] [])) [(.t 28), (.k (.int .i64 0)), (.k (.int .i64 2))], some (27, false)⟩,
    ⟨some 30, .bin .neq (.t 29) (.k (.int .i64 9)), some (27, false)⟩,
    ⟨some 31, .pick (.t 27) (.k (.bool true)) (.t 30), none⟩,
    ⟨some 32, .mv (.t 31), none⟩,
    ⟨some 33, .mv (.t 1), some (32, false)⟩,
    ⟨some 34, .call (.k (.fn 28 [] [])) [(.t 33), (.k (.int .i64 64)), (.k (.int .u8 7))], some (32, false)⟩,
    ⟨some 35, .bin .neq (.t 34) (.k (.int .i64 0)), some (32, false)⟩,
    ⟨some 36, .pick (.t 32) (.k (.bool true)) (.t 35), none⟩])
  (.cond (.t 36) (.seq (.reg [⟨some 0, .mv (.k (.bool false)), none⟩])
    (.ret))
    (.skip)))
  (.seq (.reg [⟨some 38, .mv (.t 1), none⟩,
    ⟨some 39, .call (.k (.fn 16 [] [])) [(.t 38), (.k (.int .i64 64))], none⟩,
    ⟨some 37, .mv (.t 39), none⟩,
    ⟨some 40, .ext (.t 37) 0, none⟩,
    ⟨some 41, .ext (.t 37) 1, none⟩,
    ⟨some 3, .mv (.t 40), none⟩,
    ⟨some 4, .mv (.t 41), none⟩])
  (.seq (.reg [⟨some 43, .mv (.t 1), none⟩,
    ⟨some 44, .call (.k (.fn 16 [] [])) [(.t 43), (.k (.int .i64 65))], none⟩,
    ⟨some 42, .mv (.t 44), none⟩,
    ⟨some 45, .ext (.t 42) 0, none⟩,
    ⟨some 46, .ext (.t 42) 1, none⟩,
    ⟨some 5, .mv (.t 45), none⟩,
    ⟨some 6, .mv (.t 46), none⟩])
  (.seq (.reg [⟨some 48, .mv (.t 1), none⟩,
    ⟨some 49, .call (.k (.fn 16 [] [])) [(.t 48), (.k (.int .i64 63))], none⟩,
    ⟨some 47, .mv (.t 49), none⟩,
    ⟨some 50, .ext (.t 47) 0, none⟩,
    ⟨some 51, .ext (.t 47) 1, none⟩,
    ⟨some 7, .mv (.t 50), none⟩,
    ⟨some 8, .mv (.t 51), none⟩])
  (.seq (.seq (.reg [⟨some 52, .mv (.t 3), none⟩,
    ⟨some 53, .bin .neq (.t 52) (.k (.int .u8 7)), none⟩,
    ⟨some 54, .mv (.t 53), none⟩,
    ⟨some 55, .mv (.t 4), some (54, false)⟩,
    ⟨some 56, .bin .neq (.t 55) (.k (.int .i64 0)), some (54, false)⟩,
    ⟨some 57, .pick (.t 54) (.k (.bool true)) (.t 56), none⟩,
    ⟨some 58, .mv (.t 57), none⟩,
    ⟨some 59, .mv (.t 5), some (58, false)⟩,
    ⟨some 60, .bin .neq (.t 59) (.k (.int .u8 0)), some (58, false)⟩,
    ⟨some 61, .pick (.t 58) (.k (.bool true)) (.t 60), none⟩,
    ⟨some 62, .mv (.t 61), none⟩,
    ⟨some 63, .mv (.t 6), some (62, false)⟩,
    ⟨some 64, .bin .neq (.t 63) (.k (.int .i64 0)), some (62, false)⟩,
    ⟨some 65, .pick (.t 62) (.k (.bool true)) (.t 64), none⟩,
    ⟨some 66, .mv (.t 65), none⟩,
    ⟨some 67, .mv (.t 8), some (66, false)⟩,
    ⟨some 68, .bin .neq (.t 67) (.k (.int .i64 61)), some (66, false)⟩,
    ⟨some 69, .pick (.t 66) (.k (.bool true)) (.t 68), none⟩,
    ⟨some 70, .mv (.t 69), none⟩,
    ⟨some 71, .mv (.t 1), some (70, false)⟩,
    ⟨some 72, .call (.k (.fn 34 [] [])) [(.t 71), (.k (.int .i64 0)), (.k (.int .i64 1)), (.k (.bool true))], some (70, false)⟩,
    ⟨some 73, .bin .neq (.t 72) (.k (.int .i64 0)), some (70, false)⟩,
    ⟨some 74, .pick (.t 70) (.k (.bool true)) (.t 73), none⟩,
    ⟨some 75, .mv (.t 74), none⟩,
    ⟨some 76, .mv (.t 1), some (75, false)⟩,
    ⟨some 77, .call (.k (.fn 35 [] [])) [(.t 76), (.k (.int .i64 0)), (.k (.int .i64 4))], some (75, false)⟩,
    ⟨some 78, .bin .neq (.t 77) (.k (.int .i64 9)), some (75, false)⟩,
    ⟨some 79, .pick (.t 75) (.k (.bool true)) (.t 78), none⟩,
    ⟨some 80, .mv (.t 79), none⟩,
    ⟨some 81, .mv (.t 1), some (80, false)⟩,
    ⟨some 82, .call (.k (.fn 29 [] [])) [(.t 81), (.k (.int .i64 1)), (.k (.int .i64 2))], some (80, false)⟩,
    ⟨some 83, .bin .neq (.t 82) (.k (.int .i64 0)), some (80, false)⟩,
    ⟨some 84, .pick (.t 80) (.k (.bool true)) (.t 83), none⟩,
    ⟨some 85, .mv (.t 84), none⟩,
    ⟨some 86, .mv (.t 1), some (85, false)⟩,
    ⟨some 87, .call (.k (.fn 30 [] [])) [(.t 86), (.k (.int .i64 1)), (.k (.int .i64 1))], some (85, false)⟩,
    ⟨some 88, .bin .neq (.t 87) (.k (.int .i64 0)), some (85, false)⟩,
    ⟨some 89, .pick (.t 85) (.k (.bool true)) (.t 88), none⟩])
  (.cond (.t 89) (.seq (.reg [⟨some 0, .mv (.k (.bool false)), none⟩])
    (.ret))
    (.skip)))
  (.seq (.reg [⟨some 91, .mv (.t 1), none⟩,
    ⟨some 92, .call (.k (.fn 16 [] [])) [(.t 91), (.k (.int .i64 64))], none⟩,
    ⟨some 90, .mv (.t 92), none⟩,
    ⟨some 93, .ext (.t 90) 0, none⟩,
    ⟨some 94, .ext (.t 90) 1, none⟩,
    ⟨some 3, .mv (.t 93), none⟩,
    ⟨some 4, .mv (.t 94), none⟩])
  (.seq (.reg [⟨some 96, .mv (.t 1), none⟩,
    ⟨some 97, .call (.k (.fn 18 [] [])) [(.t 96)], none⟩,
    ⟨some 95, .mv (.t 97), none⟩,
    ⟨some 98, .ext (.t 95) 0, none⟩,
    ⟨some 99, .ext (.t 95) 1, none⟩,
    ⟨some 9, .new [(.int .i64 0), (.int .i64 0), (.int .i64 0), (.int .i64 0), (.int .i64 0)], none⟩,
    ⟨none, .store 5 (.t 9) (.t 98), none⟩,
    ⟨some 6, .mv (.t 99), none⟩])
  (.seq (.reg [⟨some 100, .mv (.t 3), none⟩,
    ⟨some 101, .bin .eql (.t 100) (.k (.int .u8 0)), none⟩,
    ⟨some 102, .mv (.t 101), none⟩,
    ⟨some 103, .mv (.t 4), some (102, true)⟩,
    ⟨some 104, .bin .eql (.t 103) (.k (.int .i64 0)), some (102, true)⟩,
    ⟨some 105, .pick (.t 102) (.t 104) (.k (.bool false)), none⟩,
    ⟨some 106, .mv (.t 105), none⟩,
    ⟨some 107, .mv (.t 6), some (106, true)⟩,
    ⟨some 108, .bin .eql (.t 107) (.k (.int .i64 0)), some (106, true)⟩,
    ⟨some 109, .pick (.t 106) (.t 108) (.k (.bool false)), none⟩,
    ⟨some 110, .mv (.t 109), none⟩,
    ⟨some 111, .load true 5 (.t 9), some (110, true)⟩,
    ⟨some 112, .build [(.int .i64 0), (.int .i64 0), (.int .i64 0), (.int .i64 0), (.int .i64 0)] [(0, 1, (.k (.int .i64 1020))), (1, 1, (.k (.int .i64 2))), (2, 1, (.k (.int .i64 1))), (3, 1, (.k (.int .i64 1)))], some (110, true)⟩,
    ⟨some 113, .eqs false [0, 0, 0, 0, 0] (.t 111) (.t 112), some (110, true)⟩,
    ⟨some 114, .pick (.t 110) (.t 113) (.k (.bool false)), none⟩,
    ⟨some 0, .mv (.t 114), none⟩])
  (.ret))))))))))
theorem b11 : Body Try.prog 11 c11 [.tmp 0] 115 := ⟨by kernel_rfl, _, _, Try.func11, rfl, by kernel_rfl, by kernel_rfl, rfl⟩
def c12 : ACode :=
  .seq (.reg [⟨some 1, .box (.t 0), none⟩,
    ⟨some 2, .mv (.k .nilp), none⟩,
    ⟨some 3, .mv (.k (.int .i64 0)), none⟩])
  (.seq (.seq (.reg [⟨some 15, .faddr 3 (.t 1), none⟩,
    ⟨some 16, .load true 15 (.t 15), none⟩,
    ⟨some 17, .call (.k (.fn 37 [] [])) [(.t 16)], none⟩,
    ⟨some 4, .mv (.t 17), none⟩])
  (.seq (.reg [⟨some 18, .mv (.t 4), none⟩,
    ⟨some 19, .bin .neq (.t 18) (.k (.int .i64 0)), none⟩])
  (.cond (.t 19) (.seq (.reg [⟨some 20, .mv (.t 4), none⟩,
      ⟨some 2, .mv (.k .nilp), none⟩,
      ⟨some 3, .mv (.t 20), none⟩])
    (.ret))
    (.skip))))
  (.seq (.reg [⟨some 21, .faddr 3 (.t 1), none⟩,
    ⟨some 22, .load true 15 (.t 21), none⟩,
    ⟨some 23, .build Go.Pol.sysZ [(0, 1, (.k (.bool true))), (67585, 15, (.t 22))], none⟩,
    ⟨some 24, .box (.t 23), none⟩,
    ⟨some 5, .mv (.t 24), none⟩])
  (.seq (.reg [⟨some 25, .mv (.t 5), none⟩,
    ⟨some 26, .faddr 3 (.t 1), none⟩,
    ⟨some 27, .faddr 0 (.t 26), none⟩,
    ⟨some 28, .faddr 0 (.t 27), none⟩,
    ⟨some 29, .load false 1 (.t 28), none⟩,
    ⟨some 30, .call (.k (.fn 38 [] [])) [(.t 29)], none⟩,
    ⟨some 31, .nchk (.t 25), none⟩,
    ⟨some 32, .faddr 67585 (.t 31), none⟩,
    ⟨some 33, .faddr 0 (.t 32), none⟩,
    ⟨some 34, .faddr 0 (.t 33), none⟩,
    ⟨none, .store 1 (.t 34) (.t 30), none⟩])
  (.seq (.reg [⟨some 6, .mv (.k (.int .i64 0)), none⟩,
    ⟨some 7, .mv (.k (.int .i64 0)), none⟩])
  (.seq (.seq (.reg [⟨some 35, .faddr 0 (.t 1), none⟩,
    ⟨some 36, .load false 1 (.t 35), none⟩,
    ⟨some 37, .len (.t 36), none⟩,
    ⟨some 38, .mv (.k (.int .i64 0)), none⟩])
  (.block 0 (.loop (.seq (.reg [⟨some 39, .bin .lss (.t 38) (.t 37), none⟩])
    (.seq (.cond (.t 39) (.skip)
      (.exit 0))
    (.seq (.block 1 (.seq (.reg [⟨some 40, .iaddrS 3 (.t 36) (.t 38), none⟩,
       ⟨some 41, .load true 3 (.t 40), none⟩,
       ⟨some 9, .new [(.int .i64 0), (.int .i64 0), (.int .i64 0)], none⟩,
       ⟨none, .store 3 (.t 9) (.t 41), none⟩])
     (.seq (.seq (.reg [⟨some 42, .faddr 0 (.t 9), none⟩,
       ⟨some 43, .load false 1 (.t 42), none⟩,
       ⟨some 44, .mv (.t 6), none⟩,
       ⟨some 45, .bin .lss (.t 43) (.t 44), none⟩,
       ⟨some 46, .mv (.t 45), none⟩,
       ⟨some 47, .faddr 1 (.t 9), some (46, false)⟩,
       ⟨some 48, .load false 1 (.t 47), some (46, false)⟩,
       ⟨some 49, .bin .lss (.t 48) (.k (.int .i64 1)), some (46, false)⟩,
       ⟨some 50, .pick (.t 46) (.k (.bool true)) (.t 49), none⟩,
       ⟨some 51, .mv (.t 50), none⟩,
       ⟨some 52, .faddr 1 (.t 9), some (51, false)⟩,
       ⟨some 53, .load false 1 (.t 52), some (51, false)⟩,
       ⟨some 54, .faddr 0 (.t 9), some (51, false)⟩,
       ⟨some 55, .load false 1 (.t 54), some (51, false)⟩,
       ⟨some 56, .bin .sub (.k (.int .i64 1024)) (.t 55), some (51, false)⟩,
       ⟨some 57, .bin .gtr (.t 53) (.t 56), some (51, false)⟩,
       ⟨some 58, .pick (.t 51) (.k (.bool true)) (.t 57), none⟩,
       ⟨some 59, .mv (.t 58), none⟩,
       ⟨some 60, .faddr 2 (.t 9), some (59, false)⟩,
       ⟨some 61, .load false 1 (.t 60), some (59, false)⟩,
       ⟨some 62, .bin .lss (.t 61) (.k (.int .i64 1)), some (59, false)⟩,
       ⟨some 63, .pick (.t 59) (.k (.bool true)) (.t 62), none⟩,
       ⟨some 64, .mv (.t 63), none⟩,
       ⟨some 65, .faddr 2 (.t 9), some (64, false)⟩,
       ⟨some 66, .load false 1 (.t 65), some (64, false)⟩,
       ⟨some 67, .bin .gtr (.t 66) (.k (.int .i64 3)), some (64, false)⟩,
       ⟨some 68, .pick (.t 64) (.k (.bool true)) (.t 67), none⟩,
       ⟨some 69, .mv (.t 68), none⟩,
       ⟨some 70, .faddr 0 (.t 9), some (69, false)⟩,
       ⟨some 71, .load false 1 (.t 70), some (69, false)⟩,
       ⟨some 72, .mv (.t 6), some (69, false)⟩,
       ⟨some 73, .bin .eql (.t 71) (.t 72), some (69, false)⟩,
       ⟨some 74, .mv (.t 73), some (69, false)⟩,
       ⟨some 75, .faddr 2 (.t 9), some (74, true)⟩,
       ⟨some 76, .load false 1 (.t 75), some (74, true)⟩,
       ⟨some 77, .mv (.t 7), some (74, true)⟩,
       ⟨some 78, .bin .eql (.t 76) (.t 77), some (74, true)⟩,
       ⟨some 79, .pick (.t 74) (.t 78) (.k (.bool false)), some (69, false)⟩,
       ⟨some 80, .pick (.t 69) (.k (.bool true)) (.t 79), none⟩])
     (.cond (.t 80) (.seq (.reg [⟨some 2, .mv (.k .nilp), none⟩,
         ⟨some 3, .mv (.k (.int .i64 6)), none⟩])
       (.ret))
       (.skip)))
     (.seq (.seq (.reg [⟨some 81, .faddr 1 (.t 9), none⟩,
       ⟨some 82, .load false 1 (.t 81), none⟩,
       ⟨some 83, .mv (.k (.int .i64 0)), none⟩])
     (.block 2 (.loop (.seq (.reg [⟨some 84, .bin .lss (.t 83) (.t 82), none⟩])
       (.seq (.cond (.t 84) (.skip)
         (.exit 2))
       (.seq (.block 3 (.seq (.reg [⟨some 85, .mv (.t 83), none⟩,
          ⟨some 10, .mv (.t 85), none⟩])
        (.regD [⟨some 86, .mv (.t 5), none⟩,
          ⟨some 87, .faddr 0 (.t 9), none⟩,
          ⟨some 88, .load false 1 (.t 87), none⟩,
          ⟨some 89, .mv (.t 10), none⟩,
          ⟨some 90, .bin .add (.t 88) (.t 89), none⟩,
          ⟨some 91, .faddr 2 (.t 9), none⟩,
          ⟨some 92, .load false 1 (.t 91), none⟩,
          ⟨some 93, .nchk (.t 86), none⟩,
          ⟨some 94, .faddr 1 (.t 93), none⟩,
          ⟨some 95, .iaddrA 1024 66 (.t 94) (.t 90), none⟩,
          ⟨some 96, .faddr 0 (.t 95), none⟩,
          ⟨none, .store 1 (.t 96) (.t 92), none⟩] [[], [], [1], [], [2, 3], [], [5], [0], [7], [8, 4, 0, 1, 2, 3, 4, 5, 6], [9, 0, 1, 2, 3, 4, 5, 6], [10, 6, 0, 1, 2, 3, 4, 5, 6]])))
       (.reg [⟨some 97, .bin .add (.t 83) (.k (.int .i64 1)), none⟩,
         ⟨some 83, .mv (.t 97), none⟩])))))))
     (.regD [⟨some 98, .faddr 0 (.t 9), none⟩,
       ⟨some 99, .load false 1 (.t 98), none⟩,
       ⟨some 100, .faddr 1 (.t 9), none⟩,
       ⟨some 101, .load false 1 (.t 100), none⟩,
       ⟨some 102, .bin .add (.t 99) (.t 101), none⟩,
       ⟨some 103, .faddr 2 (.t 9), none⟩,
       ⟨some 104, .load false 1 (.t 103), none⟩,
       ⟨some 6, .mv (.t 102), none⟩,
       ⟨some 7, .mv (.t 104), none⟩] [[], [0], [], [2], [1, 3], [], [5], [4, 0, 1, 2, 3, 4], [6, 7, 0, 1, 2, 3, 4, 5, 6, 7]])))))
    (.reg [⟨some 105, .bin .add (.t 38) (.k (.int .i64 1)), none⟩,
      ⟨some 38, .mv (.t 105), none⟩])))))))
  (.seq (.seq (.reg [⟨some 106, .faddr 1 (.t 1), none⟩,
    ⟨some 107, .load false 1 (.t 106), none⟩,
    ⟨some 108, .len (.t 107), none⟩,
    ⟨some 109, .mv (.k (.int .i64 0)), none⟩])
  (.block 4 (.loop (.seq (.reg [⟨some 110, .bin .lss (.t 109) (.t 108), none⟩])
    (.seq (.cond (.t 110) (.skip)
      (.exit 4))
    (.seq (.block 5 (.seq (.reg [⟨some 111, .mv (.t 109), none⟩,
       ⟨some 112, .iaddrS 1 (.t 107) (.t 109), none⟩,
       ⟨some 113, .load false 1 (.t 112), none⟩,
       ⟨some 11, .mv (.t 111), none⟩,
       ⟨some 12, .mv (.t 113), none⟩])
     (.seq (.seq (.reg [⟨some 114, .mv (.t 11), none⟩,
       ⟨some 115, .bin .gtr (.t 114) (.k (.int .i64 0)), none⟩,
       ⟨some 116, .mv (.t 115), none⟩,
       ⟨some 117, .faddr 1 (.t 1), some (116, true)⟩,
       ⟨some 118, .load false 1 (.t 117), some (116, true)⟩,
       ⟨some 119, .mv (.t 11), some (116, true)⟩,
       ⟨some 120, .bin .sub (.t 119) (.k (.int .i64 1)), some (116, true)⟩,
       ⟨some 121, .iaddrS 1 (.t 118) (.t 120), some (116, true)⟩,
       ⟨some 122, .load false 1 (.t 121), some (116, true)⟩,
       ⟨some 123, .mv (.t 12), some (116, true)⟩,
       ⟨some 124, .bin .geq (.t 122) (.t 123), some (116, true)⟩,
       ⟨some 125, .pick (.t 116) (.t 124) (.k (.bool false)), none⟩,
       ⟨some 126, .mv (.t 125), none⟩,
       ⟨some 127, .mv (.t 12), some (126, false)⟩,
       ⟨some 128, .call (.k (.fn 39 [] [])) [(.t 127)], some (126, false)⟩,
       ⟨some 129, .un .not (.t 128), some (126, false)⟩,
       ⟨some 130, .pick (.t 126) (.k (.bool true)) (.t 129), none⟩,
       ⟨some 131, .mv (.t 130), none⟩,
       ⟨some 132, .mv (.t 5), some (131, false)⟩,
       ⟨some 133, .mv (.t 12), some (131, false)⟩,
       ⟨some 134, .call (.k (.fn 40 [] [])) [(.t 132), (.t 133), (.k (.int .i64 16)), (.k (.fn 41 [] []))], some (131, false)⟩,
       ⟨some 135, .un .not (.t 134), some (131, false)⟩,
       ⟨some 136, .pick (.t 131) (.k (.bool true)) (.t 135), none⟩])
     (.cond (.t 136) (.seq (.reg [⟨some 2, .mv (.k .nilp), none⟩,
         ⟨some 3, .mv (.k (.int .i64 6)), none⟩])
       (.ret))
       (.skip)))
     (.reg [⟨some 137, .mv (.t 5), none⟩,
       ⟨some 138, .mv (.t 12), none⟩,
       ⟨some 139, .call (.k (.fn 42 [] [])) [(.t 137), (.t 138), (.k (.int .i64 16)), (.k (.fn 43 [] []))], none⟩]))))
    (.reg [⟨some 140, .bin .add (.t 109) (.k (.int .i64 1)), none⟩,
      ⟨some 109, .mv (.t 140), none⟩])))))))
  (.seq (.seq (.reg [⟨some 141, .faddr 2 (.t 1), none⟩,
    ⟨some 142, .load false 1 (.t 141), none⟩,
    ⟨some 143, .len (.t 142), none⟩,
    ⟨some 144, .mv (.k (.int .i64 0)), none⟩])
  (.block 6 (.loop (.seq (.reg [⟨some 145, .bin .lss (.t 144) (.t 143), none⟩])
    (.seq (.cond (.t 145) (.skip)
      (.exit 6))
    (.seq (.block 7 (.seq (.reg [⟨some 146, .mv (.t 144), none⟩,
       ⟨some 147, .iaddrS 65 (.t 142) (.t 144), none⟩,
       ⟨some 148, .load true 65 (.t 147), none⟩,
       ⟨some 14, .new [(.int .i64 0), (.int .u8 0), (.int .u8 0), (.int .u8 0), (.int .u8 0), (.int .u8 0), (.int .u8 0), (.int .u8 0), (.int .u8 0), (.int .u8 0), (.int .u8 0), (.int .u8 0), (.int .u8 0), (.int .u8 0), (.int .u8 0), (.int .u8 0), (.int .u8 0), (.int .u8 0), (.int .u8 0), (.int .u8 0), (.int .u8 0), (.int .u8 0), (.int .u8 0), (.int .u8 0), (.int .u8 0), (.int .u8 0), (.int .u8 0), (.int .u8 0), (.int .u8 0), (.int .u8 0), (.int .u8 0), (.int .u8 0), (.int .u8 0), (.int .u8 0), (.int .u8 0), (.int .u8 0), (.int .u8 0), (.int .u8 0), (.int .u8 0), (.int .u8 0), (.int .u8 0), (.int .u8 0), (.int .u8 0), (.int .u8 0), (.int .u8 0), (.int .u8 0), (.int .u8 0), (.int .u8 0), (.int .u8 0), (.int .u8 0), (.int .u8 0), (.int .u8 0), (.int .u8 0), (.int .u8 0), (.int .u8 0), (.int .u8 0), (.int .u8 0), (.int .u8 0), (.int .u8 0), (.int .u8 0), (.int .u8 0), (.int .u8 0), (.int .u8 0), (.int .u8 0), (.int .u8 0)], none⟩,
       ⟨some 13, .mv (.t 146), none⟩,
       ⟨none, .store 65 (.t 14) (.t 148), none⟩])
     (.seq (.seq (.regD [⟨some 149, .mv (.t 13), none⟩,
       ⟨some 150, .bin .gtr (.t 149) (.k (.int .i64 0)), none⟩,
       ⟨some 151, .mv (.t 150), none⟩,
       ⟨some 152, .faddr 2 (.t 1), some (151, true)⟩,
       ⟨some 153, .load false 1 (.t 152), some (151, true)⟩,
       ⟨some 154, .mv (.t 13), some (151, true)⟩,
       ⟨some 155, .bin .sub (.t 154) (.k (.int .i64 1)), some (151, true)⟩,
       ⟨some 156, .iaddrS 65 (.t 153) (.t 155), some (151, true)⟩,
       ⟨some 157, .faddr 0 (.t 156), some (151, true)⟩,
       ⟨some 158, .load false 1 (.t 157), some (151, true)⟩,
       ⟨some 159, .faddr 0 (.t 14), some (151, true)⟩,
       ⟨some 160, .load false 1 (.t 159), some (151, true)⟩,
       ⟨some 161, .bin .geq (.t 158) (.t 160), some (151, true)⟩,
       ⟨some 162, .pick (.t 151) (.t 161) (.k (.bool false)), none⟩,
       ⟨some 163, .mv (.t 162), none⟩,
       ⟨some 164, .faddr 0 (.t 14), some (163, false)⟩,
       ⟨some 165, .load false 1 (.t 164), some (163, false)⟩,
       ⟨some 166, .bin .lss (.t 165) (.k (.int .i64 0)), some (163, false)⟩,
       ⟨some 167, .pick (.t 163) (.k (.bool true)) (.t 166), none⟩,
       ⟨some 168, .mv (.t 167), none⟩,
       ⟨some 169, .faddr 0 (.t 14), some (168, false)⟩,
       ⟨some 170, .load false 1 (.t 169), some (168, false)⟩,
       ⟨some 171, .bin .geq (.t 170) (.k (.int .i64 1024)), some (168, false)⟩,
       ⟨some 172, .pick (.t 168) (.k (.bool true)) (.t 171), none⟩,
       ⟨some 173, .mv (.t 172), none⟩,
       ⟨some 174, .mv (.t 5), some (173, false)⟩,
       ⟨some 175, .faddr 0 (.t 14), some (173, false)⟩,
       ⟨some 176, .load false 1 (.t 175), some (173, false)⟩,
       ⟨some 177, .nchk (.t 174), some (173, false)⟩,
       ⟨some 178, .faddr 1 (.t 177), some (173, false)⟩,
       ⟨some 179, .iaddrA 1024 66 (.t 178) (.t 176), some (173, false)⟩,
       ⟨some 180, .faddr 0 (.t 179), some (173, false)⟩,
       ⟨some 181, .load false 1 (.t 180), some (173, false)⟩,
       ⟨some 182, .bin .neq (.t 181) (.k (.int .i64 2)), some (173, false)⟩,
       ⟨some 183, .pick (.t 173) (.k (.bool true)) (.t 182), none⟩,
       ⟨some 184, .mv (.t 183), none⟩,
       ⟨some 185, .faddr 1 (.t 14), some (184, false)⟩,
       ⟨some 186, .load true 64 (.t 185), some (184, false)⟩,
       ⟨some 187, .build (List.replicate 64 (.int .u8 0)) [], some (184, false)⟩,
       ⟨some 188, .eqs false (List.replicate 64 0) (.t 186) (.t 187), some (184, false)⟩,
       ⟨some 189, .pick (.t 184) (.k (.bool true)) (.t 188), none⟩] [[], [0], [1], [2], [3, 2], [2], [5, 2], [4, 6, 2], [7, 2], [8, 2], [2], [10, 2], [9, 11, 2], [2, 12], [13, 2], [14], [15, 14], [16, 14], [14, 17], [18, 14], [19], [20, 19], [21, 19], [19, 22], [23, 19], [24], [24], [26, 24], [25, 24], [28, 24], [29, 27, 24], [30, 24], [31, 24], [32, 24], [24, 33], [34, 24], [35], [36, 35], [35], [37, 38, 35], [35, 39]])
     (.cond (.t 189) (.seq (.reg [⟨some 2, .mv (.k .nilp), none⟩,
         ⟨some 3, .mv (.k (.int .i64 6)), none⟩])
       (.ret))
       (.skip)))
     (.regD [⟨some 190, .mv (.t 5), none⟩,
       ⟨some 191, .faddr 0 (.t 14), none⟩,
       ⟨some 192, .load false 1 (.t 191), none⟩,
       ⟨some 193, .faddr 1 (.t 14), none⟩,
       ⟨some 194, .load true 64 (.t 193), none⟩,
       ⟨some 195, .nchk (.t 190), none⟩,
       ⟨some 196, .faddr 1 (.t 195), none⟩,
       ⟨some 197, .iaddrA 1024 66 (.t 196) (.t 192), none⟩,
       ⟨some 198, .faddr 2 (.t 197), none⟩,
       ⟨none, .store 64 (.t 198) (.t 194), none⟩] [[], [], [1], [], [3], [0], [5], [6, 2, 0, 1, 2, 3, 4], [7, 0, 1, 2, 3, 4], [8, 4, 0, 1, 2, 3, 4]]))))
    (.reg [⟨some 199, .bin .add (.t 144) (.k (.int .i64 1)), none⟩,
      ⟨some 144, .mv (.t 199), none⟩])))))))
  (.seq (.reg [⟨some 200, .mv (.t 5), none⟩,
    ⟨some 2, .mv (.t 200), none⟩,
    ⟨some 3, .mv (.k (.int .i64 0)), none⟩])
  (.ret)))))))))
theorem b12 : Body Try.prog 12 c12 [.tmp 2, .tmp 3] 201 := ⟨by kernel_rfl, _, _, Try.func12, rfl, ccodeZ_ok Zs_ok (by kernel_rfl), by kernel_rfl, rfl⟩
def c13 : ACode :=
  .seq (.reg [⟨some 1, .box (.t 0), none⟩,
    ⟨some 2, .mv (.k .nilp), none⟩,
    ⟨some 3, .mv (.k (.int .i64 0)), none⟩])
  (.seq (.reg [⟨some 11, .faddr 3 (.t 1), none⟩,
    ⟨some 12, .load true 15 (.t 11), none⟩,
    ⟨some 13, .call (.k (.fn 44 [] [])) [(.t 12)], none⟩,
    ⟨some 4, .mv (.t 13), none⟩])
  (.seq (.seq (.reg [⟨some 14, .mv (.t 4), none⟩,
    ⟨some 15, .bin .neq (.t 14) (.k (.int .i64 0)), none⟩])
  (.cond (.t 15) (.seq (.reg [⟨some 16, .mv (.t 4), none⟩,
      ⟨some 2, .mv (.k .nilp), none⟩,
      ⟨some 3, .mv (.t 16), none⟩])
    (.ret))
    (.skip)))
  (.seq (.reg [⟨some 17, .faddr 3 (.t 1), none⟩,
    ⟨some 18, .load true 15 (.t 17), none⟩,
    ⟨some 19, .build Go.Pol.refZ [(66624, 15, (.t 18))], none⟩,
    ⟨some 20, .box (.t 19), none⟩,
    ⟨some 5, .mv (.t 20), none⟩])
  (.seq (.seq (.reg [⟨some 6, .mv (.k (.int .i64 0)), none⟩])
  (.block 0 (.loop (.seq (.seq (.reg [⟨some 21, .mv (.t 6), none⟩,
      ⟨some 22, .faddr 0 (.t 1), none⟩,
      ⟨some 23, .load false 1 (.t 22), none⟩,
      ⟨some 24, .len (.t 23), none⟩,
      ⟨some 25, .bin .lss (.t 21) (.t 24), none⟩])
    (.cond (.t 25) (.skip)
      (.exit 0)))
    (.seq (.block 1 (.seq (.reg [⟨some 28, .faddr 0 (.t 1), none⟩,
       ⟨some 29, .load false 1 (.t 28), none⟩,
       ⟨some 30, .mv (.t 6), none⟩,
       ⟨some 31, .iaddrS 3 (.t 29) (.t 30), none⟩,
       ⟨some 32, .load true 3 (.t 31), none⟩,
       ⟨some 7, .new [(.int .i64 0), (.int .i64 0), (.int .i64 0)], none⟩,
       ⟨none, .store 3 (.t 7) (.t 32), none⟩])
     (.seq (.seq (.reg [⟨some 33, .faddr 0 (.t 7), none⟩,
       ⟨some 34, .load false 1 (.t 33), none⟩,
       ⟨some 35, .call (.k (.fn 45 [] [])) [(.t 34)], none⟩,
       ⟨some 36, .un .not (.t 35), none⟩,
       ⟨some 37, .mv (.t 36), none⟩,
       ⟨some 38, .faddr 1 (.t 7), some (37, false)⟩,
       ⟨some 39, .load false 1 (.t 38), some (37, false)⟩,
       ⟨some 40, .bin .lss (.t 39) (.k (.int .i64 1)), some (37, false)⟩,
       ⟨some 41, .pick (.t 37) (.k (.bool true)) (.t 40), none⟩,
       ⟨some 42, .mv (.t 41), none⟩,
       ⟨some 43, .faddr 1 (.t 7), some (42, false)⟩,
       ⟨some 44, .load false 1 (.t 43), some (42, false)⟩,
       ⟨some 45, .faddr 0 (.t 7), some (42, false)⟩,
       ⟨some 46, .load false 1 (.t 45), some (42, false)⟩,
       ⟨some 47, .bin .sub (.k (.int .i64 1024)) (.t 46), some (42, false)⟩,
       ⟨some 48, .bin .gtr (.t 44) (.t 47), some (42, false)⟩,
       ⟨some 49, .pick (.t 42) (.k (.bool true)) (.t 48), none⟩,
       ⟨some 50, .mv (.t 49), none⟩,
       ⟨some 51, .faddr 2 (.t 7), some (50, false)⟩,
       ⟨some 52, .load false 1 (.t 51), some (50, false)⟩,
       ⟨some 53, .bin .lss (.t 52) (.k (.int .i64 1)), some (50, false)⟩,
       ⟨some 54, .pick (.t 50) (.k (.bool true)) (.t 53), none⟩,
       ⟨some 55, .mv (.t 54), none⟩,
       ⟨some 56, .faddr 2 (.t 7), some (55, false)⟩,
       ⟨some 57, .load false 1 (.t 56), some (55, false)⟩,
       ⟨some 58, .bin .gtr (.t 57) (.k (.int .i64 3)), some (55, false)⟩,
       ⟨some 59, .pick (.t 55) (.k (.bool true)) (.t 58), none⟩])
     (.cond (.t 59) (.seq (.reg [⟨some 2, .mv (.k .nilp), none⟩,
         ⟨some 3, .mv (.k (.int .i64 6)), none⟩])
       (.ret))
       (.skip)))
     (.seq (.reg [⟨some 60, .faddr 0 (.t 7), none⟩,
       ⟨some 61, .load false 1 (.t 60), none⟩,
       ⟨some 8, .mv (.t 61), none⟩])
     (.block 2 (.loop (.seq (.seq (.reg [⟨some 62, .mv (.t 8), none⟩,
         ⟨some 63, .faddr 0 (.t 7), none⟩,
         ⟨some 64, .load false 1 (.t 63), none⟩,
         ⟨some 65, .faddr 1 (.t 7), none⟩,
         ⟨some 66, .load false 1 (.t 65), none⟩,
         ⟨some 67, .bin .add (.t 64) (.t 66), none⟩,
         ⟨some 68, .bin .lss (.t 62) (.t 67), none⟩])
       (.cond (.t 68) (.skip)
         (.exit 2)))
       (.seq (.block 3 (.regD [⟨some 71, .mv (.t 5), none⟩,
          ⟨some 72, .mv (.t 8), none⟩,
          ⟨some 73, .faddr 2 (.t 7), none⟩,
          ⟨some 74, .load false 1 (.t 73), none⟩,
          ⟨some 75, .nchk (.t 71), none⟩,
          ⟨some 76, .faddr 0 (.t 75), none⟩,
          ⟨some 77, .iaddrA 1024 1 (.t 76) (.t 72), none⟩,
          ⟨none, .store 1 (.t 77) (.t 74), none⟩] [[], [], [], [2], [0], [4], [5, 1, 0, 1, 2, 3], [6, 3, 0, 1, 2, 3]]))
       (.reg [⟨some 69, .mv (.t 8), none⟩,
         ⟨some 70, .bin .add (.t 69) (.k (.int .i64 1)), none⟩,
         ⟨some 8, .mv (.t 70), none⟩])))))))))
    (.reg [⟨some 26, .mv (.t 6), none⟩,
      ⟨some 27, .bin .add (.t 26) (.k (.int .i64 1)), none⟩,
      ⟨some 6, .mv (.t 27), none⟩]))))))
  (.seq (.seq (.reg [⟨some 9, .mv (.k (.int .i64 0)), none⟩])
  (.block 4 (.loop (.seq (.seq (.reg [⟨some 78, .mv (.t 9), none⟩,
      ⟨some 79, .faddr 1 (.t 1), none⟩,
      ⟨some 80, .load false 1 (.t 79), none⟩,
      ⟨some 81, .len (.t 80), none⟩,
      ⟨some 82, .bin .lss (.t 78) (.t 81), none⟩])
    (.cond (.t 82) (.skip)
      (.exit 4)))
    (.seq (.block 5 (.seq (.seq (.reg [⟨some 85, .faddr 1 (.t 1), none⟩,
       ⟨some 86, .load false 1 (.t 85), none⟩,
       ⟨some 87, .mv (.t 9), none⟩,
       ⟨some 88, .iaddrS 1 (.t 86) (.t 87), none⟩,
       ⟨some 89, .load false 1 (.t 88), none⟩,
       ⟨some 90, .call (.k (.fn 45 [] [])) [(.t 89)], none⟩,
       ⟨some 91, .un .not (.t 90), none⟩,
       ⟨some 92, .mv (.t 91), none⟩,
       ⟨some 93, .faddr 1 (.t 1), some (92, false)⟩,
       ⟨some 94, .load false 1 (.t 93), some (92, false)⟩,
       ⟨some 95, .mv (.t 9), some (92, false)⟩,
       ⟨some 96, .iaddrS 1 (.t 94) (.t 95), some (92, false)⟩,
       ⟨some 97, .load false 1 (.t 96), some (92, false)⟩,
       ⟨some 98, .bin .rem (.t 97) (.k (.int .i64 16)), some (92, false)⟩,
       ⟨some 99, .bin .neq (.t 98) (.k (.int .i64 0)), some (92, false)⟩,
       ⟨some 100, .pick (.t 92) (.k (.bool true)) (.t 99), none⟩,
       ⟨some 101, .mv (.t 100), none⟩,
       ⟨some 102, .mv (.t 5), some (101, false)⟩,
       ⟨some 103, .faddr 1 (.t 1), some (101, false)⟩,
       ⟨some 104, .load false 1 (.t 103), some (101, false)⟩,
       ⟨some 105, .mv (.t 9), some (101, false)⟩,
       ⟨some 106, .iaddrS 1 (.t 104) (.t 105), some (101, false)⟩,
       ⟨some 107, .load false 1 (.t 106), some (101, false)⟩,
       ⟨some 108, .call (.k (.fn 46 [] [])) [(.t 102), (.t 107), (.k (.int .i64 16)), (.k (.int .i64 2))], some (101, false)⟩,
       ⟨some 109, .un .not (.t 108), some (101, false)⟩,
       ⟨some 110, .pick (.t 101) (.k (.bool true)) (.t 109), none⟩])
     (.cond (.t 110) (.seq (.reg [⟨some 2, .mv (.k .nilp), none⟩,
         ⟨some 3, .mv (.k (.int .i64 6)), none⟩])
       (.ret))
       (.skip)))
     (.regD [⟨some 111, .mv (.t 5), none⟩,
       ⟨some 112, .faddr 1 (.t 1), none⟩,
       ⟨some 113, .load false 1 (.t 112), none⟩,
       ⟨some 114, .mv (.t 9), none⟩,
       ⟨some 115, .iaddrS 1 (.t 113) (.t 114), none⟩,
       ⟨some 116, .load false 1 (.t 115), none⟩,
       ⟨some 117, .bin .quo (.t 116) (.k (.int .i64 16)), none⟩,
       ⟨some 118, .nchk (.t 111), none⟩,
       ⟨some 119, .faddr 1024 (.t 118), none⟩,
       ⟨some 120, .iaddrA 64 1 (.t 119) (.t 117), none⟩,
       ⟨none, .store 1 (.t 120) (.k (.bool true)), none⟩] [[], [], [1], [], [2, 3], [4], [5], [0], [7], [8, 6, 0, 1, 2, 3, 4, 5, 6], [9, 0, 1, 2, 3, 4, 5, 6]])))
    (.reg [⟨some 83, .mv (.t 9), none⟩,
      ⟨some 84, .bin .add (.t 83) (.k (.int .i64 1)), none⟩,
      ⟨some 9, .mv (.t 84), none⟩]))))))
  (.seq (.seq (.reg [⟨some 10, .mv (.k (.int .i64 0)), none⟩])
  (.block 6 (.loop (.seq (.seq (.reg [⟨some 121, .mv (.t 10), none⟩,
      ⟨some 122, .faddr 2 (.t 1), none⟩,
      ⟨some 123, .load false 1 (.t 122), none⟩,
      ⟨some 124, .len (.t 123), none⟩,
      ⟨some 125, .bin .lss (.t 121) (.t 124), none⟩])
    (.cond (.t 125) (.skip)
      (.exit 6)))
    (.seq (.block 7 (.seq (.seq (.reg [⟨some 128, .faddr 2 (.t 1), none⟩,
       ⟨some 129, .load false 1 (.t 128), none⟩,
       ⟨some 130, .mv (.t 10), none⟩,
       ⟨some 131, .iaddrS 65 (.t 129) (.t 130), none⟩,
       ⟨some 132, .faddr 0 (.t 131), none⟩,
       ⟨some 133, .load false 1 (.t 132), none⟩,
       ⟨some 134, .call (.k (.fn 45 [] [])) [(.t 133)], none⟩,
       ⟨some 135, .un .not (.t 134), none⟩])
     (.cond (.t 135) (.seq (.reg [⟨some 2, .mv (.k .nilp), none⟩,
         ⟨some 3, .mv (.k (.int .i64 6)), none⟩])
       (.ret))
       (.skip)))
     (.regD [⟨some 136, .mv (.t 5), none⟩,
       ⟨some 137, .faddr 2 (.t 1), none⟩,
       ⟨some 138, .load false 1 (.t 137), none⟩,
       ⟨some 139, .mv (.t 10), none⟩,
       ⟨some 140, .iaddrS 65 (.t 138) (.t 139), none⟩,
       ⟨some 141, .faddr 0 (.t 140), none⟩,
       ⟨some 142, .load false 1 (.t 141), none⟩,
       ⟨some 143, .faddr 2 (.t 1), none⟩,
       ⟨some 144, .load false 1 (.t 143), none⟩,
       ⟨some 145, .mv (.t 10), none⟩,
       ⟨some 146, .iaddrS 65 (.t 144) (.t 145), none⟩,
       ⟨some 147, .faddr 1 (.t 146), none⟩,
       ⟨some 148, .load true 64 (.t 147), none⟩,
       ⟨some 149, .nchk (.t 136), none⟩,
       ⟨some 150, .faddr 1088 (.t 149), none⟩,
       ⟨some 151, .iaddrA 1024 64 (.t 150) (.t 142), none⟩,
       ⟨none, .store 64 (.t 151) (.t 148), none⟩] [[], [], [1], [], [2, 3], [4], [5], [], [7], [], [8, 9], [10], [11], [0], [13], [14, 6, 0, 1, 2, 3, 4, 5, 6, 7, 8, 9, 10, 11, 12], [15, 12, 0, 1, 2, 3, 4, 5, 6, 7, 8, 9, 10, 11, 12]])))
    (.reg [⟨some 126, .mv (.t 10), none⟩,
      ⟨some 127, .bin .add (.t 126) (.k (.int .i64 1)), none⟩,
      ⟨some 10, .mv (.t 127), none⟩]))))))
  (.seq (.seq (.regD [⟨some 152, .mv (.t 5), none⟩,
    ⟨some 153, .call (.k (.fn 24 [] [])) [(.t 152)], none⟩,
    ⟨some 154, .load true 18 (.t 1), none⟩,
    ⟨some 155, .call (.k (.fn 14 [] [])) [(.t 153), (.t 154)], none⟩,
    ⟨some 156, .un .not (.t 155), none⟩] [[], [0], [], [1, 2, 1], [3]])
  (.cond (.t 156) (.seq (.reg [⟨some 2, .mv (.k .nilp), none⟩,
      ⟨some 3, .mv (.k (.int .i64 6)), none⟩])
    (.ret))
    (.skip)))
  (.seq (.reg [⟨some 157, .mv (.t 5), none⟩,
    ⟨some 2, .mv (.t 157), none⟩,
    ⟨some 3, .mv (.k (.int .i64 0)), none⟩])
  (.ret)))))))))
theorem b13 : Body Try.prog 13 c13 [.tmp 2, .tmp 3] 158 := ⟨by kernel_rfl, _, _, Try.func13, rfl, ccodeZ_ok Zs_ok (by kernel_rfl), by kernel_rfl, rfl⟩
def c14 : ACode :=
  .seq (.reg [⟨some 2, .box (.t 0), none⟩,
    ⟨some 3, .box (.t 1), none⟩,
    ⟨some 4, .mv (.k (.bool false)), none⟩])
  (.seq (.seq (.reg [⟨some 8, .faddr 0 (.t 2), none⟩,
    ⟨some 9, .load false 1 (.t 8), none⟩,
    ⟨some 10, .len (.t 9), none⟩,
    ⟨some 11, .faddr 0 (.t 3), none⟩,
    ⟨some 12, .load false 1 (.t 11), none⟩,
    ⟨some 13, .len (.t 12), none⟩,
    ⟨some 14, .bin .neq (.t 10) (.t 13), none⟩,
    ⟨some 15, .mv (.t 14), none⟩,
    ⟨some 16, .faddr 1 (.t 2), some (15, false)⟩,
    ⟨some 17, .load false 1 (.t 16), some (15, false)⟩,
    ⟨some 18, .len (.t 17), some (15, false)⟩,
    ⟨some 19, .faddr 1 (.t 3), some (15, false)⟩,
    ⟨some 20, .load false 1 (.t 19), some (15, false)⟩,
    ⟨some 21, .len (.t 20), some (15, false)⟩,
    ⟨some 22, .bin .neq (.t 18) (.t 21), some (15, false)⟩,
    ⟨some 23, .pick (.t 15) (.k (.bool true)) (.t 22), none⟩,
    ⟨some 24, .mv (.t 23), none⟩,
    ⟨some 25, .faddr 2 (.t 2), some (24, false)⟩,
    ⟨some 26, .load false 1 (.t 25), some (24, false)⟩,
    ⟨some 27, .len (.t 26), some (24, false)⟩,
    ⟨some 28, .faddr 2 (.t 3), some (24, false)⟩,
    ⟨some 29, .load false 1 (.t 28), some (24, false)⟩,
    ⟨some 30, .len (.t 29), some (24, false)⟩,
    ⟨some 31, .bin .neq (.t 27) (.t 30), some (24, false)⟩,
    ⟨some 32, .pick (.t 24) (.k (.bool true)) (.t 31), none⟩,
    ⟨some 33, .mv (.t 32), none⟩,
    ⟨some 34, .faddr 3 (.t 2), some (33, false)⟩,
    ⟨some 35, .load true 15 (.t 34), some (33, false)⟩,
    ⟨some 36, .faddr 3 (.t 3), some (33, false)⟩,
    ⟨some 37, .load true 15 (.t 36), some (33, false)⟩,
    ⟨some 38, .call (.k (.fn 31 [] [])) [(.t 35), (.t 37)], some (33, false)⟩,
    ⟨some 39, .un .not (.t 38), some (33, false)⟩,
    ⟨some 40, .pick (.t 33) (.k (.bool true)) (.t 39), none⟩])
  (.cond (.t 40) (.seq (.reg [⟨some 4, .mv (.k (.bool false)), none⟩])
    (.ret))
    (.skip)))
  (.seq (.seq (.reg [⟨some 5, .mv (.k (.int .i64 0)), none⟩])
  (.block 0 (.loop (.seq (.seq (.reg [⟨some 41, .mv (.t 5), none⟩,
      ⟨some 42, .faddr 0 (.t 2), none⟩,
      ⟨some 43, .load false 1 (.t 42), none⟩,
      ⟨some 44, .len (.t 43), none⟩,
      ⟨some 45, .bin .lss (.t 41) (.t 44), none⟩])
    (.cond (.t 45) (.skip)
      (.exit 0)))
    (.seq (.block 1 (.seq (.regD [⟨some 48, .faddr 0 (.t 2), none⟩,
       ⟨some 49, .load false 1 (.t 48), none⟩,
       ⟨some 50, .mv (.t 5), none⟩,
       ⟨some 51, .iaddrS 3 (.t 49) (.t 50), none⟩,
       ⟨some 52, .load true 3 (.t 51), none⟩,
       ⟨some 53, .faddr 0 (.t 3), none⟩,
       ⟨some 54, .load false 1 (.t 53), none⟩,
       ⟨some 55, .mv (.t 5), none⟩,
       ⟨some 56, .iaddrS 3 (.t 54) (.t 55), none⟩,
       ⟨some 57, .load true 3 (.t 56), none⟩,
       ⟨some 58, .eqs true [0, 0, 0] (.t 52) (.t 57), none⟩] [[], [0], [], [1, 2], [3], [], [5], [], [6, 7], [8], [4, 9]])
     (.cond (.t 58) (.seq (.reg [⟨some 4, .mv (.k (.bool false)), none⟩])
       (.ret))
       (.skip))))
    (.reg [⟨some 46, .mv (.t 5), none⟩,
      ⟨some 47, .bin .add (.t 46) (.k (.int .i64 1)), none⟩,
      ⟨some 5, .mv (.t 47), none⟩]))))))
  (.seq (.seq (.reg [⟨some 6, .mv (.k (.int .i64 0)), none⟩])
  (.block 2 (.loop (.seq (.seq (.reg [⟨some 59, .mv (.t 6), none⟩,
      ⟨some 60, .faddr 1 (.t 2), none⟩,
      ⟨some 61, .load false 1 (.t 60), none⟩,
      ⟨some 62, .len (.t 61), none⟩,
      ⟨some 63, .bin .lss (.t 59) (.t 62), none⟩])
    (.cond (.t 63) (.skip)
      (.exit 2)))
    (.seq (.block 3 (.seq (.regD [⟨some 66, .faddr 1 (.t 2), none⟩,
       ⟨some 67, .load false 1 (.t 66), none⟩,
       ⟨some 68, .mv (.t 6), none⟩,
       ⟨some 69, .iaddrS 1 (.t 67) (.t 68), none⟩,
       ⟨some 70, .load false 1 (.t 69), none⟩,
       ⟨some 71, .faddr 1 (.t 3), none⟩,
       ⟨some 72, .load false 1 (.t 71), none⟩,
       ⟨some 73, .mv (.t 6), none⟩,
       ⟨some 74, .iaddrS 1 (.t 72) (.t 73), none⟩,
       ⟨some 75, .load false 1 (.t 74), none⟩,
       ⟨some 76, .bin .neq (.t 70) (.t 75), none⟩] [[], [0], [], [1, 2], [3], [], [5], [], [6, 7], [8], [4, 9]])
     (.cond (.t 76) (.seq (.reg [⟨some 4, .mv (.k (.bool false)), none⟩])
       (.ret))
       (.skip))))
    (.reg [⟨some 64, .mv (.t 6), none⟩,
      ⟨some 65, .bin .add (.t 64) (.k (.int .i64 1)), none⟩,
      ⟨some 6, .mv (.t 65), none⟩]))))))
  (.seq (.seq (.reg [⟨some 7, .mv (.k (.int .i64 0)), none⟩])
  (.block 4 (.loop (.seq (.seq (.reg [⟨some 77, .mv (.t 7), none⟩,
      ⟨some 78, .faddr 2 (.t 2), none⟩,
      ⟨some 79, .load false 1 (.t 78), none⟩,
      ⟨some 80, .len (.t 79), none⟩,
      ⟨some 81, .bin .lss (.t 77) (.t 80), none⟩])
    (.cond (.t 81) (.skip)
      (.exit 4)))
    (.seq (.block 5 (.seq (.regD [⟨some 84, .faddr 2 (.t 2), none⟩,
       ⟨some 85, .load false 1 (.t 84), none⟩,
       ⟨some 86, .mv (.t 7), none⟩,
       ⟨some 87, .iaddrS 65 (.t 85) (.t 86), none⟩,
       ⟨some 88, .load true 65 (.t 87), none⟩,
       ⟨some 89, .faddr 2 (.t 3), none⟩,
       ⟨some 90, .load false 1 (.t 89), none⟩,
       ⟨some 91, .mv (.t 7), none⟩,
       ⟨some 92, .iaddrS 65 (.t 90) (.t 91), none⟩,
       ⟨some 93, .load true 65 (.t 92), none⟩,
       ⟨some 94, .eqs true (List.replicate 65 0) (.t 88) (.t 93), none⟩] [[], [0], [], [1, 2], [3], [], [5], [], [6, 7], [8], [4, 9]])
     (.cond (.t 94) (.seq (.reg [⟨some 4, .mv (.k (.bool false)), none⟩])
       (.ret))
       (.skip))))
    (.reg [⟨some 82, .mv (.t 7), none⟩,
      ⟨some 83, .bin .add (.t 82) (.k (.int .i64 1)), none⟩,
      ⟨some 7, .mv (.t 83), none⟩]))))))
  (.seq (.reg [⟨some 4, .mv (.k (.bool true)), none⟩])
  (.ret))))))
theorem b14 : Body Try.prog 14 c14 [.tmp 4] 95 := ⟨by kernel_rfl, _, _, Try.func14, rfl, by kernel_rfl, by kernel_rfl, rfl⟩
def c15 : ACode :=
  .seq (.reg [⟨some 2, .new [.nils, .nils, .nils, .nils, (.int .i64 0), (.int .i64 0), (.int .i64 0), (.int .i64 0), (.int .i64 0), (.int .i64 0), (.int .i64 0), (.int .i64 0), (.int .i64 0), (.int .i64 0), (.int .i64 0), (.int .i64 0), (.int .i64 0), (.int .i64 0)], none⟩])
  (.seq (.seq (.reg [⟨some 6, .mv (.t 0), none⟩,
    ⟨some 7, .call (.k (.fn 47 [] [])) [(.t 6)], none⟩,
    ⟨some 8, .un .not (.t 7), none⟩])
  (.cond (.t 8) (.seq (.reg [⟨some 9, .build [.nils, .nils, .nils, .nils, (.int .i64 0), (.int .i64 0), (.int .i64 0), (.int .i64 0), (.int .i64 0), (.int .i64 0), (.int .i64 0), (.int .i64 0), (.int .i64 0), (.int .i64 0), (.int .i64 0), (.int .i64 0), (.int .i64 0), (.int .i64 0)] [], none⟩,
      ⟨none, .store 18 (.t 2) (.t 9), none⟩])
    (.ret))
    (.skip)))
  (.seq (.regD [⟨some 10, .mv (.t 0), none⟩,
    ⟨some 11, .call (.k (.fn 49 [] [])) [(.t 10)], none⟩,
    ⟨some 12, .call (.k (.fn 48 [] [])) [(.t 11)], none⟩,
    ⟨some 13, .mv (.t 0), none⟩,
    ⟨some 14, .nchk (.t 13), none⟩,
    ⟨some 15, .faddr 67585 (.t 14), none⟩,
    ⟨some 16, .load true 15 (.t 15), none⟩,
    ⟨some 17, .build [.nils, .nils, .nils, .nils, (.int .i64 0), (.int .i64 0), (.int .i64 0), (.int .i64 0), (.int .i64 0), (.int .i64 0), (.int .i64 0), (.int .i64 0), (.int .i64 0), (.int .i64 0), (.int .i64 0), (.int .i64 0), (.int .i64 0), (.int .i64 0)] [(0, 1, (.t 12)), (3, 15, (.t 16))], none⟩,
    ⟨some 3, .new [.nils, .nils, .nils, .nils, (.int .i64 0), (.int .i64 0), (.int .i64 0), (.int .i64 0), (.int .i64 0), (.int .i64 0), (.int .i64 0), (.int .i64 0), (.int .i64 0), (.int .i64 0), (.int .i64 0), (.int .i64 0), (.int .i64 0), (.int .i64 0)], none⟩,
    ⟨none, .store 18 (.t 3) (.t 17), none⟩] [[], [0], [1, 1], [], [3], [4], [5], [2, 6], [], [8, 7, 2, 0, 1, 2, 3, 4, 5, 6, 7, 8]])
  (.seq (.reg [⟨some 18, .mv (.t 0), none⟩,
    ⟨some 19, .nchk (.t 18), none⟩,
    ⟨some 20, .faddr 67585 (.t 19), none⟩,
    ⟨some 21, .faddr 0 (.t 20), none⟩,
    ⟨some 22, .faddr 0 (.t 21), none⟩,
    ⟨some 23, .load false 1 (.t 22), none⟩,
    ⟨some 24, .call (.k (.fn 38 [] [])) [(.t 23)], none⟩,
    ⟨some 25, .faddr 3 (.t 3), none⟩,
    ⟨some 26, .faddr 0 (.t 25), none⟩,
    ⟨some 27, .faddr 0 (.t 26), none⟩,
    ⟨none, .store 1 (.t 27) (.t 24), none⟩])
  (.seq (.seq (.reg [⟨some 28, .mv (.k (.int .i64 0)), none⟩])
  (.block 0 (.loop (.seq (.reg [⟨some 29, .bin .lss (.t 28) (.k (.int .i64 1024)), none⟩])
    (.seq (.cond (.t 29) (.skip)
      (.exit 0))
    (.seq (.block 1 (.seq (.reg [⟨some 30, .mv (.t 28), none⟩,
       ⟨some 4, .mv (.t 30), none⟩])
     (.seq (.seq (.reg [⟨some 31, .mv (.t 4), none⟩,
       ⟨some 32, .call (.k (.fn 39 [] [])) [(.t 31)], none⟩,
       ⟨some 33, .mv (.t 32), none⟩,
       ⟨some 34, .mv (.t 0), some (33, true)⟩,
       ⟨some 35, .mv (.t 4), some (33, true)⟩,
       ⟨some 36, .nchk (.t 34), some (33, true)⟩,
       ⟨some 37, .faddr 1 (.t 36), some (33, true)⟩,
       ⟨some 38, .iaddrA 1024 66 (.t 37) (.t 35), some (33, true)⟩,
       ⟨some 39, .faddr 1 (.t 38), some (33, true)⟩,
       ⟨some 40, .load false 1 (.t 39), some (33, true)⟩,
       ⟨some 41, .pick (.t 33) (.t 40) (.k (.bool false)), none⟩])
     (.cond (.t 41) (.reg [⟨some 42, .faddr 1 (.t 3), none⟩,
         ⟨some 43, .load false 1 (.t 42), none⟩,
         ⟨some 44, .mv (.t 4), none⟩,
         ⟨some 45, .bslice 1 1 [(.int .i64 0)] [(0, 1, (.t 44))], none⟩,
         ⟨some 46, .append 1 8 (.t 43) (.t 45), none⟩,
         ⟨some 47, .faddr 1 (.t 3), none⟩,
         ⟨none, .store 1 (.t 47) (.t 46), none⟩])
       (.skip)))
     (.seq (.reg [⟨some 48, .mv (.t 0), none⟩,
       ⟨some 49, .mv (.t 4), none⟩,
       ⟨some 50, .nchk (.t 48), none⟩,
       ⟨some 51, .faddr 1 (.t 50), none⟩,
       ⟨some 52, .iaddrA 1024 66 (.t 51) (.t 49), none⟩,
       ⟨some 53, .faddr 2 (.t 52), none⟩,
       ⟨some 54, .load true 64 (.t 53), none⟩,
       ⟨some 5, .new (List.replicate 64 (.int .u8 0)), none⟩,
       ⟨none, .store 64 (.t 5) (.t 54), none⟩])
     (.seq (.reg [⟨some 55, .load true 64 (.t 5), none⟩,
       ⟨some 56, .build (List.replicate 64 (.int .u8 0)) [], none⟩,
       ⟨some 57, .eqs true (List.replicate 64 0) (.t 55) (.t 56), none⟩])
     (.cond (.t 57) (.reg [⟨some 58, .faddr 2 (.t 3), none⟩,
         ⟨some 59, .load false 1 (.t 58), none⟩,
         ⟨some 60, .mv (.t 4), none⟩,
         ⟨some 61, .load true 64 (.t 5), none⟩,
         ⟨some 62, .build [(.int .i64 0), (.int .u8 0), (.int .u8 0), (.int .u8 0), (.int .u8 0), (.int .u8 0), (.int .u8 0), (.int .u8 0), (.int .u8 0), (.int .u8 0), (.int .u8 0), (.int .u8 0), (.int .u8 0), (.int .u8 0), (.int .u8 0), (.int .u8 0), (.int .u8 0), (.int .u8 0), (.int .u8 0), (.int .u8 0), (.int .u8 0), (.int .u8 0), (.int .u8 0), (.int .u8 0), (.int .u8 0), (.int .u8 0), (.int .u8 0), (.int .u8 0), (.int .u8 0), (.int .u8 0), (.int .u8 0), (.int .u8 0), (.int .u8 0), (.int .u8 0), (.int .u8 0), (.int .u8 0), (.int .u8 0), (.int .u8 0), (.int .u8 0), (.int .u8 0), (.int .u8 0), (.int .u8 0), (.int .u8 0), (.int .u8 0), (.int .u8 0), (.int .u8 0), (.int .u8 0), (.int .u8 0), (.int .u8 0), (.int .u8 0), (.int .u8 0), (.int .u8 0), (.int .u8 0), (.int .u8 0), (.int .u8 0), (.int .u8 0), (.int .u8 0), (.int .u8 0), (.int .u8 0), (.int .u8 0), (.int .u8 0), (.int .u8 0), (.int .u8 0), (.int .u8 0), (.int .u8 0)] [(0, 1, (.t 60)), (1, 64, (.t 61))], none⟩,
         ⟨some 63, .bslice 65 1 [(.int .i64 0), (.int .u8 0), (.int .u8 0), (.int .u8 0), (.int .u8 0), (.int .u8 0), (.int .u8 0), (.int .u8 0), (.int .u8 0), (.int .u8 0), (.int .u8 0), (.int .u8 0), (.int .u8 0), (.int .u8 0), (.int .u8 0), (.int .u8 0), (.int .u8 0), (.int .u8 0), (.int .u8 0), (.int .u8 0), (.int .u8 0), (.int .u8 0), (.int .u8 0), (.int .u8 0), (.int .u8 0), (.int .u8 0), (.int .u8 0), (.int .u8 0), (.int .u8 0), (.int .u8 0), (.int .u8 0), (.int .u8 0), (.int .u8 0), (.int .u8 0), (.int .u8 0), (.int .u8 0), (.int .u8 0), (.int .u8 0), (.int .u8 0), (.int .u8 0), (.int .u8 0), (.int .u8 0), (.int .u8 0), (.int .u8 0), (.int .u8 0), (.int .u8 0), (.int .u8 0), (.int .u8 0), (.int .u8 0), (.int .u8 0), (.int .u8 0), (.int .u8 0), (.int .u8 0), (.int .u8 0), (.int .u8 0), (.int .u8 0), (.int .u8 0), (.int .u8 0), (.int .u8 0), (.int .u8 0), (.int .u8 0), (.int .u8 0), (.int .u8 0), (.int .u8 0), (.int .u8 0)] [(0, 65, (.t 62))], none⟩,
         ⟨some 64, .append 65 72 (.t 59) (.t 63), none⟩,
         ⟨some 65, .faddr 2 (.t 3), none⟩,
         ⟨none, .store 1 (.t 65) (.t 64), none⟩])
       (.skip)))))))
    (.reg [⟨some 66, .bin .add (.t 28) (.k (.int .i64 1)), none⟩,
      ⟨some 28, .mv (.t 66), none⟩])))))))
  (.seq (.reg [⟨some 67, .load true 18 (.t 3), none⟩,
    ⟨none, .store 18 (.t 2) (.t 67), none⟩])
  (.ret))))))
theorem b15 : Body Try.prog 15 c15 [.cell 2 true 18] 68 := ⟨by kernel_rfl, _, _, Try.func15, rfl, by kernel_rfl, by kernel_rfl, rfl⟩
def c16 : ACode :=
  .seq (.reg [⟨some 4, .mv (.k (.int .u8 0)), none⟩,
    ⟨some 5, .mv (.k (.int .i64 0)), none⟩])
  (.seq (.reg [⟨some 9, .mv (.t 0), none⟩,
    ⟨some 10, .mv (.t 1), none⟩,
    ⟨some 11, .call (.k (.fn 50 [] [])) [(.t 9), (.t 10)], none⟩,
    ⟨some 8, .mv (.t 11), none⟩,
    ⟨some 12, .ext (.t 8) 0, none⟩,
    ⟨some 13, .ext (.t 8) 1, none⟩,
    ⟨some 6, .mv (.t 12), none⟩,
    ⟨some 7, .mv (.t 13), none⟩])
  (.seq (.seq (.reg [⟨some 14, .mv (.t 7), none⟩,
    ⟨some 15, .bin .neq (.t 14) (.k (.int .i64 0)), none⟩])
  (.cond (.t 15) (.seq (.reg [⟨some 16, .mv (.t 7), none⟩,
      ⟨some 4, .mv (.k (.int .u8 0)), none⟩,
      ⟨some 5, .mv (.t 16), none⟩])
    (.ret))
    (.skip)))
  (.seq (.reg [⟨some 17, .mv (.t 6), none⟩,
    ⟨some 18, .nchk (.t 17), none⟩,
    ⟨some 19, .load false 1 (.t 18), none⟩,
    ⟨some 4, .mv (.t 19), none⟩,
    ⟨some 5, .mv (.k (.int .i64 0)), none⟩])
  (.ret))))
theorem b16 : Body Try.prog 16 c16 [.tmp 4, .tmp 5] 20 := ⟨by kernel_rfl, _, _, Try.func16, rfl, by kernel_rfl, by kernel_rfl, rfl⟩
def c17 : ACode :=
  .seq (.reg [⟨some 4, .mv (.k (.int .i64 0)), none⟩,
    ⟨some 5, .mv (.k (.bool false)), none⟩,
    ⟨some 6, .mv (.k (.int .i64 0)), none⟩])
  (.seq (.seq (.reg [⟨some 7, .mv (.t 0), none⟩,
    ⟨some 8, .call (.k (.fn 47 [] [])) [(.t 7)], none⟩,
    ⟨some 9, .un .not (.t 8), none⟩])
  (.cond (.t 9) (.seq (.reg [⟨some 4, .mv (.k (.int .i64 0)), none⟩,
      ⟨some 5, .mv (.k (.bool false)), none⟩,
      ⟨some 6, .mv (.k (.int .i64 1)), none⟩])
    (.ret))
    (.skip)))
  (.seq (.seq (.reg [⟨some 10, .mv (.t 1), none⟩,
    ⟨some 11, .bin .lss (.t 10) (.k (.int .i64 0)), none⟩,
    ⟨some 12, .mv (.t 11), none⟩,
    ⟨some 13, .mv (.t 1), some (12, false)⟩,
    ⟨some 14, .bin .geq (.t 13) (.k (.int .i64 1024)), some (12, false)⟩,
    ⟨some 15, .pick (.t 12) (.k (.bool true)) (.t 14), none⟩])
  (.cond (.t 15) (.seq (.reg [⟨some 4, .mv (.k (.int .i64 0)), none⟩,
      ⟨some 5, .mv (.k (.bool false)), none⟩,
      ⟨some 6, .mv (.k (.int .i64 7)), none⟩])
    (.ret))
    (.skip)))
  (.seq (.regD [⟨some 16, .mv (.t 0), none⟩,
    ⟨some 17, .mv (.t 1), none⟩,
    ⟨some 18, .nchk (.t 16), none⟩,
    ⟨some 19, .faddr 1 (.t 18), none⟩,
    ⟨some 20, .iaddrA 1024 66 (.t 19) (.t 17), none⟩,
    ⟨some 21, .faddr 0 (.t 20), none⟩,
    ⟨some 22, .load false 1 (.t 21), none⟩,
    ⟨some 23, .mv (.t 0), none⟩,
    ⟨some 24, .mv (.t 1), none⟩,
    ⟨some 25, .nchk (.t 23), none⟩,
    ⟨some 26, .faddr 1 (.t 25), none⟩,
    ⟨some 27, .iaddrA 1024 66 (.t 26) (.t 24), none⟩,
    ⟨some 28, .faddr 1 (.t 27), none⟩,
    ⟨some 29, .load false 1 (.t 28), none⟩,
    ⟨some 4, .mv (.t 22), none⟩,
    ⟨some 5, .mv (.t 29), none⟩,
    ⟨some 6, .mv (.k (.int .i64 0)), none⟩] [[], [], [0], [2], [3, 1], [4], [5], [], [], [7], [9], [10, 8], [11], [12], [6, 0, 1, 2, 3, 4, 5, 6], [13, 14, 0, 1, 2, 3, 4, 5, 6, 7, 8, 9, 10, 11, 12, 13, 14], [15, 0, 1, 2, 3, 4, 5, 6, 7, 8, 9, 10, 11, 12, 13, 14, 15]])
  (.ret))))
def c18 : ACode :=
  .seq (.reg [⟨some 2, .new [(.int .i64 0), (.int .i64 0), (.int .i64 0), (.int .i64 0), (.int .i64 0)], none⟩,
    ⟨some 3, .mv (.k (.int .i64 0)), none⟩])
  (.seq (.seq (.reg [⟨some 7, .mv (.t 0), none⟩,
    ⟨some 8, .call (.k (.fn 47 [] [])) [(.t 7)], none⟩,
    ⟨some 9, .un .not (.t 8), none⟩])
  (.cond (.t 9) (.seq (.reg [⟨some 10, .build [(.int .i64 0), (.int .i64 0), (.int .i64 0), (.int .i64 0), (.int .i64 0)] [], none⟩,
      ⟨none, .store 5 (.t 2) (.t 10), none⟩,
      ⟨some 3, .mv (.k (.int .i64 1)), none⟩])
    (.ret))
    (.skip)))
  (.seq (.reg [⟨some 4, .new [(.int .i64 0), (.int .i64 0), (.int .i64 0), (.int .i64 0), (.int .i64 0)], none⟩])
  (.seq (.reg [⟨some 11, .faddr 0 (.t 4), none⟩,
    ⟨some 12, .faddr 1 (.t 4), none⟩,
    ⟨some 13, .faddr 2 (.t 4), none⟩,
    ⟨some 14, .faddr 3 (.t 4), none⟩,
    ⟨some 15, .build [.nilp, .nilp, .nilp, .nilp] [(0, 1, (.t 11)), (1, 1, (.t 12)), (2, 1, (.t 13)), (3, 1, (.t 14))], none⟩,
    ⟨some 5, .new [.nilp, .nilp, .nilp, .nilp], none⟩,
    ⟨none, .store 4 (.t 5) (.t 15), none⟩])
  (.seq (.seq (.reg [⟨some 16, .mv (.k (.int .i64 0)), none⟩])
  (.block 0 (.loop (.seq (.reg [⟨some 17, .bin .lss (.t 16) (.k (.int .i64 1024)), none⟩])
    (.seq (.cond (.t 17) (.skip)
      (.exit 0))
    (.seq (.block 1 (.seq (.reg [⟨some 18, .mv (.t 16), none⟩,
       ⟨some 6, .mv (.t 18), none⟩])
     (.seq (.reg [⟨some 19, .mv (.t 0), none⟩,
       ⟨some 20, .mv (.t 6), none⟩,
       ⟨some 21, .nchk (.t 19), none⟩,
       ⟨some 22, .faddr 1 (.t 21), none⟩,
       ⟨some 23, .iaddrA 1024 66 (.t 22) (.t 20), none⟩,
       ⟨some 24, .faddr 0 (.t 23), none⟩,
       ⟨some 25, .load false 1 (.t 24), none⟩,
       ⟨some 26, .iaddrA 4 1 (.t 5) (.t 25), none⟩,
       ⟨some 27, .load false 1 (.t 26), none⟩,
       ⟨some 28, .nchk (.t 27), none⟩,
       ⟨some 29, .load false 1 (.t 28), none⟩,
       ⟨some 30, .bin .add (.t 29) (.k (.int .i64 1)), none⟩,
       ⟨some 31, .nchk (.t 27), none⟩,
       ⟨none, .store 1 (.t 31) (.t 30), none⟩])
     (.seq (.reg [⟨some 32, .mv (.t 0), none⟩,
       ⟨some 33, .mv (.t 6), none⟩,
       ⟨some 34, .nchk (.t 32), none⟩,
       ⟨some 35, .faddr 1 (.t 34), none⟩,
       ⟨some 36, .iaddrA 1024 66 (.t 35) (.t 33), none⟩,
       ⟨some 37, .faddr 1 (.t 36), none⟩,
       ⟨some 38, .load false 1 (.t 37), none⟩,
       ⟨some 39, .mv (.t 38), none⟩,
       ⟨some 40, .mv (.t 6), some (39, true)⟩,
       ⟨some 41, .call (.k (.fn 39 [] [])) [(.t 40)], some (39, true)⟩,
       ⟨some 42, .pick (.t 39) (.t 41) (.k (.bool false)), none⟩])
     (.cond (.t 42) (.reg [⟨some 43, .faddr 4 (.t 4), none⟩,
         ⟨some 44, .load false 1 (.t 43), none⟩,
         ⟨some 45, .bin .add (.t 44) (.k (.int .i64 1)), none⟩,
         ⟨some 46, .faddr 4 (.t 4), none⟩,
         ⟨none, .store 1 (.t 46) (.t 45), none⟩])
       (.skip))))))
    (.reg [⟨some 47, .bin .add (.t 16) (.k (.int .i64 1)), none⟩,
      ⟨some 16, .mv (.t 47), none⟩])))))))
  (.seq (.reg [⟨some 48, .load true 5 (.t 4), none⟩,
    ⟨none, .store 5 (.t 2) (.t 48), none⟩,
    ⟨some 3, .mv (.k (.int .i64 0)), none⟩])
  (.ret))))))
theorem b18 : Body Try.prog 18 c18 [.cell 2 true 5, .tmp 3] 49 := ⟨by kernel_rfl, _, _, Try.func18, rfl, by kernel_rfl, by kernel_rfl, rfl⟩
def c19 : ACode :=
  .seq (.reg [⟨some 3, .box (.t 1), none⟩,
    ⟨some 4, .mv (.k (.int .i64 0)), none⟩])
  (.seq (.seq (.reg [⟨some 5, .faddr 0 (.t 3), none⟩,
    ⟨some 6, .load false 1 (.t 5), none⟩,
    ⟨some 7, .bin .rem (.t 6) (.k (.int .u8 19)), none⟩])
  (.block 0 (.seq (.seq (.reg [⟨some 9, .bin .eql (.t 7) (.k (.int .u8 0)), none⟩,
     ⟨some 8, .mv (.t 9), none⟩])
   (.cond (.t 8) (.skip)
     (.reg [⟨some 10, .bin .eql (.t 7) (.k (.int .u8 1)), none⟩,
       ⟨some 8, .mv (.t 10), none⟩])))
   (.cond (.t 8) (.seq (.reg [⟨some 11, .mv (.t 0), none⟩,
       ⟨some 12, .faddr 1 (.t 3), none⟩,
       ⟨some 13, .load false 1 (.t 12), none⟩,
       ⟨some 14, .faddr 2 (.t 3), none⟩,
       ⟨some 15, .load false 1 (.t 14), none⟩,
       ⟨some 16, .call (.k (.fn 36 [] [])) [(.t 11), (.t 13), (.t 15)], none⟩,
       ⟨some 4, .mv (.t 16), none⟩])
     (.ret))
     (.seq (.reg [⟨some 18, .bin .eql (.t 7) (.k (.int .u8 2)), none⟩,
       ⟨some 17, .mv (.t 18), none⟩])
     (.cond (.t 17) (.seq (.reg [⟨some 19, .mv (.t 0), none⟩,
         ⟨some 20, .faddr 1 (.t 3), none⟩,
         ⟨some 21, .load false 1 (.t 20), none⟩,
         ⟨some 22, .faddr 2 (.t 3), none⟩,
         ⟨some 23, .load false 1 (.t 22), none⟩,
         ⟨some 24, .call (.k (.fn 35 [] [])) [(.t 19), (.t 21), (.t 23)], none⟩,
         ⟨some 4, .mv (.t 24), none⟩])
       (.ret))
       (.seq (.seq (.reg [⟨some 26, .bin .eql (.t 7) (.k (.int .u8 3)), none⟩,
         ⟨some 25, .mv (.t 26), none⟩])
       (.cond (.t 25) (.skip)
         (.seq (.reg [⟨some 27, .bin .eql (.t 7) (.k (.int .u8 4)), none⟩,
           ⟨some 25, .mv (.t 27), none⟩])
         (.cond (.t 25) (.skip)
           (.reg [⟨some 28, .bin .eql (.t 7) (.k (.int .u8 5)), none⟩,
             ⟨some 25, .mv (.t 28), none⟩])))))
       (.cond (.t 25) (.seq (.reg [⟨some 29, .mv (.t 0), none⟩,
           ⟨some 30, .faddr 1 (.t 3), none⟩,
           ⟨some 31, .load false 1 (.t 30), none⟩,
           ⟨some 32, .faddr 2 (.t 3), none⟩,
           ⟨some 33, .load false 1 (.t 32), none⟩,
           ⟨some 34, .call (.k (.fn 30 [] [])) [(.t 29), (.t 31), (.t 33)], none⟩,
           ⟨some 4, .mv (.t 34), none⟩])
         (.ret))
         (.seq (.seq (.reg [⟨some 36, .bin .eql (.t 7) (.k (.int .u8 6)), none⟩,
           ⟨some 35, .mv (.t 36), none⟩])
         (.cond (.t 35) (.skip)
           (.reg [⟨some 37, .bin .eql (.t 7) (.k (.int .u8 7)), none⟩,
             ⟨some 35, .mv (.t 37), none⟩])))
         (.cond (.t 35) (.seq (.reg [⟨some 38, .mv (.t 0), none⟩,
             ⟨some 39, .faddr 1 (.t 3), none⟩,
             ⟨some 40, .load false 1 (.t 39), none⟩,
             ⟨some 41, .faddr 2 (.t 3), none⟩,
             ⟨some 42, .load false 1 (.t 41), none⟩,
             ⟨some 43, .call (.k (.fn 29 [] [])) [(.t 38), (.t 40), (.t 42)], none⟩,
             ⟨some 4, .mv (.t 43), none⟩])
           (.ret))
           (.seq (.seq (.reg [⟨some 45, .bin .eql (.t 7) (.k (.int .u8 8)), none⟩,
             ⟨some 44, .mv (.t 45), none⟩])
           (.cond (.t 44) (.skip)
             (.reg [⟨some 46, .bin .eql (.t 7) (.k (.int .u8 9)), none⟩,
               ⟨some 44, .mv (.t 46), none⟩])))
           (.cond (.t 44) (.seq (.reg [⟨some 47, .mv (.t 0), none⟩,
               ⟨some 48, .faddr 1 (.t 3), none⟩,
               ⟨some 49, .load false 1 (.t 48), none⟩,
               ⟨some 50, .faddr 2 (.t 3), none⟩,
               ⟨some 51, .load false 1 (.t 50), none⟩,
               ⟨some 52, .faddr 2 (.t 3), none⟩,
               ⟨some 53, .load false 1 (.t 52), none⟩,
               ⟨some 54, .bin .rem (.t 53) (.k (.int .i64 2)), none⟩,
               ⟨some 55, .bin .eql (.t 54) (.k (.int .i64 0)), none⟩,
               ⟨some 56, .call (.k (.fn 34 [] [])) [(.t 47), (.t 49), (.t 51), (.t 55)], none⟩,
               ⟨some 4, .mv (.t 56), none⟩])
             (.ret))
             (.seq (.seq (.reg [⟨some 58, .bin .eql (.t 7) (.k (.int .u8 10)), none⟩,
               ⟨some 57, .mv (.t 58), none⟩])
             (.cond (.t 57) (.skip)
               (.reg [⟨some 59, .bin .eql (.t 7) (.k (.int .u8 11)), none⟩,
                 ⟨some 57, .mv (.t 59), none⟩])))
             (.cond (.t 57) (.seq (.reg [⟨some 60, .mv (.t 0), none⟩,
                 ⟨some 61, .faddr 1 (.t 3), none⟩,
                 ⟨some 62, .load false 1 (.t 61), none⟩,
                 ⟨some 63, .call (.k (.fn 51 [] [])) [(.t 60), (.t 62)], none⟩,
                 ⟨some 4, .mv (.t 63), none⟩])
               (.ret))
               (.seq (.reg [⟨some 65, .bin .eql (.t 7) (.k (.int .u8 12)), none⟩,
                 ⟨some 64, .mv (.t 65), none⟩])
               (.cond (.t 64) (.seq (.reg [⟨some 66, .mv (.t 0), none⟩,
                   ⟨some 67, .faddr 1 (.t 3), none⟩,
                   ⟨some 68, .load false 1 (.t 67), none⟩,
                   ⟨some 69, .call (.k (.fn 33 [] [])) [(.t 66), (.t 68)], none⟩,
                   ⟨some 4, .mv (.t 69), none⟩])
                 (.ret))
                 (.seq (.seq (.reg [⟨some 71, .bin .eql (.t 7) (.k (.int .u8 13)), none⟩,
                   ⟨some 70, .mv (.t 71), none⟩])
                 (.cond (.t 70) (.skip)
                   (.seq (.reg [⟨some 72, .bin .eql (.t 7) (.k (.int .u8 14)), none⟩,
                     ⟨some 70, .mv (.t 72), none⟩])
                   (.cond (.t 70) (.skip)
                     (.reg [⟨some 73, .bin .eql (.t 7) (.k (.int .u8 15)), none⟩,
                       ⟨some 70, .mv (.t 73), none⟩])))))
                 (.cond (.t 70) (.seq (.reg [⟨some 74, .mv (.t 0), none⟩,
                     ⟨some 75, .faddr 3 (.t 3), none⟩,
                     ⟨some 76, .load false 1 (.t 75), none⟩,
                     ⟨some 77, .faddr 4 (.t 3), none⟩,
                     ⟨some 78, .load false 1 (.t 77), none⟩,
                     ⟨some 79, .call (.k (.fn 28 [] [])) [(.t 74), (.t 76), (.t 78)], none⟩,
                     ⟨some 4, .mv (.t 79), none⟩])
                   (.ret))
                   (.skip)))))))))))))))))))
  (.seq (.reg [⟨some 80, .mv (.t 0), none⟩,
    ⟨some 81, .faddr 5 (.t 3), none⟩,
    ⟨some 82, .load true 1 (.t 81), none⟩,
    ⟨some 83, .call (.k (.fn 26 [] [])) [(.t 80), (.t 82)], none⟩,
    ⟨some 4, .mv (.t 83), none⟩])
  (.ret)))
def c20 : ACode :=
  .seq (.reg [⟨some 2, .box (.t 0), none⟩,
    ⟨some 4, .mv (.k (.bool false)), none⟩])
  (.seq (.seq (.reg [⟨some 6, .faddr 0 (.t 2), none⟩,
    ⟨some 7, .load false 1 (.t 6), none⟩,
    ⟨some 8, .len (.t 7), none⟩,
    ⟨some 9, .bin .gtr (.t 8) (.k (.int .i64 60)), none⟩])
  (.cond (.t 9) (.seq (.reg [⟨some 4, .mv (.k (.bool true)), none⟩])
    (.ret))
    (.skip)))
  (.seq (.seq (.reg [⟨some 5, .mv (.k (.int .i64 0)), none⟩])
  (.block 0 (.loop (.seq (.seq (.reg [⟨some 10, .mv (.t 5), none⟩,
      ⟨some 11, .mv (.t 1), none⟩,
      ⟨some 12, .len (.t 11), none⟩,
      ⟨some 13, .bin .lss (.t 10) (.t 12), none⟩])
    (.cond (.t 13) (.skip)
      (.exit 0)))
    (.seq (.block 1 (.seq (.reg [⟨some 16, .mv (.t 1), none⟩,
       ⟨some 17, .mv (.t 5), none⟩,
       ⟨some 18, .iaddrS 6 (.t 16) (.t 17), none⟩,
       ⟨some 19, .faddr 5 (.t 18), none⟩,
       ⟨some 20, .faddr 0 (.t 19), none⟩,
       ⟨some 21, .load false 1 (.t 20), none⟩,
       ⟨some 22, .len (.t 21), none⟩,
       ⟨some 23, .bin .gtr (.t 22) (.k (.int .i64 60)), none⟩])
     (.cond (.t 23) (.seq (.reg [⟨some 4, .mv (.k (.bool true)), none⟩])
       (.ret))
       (.skip))))
    (.reg [⟨some 14, .mv (.t 5), none⟩,
      ⟨some 15, .bin .add (.t 14) (.k (.int .i64 1)), none⟩,
      ⟨some 5, .mv (.t 15), none⟩]))))))
  (.seq (.reg [⟨some 4, .mv (.k (.bool false)), none⟩])
  (.ret))))
def c21 : ACode :=
  .seq (.reg [⟨some 1, .box (.t 0), none⟩,
    ⟨some 2, .mv (.k .nilp), none⟩,
    ⟨some 3, .mv (.k (.int .i64 0)), none⟩])
  (.seq (.reg [⟨some 7, .load true 1 (.t 1), none⟩,
    ⟨some 8, .call (.k (.fn 52 [] [])) [(.t 7)], none⟩,
    ⟨some 6, .mv (.t 8), none⟩,
    ⟨some 9, .ext (.t 6) 0, none⟩,
    ⟨some 10, .ext (.t 6) 1, none⟩,
    ⟨some 4, .new [.nils, (.int .i64 0), (.int .i64 0), (.int .i64 0), (.int .i64 0), (.int .i64 0), (.int .i64 0), (.int .i64 0), (.int .i64 0), (.int .i64 0), (.int .i64 0), (.int .i64 0), (.int .i64 0), (.int .i64 0), (.int .i64 0)], none⟩,
    ⟨none, .store 15 (.t 4) (.t 9), none⟩,
    ⟨some 5, .mv (.t 10), none⟩])
  (.seq (.seq (.reg [⟨some 11, .mv (.t 5), none⟩,
    ⟨some 12, .bin .neq (.t 11) (.k (.int .i64 0)), none⟩])
  (.cond (.t 12) (.seq (.reg [⟨some 13, .mv (.t 5), none⟩,
      ⟨some 2, .mv (.k .nilp), none⟩,
      ⟨some 3, .mv (.t 13), none⟩])
    (.ret))
    (.skip)))
  (.seq (.reg [⟨some 14, .load true 15 (.t 4), none⟩,
    ⟨some 15, .build Go.Pol.sysZ [(0, 1, (.k (.bool true))), (67585, 15, (.t 14))], none⟩,
    ⟨some 16, .box (.t 15), none⟩,
    ⟨some 2, .mv (.t 16), none⟩,
    ⟨some 3, .mv (.k (.int .i64 0)), none⟩])
  (.ret))))
theorem b21 : Body Try.prog 21 c21 [.tmp 2, .tmp 3] 17 := ⟨by kernel_rfl, _, _, Try.func21, rfl, ccodeZ_ok Zs_ok (by kernel_rfl), by kernel_rfl, rfl⟩
def c22 : ACode :=
  .seq (.reg [⟨some 1, .box (.t 0), none⟩,
    ⟨some 2, .mv (.k .nilp), none⟩,
    ⟨some 3, .mv (.k (.int .i64 0)), none⟩])
  (.seq (.reg [⟨some 7, .load true 1 (.t 1), none⟩,
    ⟨some 8, .call (.k (.fn 53 [] [])) [(.t 7)], none⟩,
    ⟨some 6, .mv (.t 8), none⟩,
    ⟨some 9, .ext (.t 6) 0, none⟩,
    ⟨some 10, .ext (.t 6) 1, none⟩,
    ⟨some 4, .new [.nils, (.int .i64 0), (.int .i64 0), (.int .i64 0), (.int .i64 0), (.int .i64 0), (.int .i64 0), (.int .i64 0), (.int .i64 0), (.int .i64 0), (.int .i64 0), (.int .i64 0), (.int .i64 0), (.int .i64 0), (.int .i64 0)], none⟩,
    ⟨none, .store 15 (.t 4) (.t 9), none⟩,
    ⟨some 5, .mv (.t 10), none⟩])
  (.seq (.seq (.reg [⟨some 11, .mv (.t 5), none⟩,
    ⟨some 12, .bin .neq (.t 11) (.k (.int .i64 0)), none⟩])
  (.cond (.t 12) (.seq (.reg [⟨some 13, .mv (.t 5), none⟩,
      ⟨some 2, .mv (.k .nilp), none⟩,
      ⟨some 3, .mv (.t 13), none⟩])
    (.ret))
    (.skip)))
  (.seq (.reg [⟨some 14, .load true 15 (.t 4), none⟩,
    ⟨some 15, .build Go.Pol.refZ [(66624, 15, (.t 14))], none⟩,
    ⟨some 16, .box (.t 15), none⟩,
    ⟨some 2, .mv (.t 16), none⟩,
    ⟨some 3, .mv (.k (.int .i64 0)), none⟩])
  (.ret))))
def c23 : ACode :=
  .seq (.reg [⟨some 5, .box (.t 2), none⟩,
    ⟨some 6, .mv (.k .nilp), none⟩,
    ⟨some 7, .mv (.k (.bool false)), none⟩])
  (.seq (.seq (.reg [⟨some 22, .faddr 0 (.t 5), none⟩,
    ⟨some 23, .load false 1 (.t 22), none⟩,
    ⟨some 24, .bin .rem (.t 23) (.k (.int .u8 19)), none⟩])
  (.block 0 (.seq (.seq (.reg [⟨some 26, .bin .eql (.t 24) (.k (.int .u8 0)), none⟩,
     ⟨some 25, .mv (.t 26), none⟩])
   (.cond (.t 25) (.skip)
     (.reg [⟨some 27, .bin .eql (.t 24) (.k (.int .u8 1)), none⟩,
       ⟨some 25, .mv (.t 27), none⟩])))
   (.cond (.t 25) (.seq (.regD [⟨some 28, .mv (.t 0), none⟩,
       ⟨some 29, .mv (.t 0), none⟩,
       ⟨some 30, .faddr 1 (.t 5), none⟩,
       ⟨some 31, .load false 1 (.t 30), none⟩,
       ⟨some 32, .faddr 2 (.t 5), none⟩,
       ⟨some 33, .load false 1 (.t 32), none⟩,
       ⟨some 34, .call (.k (.fn 36 [] [])) [(.t 29), (.t 31), (.t 33)], none⟩,
       ⟨some 35, .mv (.t 1), none⟩,
       ⟨some 36, .faddr 1 (.t 5), none⟩,
       ⟨some 37, .load false 1 (.t 36), none⟩,
       ⟨some 38, .faddr 2 (.t 5), none⟩,
       ⟨some 39, .load false 1 (.t 38), none⟩,
       ⟨some 40, .call (.k (.fn 54 [] [])) [(.t 35), (.t 37), (.t 39)], none⟩,
       ⟨some 41, .bin .eql (.t 34) (.t 40), none⟩,
       ⟨some 6, .mv (.t 28), none⟩,
       ⟨some 7, .mv (.t 41), none⟩] [[], [], [], [2], [], [4], [1, 3, 5], [], [], [8], [], [10], [7, 9, 11, 6], [6, 12], [0, 12, 0], [13, 14, 0, 1, 2, 3, 4, 5, 6, 7, 8, 9, 10, 11, 12, 13, 14]])
     (.ret))
     (.seq (.reg [⟨some 43, .bin .eql (.t 24) (.k (.int .u8 2)), none⟩,
       ⟨some 42, .mv (.t 43), none⟩])
     (.cond (.t 42) (.seq (.regD [⟨some 44, .mv (.t 0), none⟩,
         ⟨some 45, .mv (.t 0), none⟩,
         ⟨some 46, .faddr 1 (.t 5), none⟩,
         ⟨some 47, .load false 1 (.t 46), none⟩,
         ⟨some 48, .faddr 2 (.t 5), none⟩,
         ⟨some 49, .load false 1 (.t 48), none⟩,
         ⟨some 50, .call (.k (.fn 35 [] [])) [(.t 45), (.t 47), (.t 49)], none⟩,
         ⟨some 51, .mv (.t 1), none⟩,
         ⟨some 52, .faddr 1 (.t 5), none⟩,
         ⟨some 53, .load false 1 (.t 52), none⟩,
         ⟨some 54, .faddr 2 (.t 5), none⟩,
         ⟨some 55, .load false 1 (.t 54), none⟩,
         ⟨some 56, .call (.k (.fn 55 [] [])) [(.t 51), (.t 53), (.t 55)], none⟩,
         ⟨some 57, .bin .eql (.t 50) (.t 56), none⟩,
         ⟨some 6, .mv (.t 44), none⟩,
         ⟨some 7, .mv (.t 57), none⟩] [[], [], [], [2], [], [4], [1, 3, 5], [], [], [8], [], [10], [7, 9, 11, 6], [6, 12], [0, 12, 0], [13, 14, 0, 1, 2, 3, 4, 5, 6, 7, 8, 9, 10, 11, 12, 13, 14]])
       (.ret))
       (.seq (.seq (.reg [⟨some 59, .bin .eql (.t 24) (.k (.int .u8 3)), none⟩,
         ⟨some 58, .mv (.t 59), none⟩])
       (.cond (.t 58) (.skip)
         (.seq (.reg [⟨some 60, .bin .eql (.t 24) (.k (.int .u8 4)), none⟩,
           ⟨some 58, .mv (.t 60), none⟩])
         (.cond (.t 58) (.skip)
           (.reg [⟨some 61, .bin .eql (.t 24) (.k (.int .u8 5)), none⟩,
             ⟨some 58, .mv (.t 61), none⟩])))))
       (.cond (.t 58) (.seq (.regD [⟨some 62, .mv (.t 0), none⟩,
           ⟨some 63, .mv (.t 0), none⟩,
           ⟨some 64, .faddr 1 (.t 5), none⟩,
           ⟨some 65, .load false 1 (.t 64), none⟩,
           ⟨some 66, .faddr 2 (.t 5), none⟩,
           ⟨some 67, .load false 1 (.t 66), none⟩,
           ⟨some 68, .call (.k (.fn 30 [] [])) [(.t 63), (.t 65), (.t 67)], none⟩,
           ⟨some 69, .mv (.t 1), none⟩,
           ⟨some 70, .faddr 1 (.t 5), none⟩,
           ⟨some 71, .load false 1 (.t 70), none⟩,
           ⟨some 72, .faddr 2 (.t 5), none⟩,
           ⟨some 73, .load false 1 (.t 72), none⟩,
           ⟨some 74, .call (.k (.fn 56 [] [])) [(.t 69), (.t 71), (.t 73)], none⟩,
           ⟨some 75, .bin .eql (.t 68) (.t 74), none⟩,
           ⟨some 6, .mv (.t 62), none⟩,
           ⟨some 7, .mv (.t 75), none⟩] [[], [], [], [2], [], [4], [1, 3, 5], [], [], [8], [], [10], [7, 9, 11, 6], [6, 12], [0, 12, 0], [13, 14, 0, 1, 2, 3, 4, 5, 6, 7, 8, 9, 10, 11, 12, 13, 14]])
         (.ret))
         (.seq (.seq (.reg [⟨some 77, .bin .eql (.t 24) (.k (.int .u8 6)), none⟩,
           ⟨some 76, .mv (.t 77), none⟩])
         (.cond (.t 76) (.skip)
           (.reg [⟨some 78, .bin .eql (.t 24) (.k (.int .u8 7)), none⟩,
             ⟨some 76, .mv (.t 78), none⟩])))
         (.cond (.t 76) (.seq (.regD [⟨some 79, .mv (.t 0), none⟩,
             ⟨some 80, .mv (.t 0), none⟩,
             ⟨some 81, .faddr 1 (.t 5), none⟩,
             ⟨some 82, .load false 1 (.t 81), none⟩,
             ⟨some 83, .faddr 2 (.t 5), none⟩,
             ⟨some 84, .load false 1 (.t 83), none⟩,
             ⟨some 85, .call (.k (.fn 29 [] [])) [(.t 80), (.t 82), (.t 84)], none⟩,
             ⟨some 86, .mv (.t 1), none⟩,
             ⟨some 87, .faddr 1 (.t 5), none⟩,
             ⟨some 88, .load false 1 (.t 87), none⟩,
             ⟨some 89, .faddr 2 (.t 5), none⟩,
             ⟨some 90, .load false 1 (.t 89), none⟩,
             ⟨some 91, .call (.k (.fn 57 [] [])) [(.t 86), (.t 88), (.t 90)], none⟩,
             ⟨some 92, .bin .eql (.t 85) (.t 91), none⟩,
             ⟨some 6, .mv (.t 79), none⟩,
             ⟨some 7, .mv (.t 92), none⟩] [[], [], [], [2], [], [4], [1, 3, 5], [], [], [8], [], [10], [7, 9, 11, 6], [6, 12], [0, 12, 0], [13, 14, 0, 1, 2, 3, 4, 5, 6, 7, 8, 9, 10, 11, 12, 13, 14]])
           (.ret))
           (.seq (.reg [⟨some 94, .bin .eql (.t 24) (.k (.int .u8 8)), none⟩,
             ⟨some 93, .mv (.t 94), none⟩])
           (.cond (.t 93) (.seq (.regD [⟨some 95, .mv (.t 0), none⟩,
               ⟨some 96, .mv (.t 0), none⟩,
               ⟨some 97, .faddr 1 (.t 5), none⟩,
               ⟨some 98, .load false 1 (.t 97), none⟩,
               ⟨some 99, .faddr 2 (.t 5), none⟩,
               ⟨some 100, .load false 1 (.t 99), none⟩,
               ⟨some 101, .faddr 2 (.t 5), none⟩,
               ⟨some 102, .load false 1 (.t 101), none⟩,
               ⟨some 103, .bin .rem (.t 102) (.k (.int .i64 2)), none⟩,
               ⟨some 104, .bin .eql (.t 103) (.k (.int .i64 0)), none⟩,
               ⟨some 105, .call (.k (.fn 34 [] [])) [(.t 96), (.t 98), (.t 100), (.t 104)], none⟩,
               ⟨some 106, .mv (.t 1), none⟩,
               ⟨some 107, .faddr 1 (.t 5), none⟩,
               ⟨some 108, .load false 1 (.t 107), none⟩,
               ⟨some 109, .faddr 2 (.t 5), none⟩,
               ⟨some 110, .load false 1 (.t 109), none⟩,
               ⟨some 111, .faddr 2 (.t 5), none⟩,
               ⟨some 112, .load false 1 (.t 111), none⟩,
               ⟨some 113, .bin .rem (.t 112) (.k (.int .i64 2)), none⟩,
               ⟨some 114, .bin .eql (.t 113) (.k (.int .i64 0)), none⟩,
               ⟨some 115, .call (.k (.fn 58 [] [])) [(.t 106), (.t 108), (.t 110), (.t 114)], none⟩,
               ⟨some 116, .bin .eql (.t 105) (.t 115), none⟩,
               ⟨some 6, .mv (.t 95), none⟩,
               ⟨some 7, .mv (.t 116), none⟩] [[], [], [], [2], [], [4], [], [6], [7], [8], [1, 3, 5, 9], [], [], [12], [], [14], [], [16], [17], [18], [11, 13, 15, 19, 10], [10, 20], [0, 20, 0], [21, 22, 0, 1, 2, 3, 4, 5, 6, 7, 8, 9, 10, 11, 12, 13, 14, 15, 16, 17, 18, 19, 20, 21, 22]])
             (.ret))
             (.seq (.reg [⟨some 118, .bin .eql (.t 24) (.k (.int .u8 9)), none⟩,
               ⟨some 117, .mv (.t 118), none⟩])
             (.cond (.t 117) (.seq (.regD [⟨some 119, .mv (.t 0), none⟩,
                 ⟨some 120, .mv (.t 0), none⟩,
                 ⟨some 121, .faddr 1 (.t 5), none⟩,
                 ⟨some 122, .load false 1 (.t 121), none⟩,
                 ⟨some 123, .faddr 2 (.t 5), none⟩,
                 ⟨some 124, .load false 1 (.t 123), none⟩,
                 ⟨some 125, .call (.k (.fn 34 [] [])) [(.t 120), (.t 122), (.t 124), (.k (.bool false))], none⟩,
                 ⟨some 126, .mv (.t 1), none⟩,
                 ⟨some 127, .faddr 1 (.t 5), none⟩,
                 ⟨some 128, .load false 1 (.t 127), none⟩,
                 ⟨some 129, .faddr 2 (.t 5), none⟩,
                 ⟨some 130, .load false 1 (.t 129), none⟩,
                 ⟨some 131, .call (.k (.fn 58 [] [])) [(.t 126), (.t 128), (.t 130), (.k (.bool false))], none⟩,
                 ⟨some 132, .bin .eql (.t 125) (.t 131), none⟩,
                 ⟨some 6, .mv (.t 119), none⟩,
                 ⟨some 7, .mv (.t 132), none⟩] [[], [], [], [2], [], [4], [1, 3, 5], [], [], [8], [], [10], [7, 9, 11, 6], [6, 12], [0, 12, 0], [13, 14, 0, 1, 2, 3, 4, 5, 6, 7, 8, 9, 10, 11, 12, 13, 14]])
               (.ret))
               (.seq (.seq (.reg [⟨some 134, .bin .eql (.t 24) (.k (.int .u8 10)), none⟩,
                 ⟨some 133, .mv (.t 134), none⟩])
               (.cond (.t 133) (.skip)
                 (.reg [⟨some 135, .bin .eql (.t 24) (.k (.int .u8 11)), none⟩,
                   ⟨some 133, .mv (.t 135), none⟩])))
               (.cond (.t 133) (.seq (.regD [⟨some 136, .mv (.t 0), none⟩,
                   ⟨some 137, .mv (.t 0), none⟩,
                   ⟨some 138, .faddr 1 (.t 5), none⟩,
                   ⟨some 139, .load false 1 (.t 138), none⟩,
                   ⟨some 140, .call (.k (.fn 51 [] [])) [(.t 137), (.t 139)], none⟩,
                   ⟨some 141, .mv (.t 1), none⟩,
                   ⟨some 142, .faddr 1 (.t 5), none⟩,
                   ⟨some 143, .load false 1 (.t 142), none⟩,
                   ⟨some 144, .call (.k (.fn 59 [] [])) [(.t 141), (.t 143)], none⟩,
                   ⟨some 145, .bin .eql (.t 140) (.t 144), none⟩,
                   ⟨some 6, .mv (.t 136), none⟩,
                   ⟨some 7, .mv (.t 145), none⟩] [[], [], [], [2], [1, 3], [], [], [6], [5, 7, 4], [4, 8], [0, 8, 0], [9, 10, 0, 1, 2, 3, 4, 5, 6, 7, 8, 9, 10]])
                 (.ret))
                 (.seq (.reg [⟨some 147, .bin .eql (.t 24) (.k (.int .u8 12)), none⟩,
                   ⟨some 146, .mv (.t 147), none⟩])
                 (.cond (.t 146) (.seq (.regD [⟨some 148, .mv (.t 0), none⟩,
                     ⟨some 149, .mv (.t 0), none⟩,
                     ⟨some 150, .faddr 1 (.t 5), none⟩,
                     ⟨some 151, .load false 1 (.t 150), none⟩,
                     ⟨some 152, .call (.k (.fn 33 [] [])) [(.t 149), (.t 151)], none⟩,
                     ⟨some 153, .mv (.t 1), none⟩,
                     ⟨some 154, .faddr 1 (.t 5), none⟩,
                     ⟨some 155, .load false 1 (.t 154), none⟩,
                     ⟨some 156, .call (.k (.fn 60 [] [])) [(.t 153), (.t 155)], none⟩,
                     ⟨some 157, .bin .eql (.t 152) (.t 156), none⟩,
                     ⟨some 6, .mv (.t 148), none⟩,
                     ⟨some 7, .mv (.t 157), none⟩] [[], [], [], [2], [1, 3], [], [], [6], [5, 7, 4], [4, 8], [0, 8, 0], [9, 10, 0, 1, 2, 3, 4, 5, 6, 7, 8, 9, 10]])
                   (.ret))
                   (.seq (.seq (.reg [⟨some 159, .bin .eql (.t 24) (.k (.int .u8 13)), none⟩,
                     ⟨some 158, .mv (.t 159), none⟩])
                   (.cond (.t 158) (.skip)
                     (.reg [⟨some 160, .bin .eql (.t 24) (.k (.int .u8 14)), none⟩,
                       ⟨some 158, .mv (.t 160), none⟩])))
                   (.cond (.t 158) (.seq (.regD [⟨some 161, .mv (.t 0), none⟩,
                       ⟨some 162, .mv (.t 0), none⟩,
                       ⟨some 163, .faddr 3 (.t 5), none⟩,
                       ⟨some 164, .load false 1 (.t 163), none⟩,
                       ⟨some 165, .faddr 4 (.t 5), none⟩,
                       ⟨some 166, .load false 1 (.t 165), none⟩,
                       ⟨some 167, .call (.k (.fn 28 [] [])) [(.t 162), (.t 164), (.t 166)], none⟩,
                       ⟨some 168, .mv (.t 1), none⟩,
                       ⟨some 169, .faddr 3 (.t 5), none⟩,
                       ⟨some 170, .load false 1 (.t 169), none⟩,
                       ⟨some 171, .faddr 4 (.t 5), none⟩,
                       ⟨some 172, .load false 1 (.t 171), none⟩,
                       ⟨some 173, .call (.k (.fn 61 [] [])) [(.t 168), (.t 170), (.t 172)], none⟩,
                       ⟨some 174, .bin .eql (.t 167) (.t 173), none⟩,
                       ⟨some 6, .mv (.t 161), none⟩,
                       ⟨some 7, .mv (.t 174), none⟩] [[], [], [], [2], [], [4], [1, 3, 5], [], [], [8], [], [10], [7, 9, 11, 6], [6, 12], [0, 12, 0], [13, 14, 0, 1, 2, 3, 4, 5, 6, 7, 8, 9, 10, 11, 12, 13, 14]])
                     (.ret))
                     (.seq (.reg [⟨some 176, .bin .eql (.t 24) (.k (.int .u8 15)), none⟩,
                       ⟨some 175, .mv (.t 176), none⟩])
                     (.cond (.t 175) (.seq (.reg [⟨some 178, .mv (.t 0), none⟩,
                         ⟨some 179, .faddr 3 (.t 5), none⟩,
                         ⟨some 180, .load false 1 (.t 179), none⟩,
                         ⟨some 181, .call (.k (.fn 16 [] [])) [(.t 178), (.t 180)], none⟩,
                         ⟨some 177, .mv (.t 181), none⟩,
                         ⟨some 182, .ext (.t 177) 0, none⟩,
                         ⟨some 183, .ext (.t 177) 1, none⟩,
                         ⟨some 8, .mv (.t 182), none⟩,
                         ⟨some 9, .mv (.t 183), none⟩])
                       (.seq (.reg [⟨some 185, .mv (.t 1), none⟩,
                         ⟨some 186, .faddr 3 (.t 5), none⟩,
                         ⟨some 187, .load false 1 (.t 186), none⟩,
                         ⟨some 188, .call (.k (.fn 62 [] [])) [(.t 185), (.t 187)], none⟩,
                         ⟨some 184, .mv (.t 188), none⟩,
                         ⟨some 189, .ext (.t 184) 0, none⟩,
                         ⟨some 190, .ext (.t 184) 1, none⟩,
                         ⟨some 10, .mv (.t 189), none⟩,
                         ⟨some 11, .mv (.t 190), none⟩])
                       (.seq (.reg [⟨some 191, .mv (.t 0), none⟩,
                         ⟨some 192, .mv (.t 8), none⟩,
                         ⟨some 193, .mv (.t 10), none⟩,
                         ⟨some 194, .bin .eql (.t 192) (.t 193), none⟩,
                         ⟨some 195, .mv (.t 194), none⟩,
                         ⟨some 196, .mv (.t 9), some (195, true)⟩,
                         ⟨some 197, .mv (.t 11), some (195, true)⟩,
                         ⟨some 198, .bin .eql (.t 196) (.t 197), some (195, true)⟩,
                         ⟨some 199, .pick (.t 195) (.t 198) (.k (.bool false)), none⟩,
                         ⟨some 6, .mv (.t 191), none⟩,
                         ⟨some 7, .mv (.t 199), none⟩])
                       (.ret))))
                       (.seq (.reg [⟨some 201, .bin .eql (.t 24) (.k (.int .u8 16)), none⟩,
                         ⟨some 200, .mv (.t 201), none⟩])
                       (.cond (.t 200) (.seq (.reg [⟨some 203, .mv (.t 0), none⟩,
                           ⟨some 204, .faddr 1 (.t 5), none⟩,
                           ⟨some 205, .load false 1 (.t 204), none⟩,
                           ⟨some 206, .call (.k (.fn 17 [] [])) [(.t 203), (.t 205)], none⟩,
                           ⟨some 202, .mv (.t 206), none⟩,
                           ⟨some 207, .ext (.t 202) 0, none⟩,
                           ⟨some 208, .ext (.t 202) 1, none⟩,
                           ⟨some 209, .ext (.t 202) 2, none⟩,
                           ⟨some 12, .mv (.t 207), none⟩,
                           ⟨some 13, .mv (.t 208), none⟩,
                           ⟨some 14, .mv (.t 209), none⟩])
                         (.seq (.reg [⟨some 211, .mv (.t 1), none⟩,
                           ⟨some 212, .faddr 1 (.t 5), none⟩,
                           ⟨some 213, .load false 1 (.t 212), none⟩,
                           ⟨some 214, .call (.k (.fn 63 [] [])) [(.t 211), (.t 213)], none⟩,
                           ⟨some 210, .mv (.t 214), none⟩,
                           ⟨some 215, .ext (.t 210) 0, none⟩,
                           ⟨some 216, .ext (.t 210) 1, none⟩,
                           ⟨some 217, .ext (.t 210) 2, none⟩,
                           ⟨some 15, .mv (.t 215), none⟩,
                           ⟨some 16, .mv (.t 216), none⟩,
                           ⟨some 17, .mv (.t 217), none⟩])
                         (.seq (.reg [⟨some 219, .mv (.t 0), none⟩,
                           ⟨some 220, .call (.k (.fn 18 [] [])) [(.t 219)], none⟩,
                           ⟨some 218, .mv (.t 220), none⟩,
                           ⟨some 221, .ext (.t 218) 0, none⟩,
                           ⟨some 222, .ext (.t 218) 1, none⟩,
                           ⟨some 18, .new [(.int .i64 0), (.int .i64 0), (.int .i64 0), (.int .i64 0), (.int .i64 0)], none⟩,
                           ⟨none, .store 5 (.t 18) (.t 221), none⟩,
                           ⟨some 19, .mv (.t 222), none⟩])
                         (.seq (.regD [⟨some 223, .mv (.t 0), none⟩,
                           ⟨some 224, .mv (.t 12), none⟩,
                           ⟨some 225, .mv (.t 15), none⟩,
                           ⟨some 226, .bin .eql (.t 224) (.t 225), none⟩,
                           ⟨some 227, .mv (.t 226), none⟩,
                           ⟨some 228, .mv (.t 13), some (227, true)⟩,
                           ⟨some 229, .mv (.t 16), some (227, true)⟩,
                           ⟨some 230, .eqb false (.t 228) (.t 229), some (227, true)⟩,
                           ⟨some 231, .pick (.t 227) (.t 230) (.k (.bool false)), none⟩,
                           ⟨some 232, .mv (.t 231), none⟩,
                           ⟨some 233, .mv (.t 14), some (232, true)⟩,
                           ⟨some 234, .mv (.t 17), some (232, true)⟩,
                           ⟨some 235, .bin .eql (.t 233) (.t 234), some (232, true)⟩,
                           ⟨some 236, .pick (.t 232) (.t 235) (.k (.bool false)), none⟩,
                           ⟨some 237, .mv (.t 236), none⟩,
                           ⟨some 238, .load true 5 (.t 18), some (237, true)⟩,
                           ⟨some 239, .mv (.t 1), some (237, true)⟩,
                           ⟨some 240, .call (.k (.fn 64 [] [])) [(.t 239)], some (237, true)⟩,
                           ⟨some 241, .eqs false [0, 0, 0, 0, 0] (.t 238) (.t 240), some (237, true)⟩,
                           ⟨some 242, .pick (.t 237) (.t 241) (.k (.bool false)), none⟩,
                           ⟨some 243, .mv (.t 242), none⟩,
                           ⟨some 244, .mv (.t 19), some (243, true)⟩,
                           ⟨some 245, .bin .eql (.t 244) (.k (.int .i64 0)), some (243, true)⟩,
                           ⟨some 246, .pick (.t 243) (.t 245) (.k (.bool false)), none⟩,
                           ⟨some 6, .mv (.t 223), none⟩,
                           ⟨some 7, .mv (.t 246), none⟩] [[], [], [], [1, 2], [3], [4], [4], [5, 6, 4], [4, 7], [8, 4], [9], [9], [10, 11, 9], [9, 12], [13, 9], [14], [14], [16, 14, 14], [15, 17, 14], [14, 18], [19, 17], [20], [21, 20], [20, 22], [0, 20, 0], [23, 24, 0, 1, 2, 3, 4, 5, 6, 7, 8, 9, 10, 11, 12, 13, 14, 15, 16, 17, 18, 19, 20, 21, 22, 23, 24]])
                         (.ret)))))
                         (.seq (.reg [⟨some 248, .bin .eql (.t 24) (.k (.int .u8 17)), none⟩,
                           ⟨some 247, .mv (.t 248), none⟩])
                         (.cond (.t 247) (.seq (.reg [⟨some 250, .mv (.t 0), none⟩,
                             ⟨some 251, .call (.k (.fn 15 [] [])) [(.t 250)], none⟩,
                             ⟨some 252, .call (.k (.fn 12 [] [])) [(.t 251)], none⟩,
                             ⟨some 249, .mv (.t 252), none⟩,
                             ⟨some 253, .ext (.t 249) 0, none⟩,
                             ⟨some 254, .ext (.t 249) 1, none⟩,
                             ⟨some 20, .mv (.t 253), none⟩,
                             ⟨some 21, .mv (.t 254), none⟩])
                           (.seq (.seq (.reg [⟨some 255, .mv (.t 21), none⟩,
                             ⟨some 256, .bin .neq (.t 255) (.k (.int .i64 0)), none⟩])
                           (.cond (.t 256) (.seq (.reg [⟨some 257, .mv (.t 0), none⟩,
                               ⟨some 6, .mv (.t 257), none⟩,
                               ⟨some 7, .mv (.k (.bool false)), none⟩])
                             (.ret))
                             (.skip)))
                           (.seq (.reg [⟨some 258, .mv (.t 20), none⟩,
                             ⟨some 259, .mv (.t 20), none⟩,
                             ⟨some 260, .call (.k (.fn 15 [] [])) [(.t 259)], none⟩,
                             ⟨some 261, .mv (.t 1), none⟩,
                             ⟨some 262, .call (.k (.fn 24 [] [])) [(.t 261)], none⟩,
                             ⟨some 263, .call (.k (.fn 14 [] [])) [(.t 260), (.t 262)], none⟩,
                             ⟨some 6, .mv (.t 258), none⟩,
                             ⟨some 7, .mv (.t 263), none⟩])
                           (.ret))))
                           (.skip)))))))))))))))))))))))))))
  (.seq (.regD [⟨some 264, .mv (.t 0), none⟩,
    ⟨some 265, .mv (.t 0), none⟩,
    ⟨some 266, .faddr 5 (.t 5), none⟩,
    ⟨some 267, .load true 1 (.t 266), none⟩,
    ⟨some 268, .call (.k (.fn 26 [] [])) [(.t 265), (.t 267)], none⟩,
    ⟨some 269, .mv (.t 1), none⟩,
    ⟨some 270, .faddr 5 (.t 5), none⟩,
    ⟨some 271, .load true 1 (.t 270), none⟩,
    ⟨some 272, .call (.k (.fn 65 [] [])) [(.t 269), (.t 271)], none⟩,
    ⟨some 273, .bin .eql (.t 268) (.t 272), none⟩,
    ⟨some 6, .mv (.t 264), none⟩,
    ⟨some 7, .mv (.t 273), none⟩] [[], [], [], [2], [1, 3], [], [], [6], [5, 7, 4], [4, 8], [0, 8, 0], [9, 10, 0, 1, 2, 3, 4, 5, 6, 7, 8, 9, 10]])
  (.ret)))
def c24 : ACode :=
  .seq (.reg [⟨some 2, .new [.nils, .nils, .nils, .nils, (.int .i64 0), (.int .i64 0), (.int .i64 0), (.int .i64 0), (.int .i64 0), (.int .i64 0), (.int .i64 0), (.int .i64 0), (.int .i64 0), (.int .i64 0), (.int .i64 0), (.int .i64 0), (.int .i64 0), (.int .i64 0)], none⟩])
  (.seq (.reg [⟨some 6, .mv (.t 0), none⟩,
    ⟨some 7, .nchk (.t 6), none⟩,
    ⟨some 8, .faddr 66624 (.t 7), none⟩,
    ⟨some 9, .load true 15 (.t 8), none⟩,
    ⟨some 10, .build [.nils, .nils, .nils, .nils, (.int .i64 0), (.int .i64 0), (.int .i64 0), (.int .i64 0), (.int .i64 0), (.int .i64 0), (.int .i64 0), (.int .i64 0), (.int .i64 0), (.int .i64 0), (.int .i64 0), (.int .i64 0), (.int .i64 0), (.int .i64 0)] [(3, 15, (.t 9))], none⟩,
    ⟨some 3, .new [.nils, .nils, .nils, .nils, (.int .i64 0), (.int .i64 0), (.int .i64 0), (.int .i64 0), (.int .i64 0), (.int .i64 0), (.int .i64 0), (.int .i64 0), (.int .i64 0), (.int .i64 0), (.int .i64 0), (.int .i64 0), (.int .i64 0), (.int .i64 0)], none⟩,
    ⟨none, .store 18 (.t 3) (.t 10), none⟩])
  (.seq (.reg [⟨some 11, .bslice 4 0 [] [], none⟩,
    ⟨some 12, .mv (.t 0), none⟩,
    ⟨some 13, .nchk (.t 12), none⟩,
    ⟨some 14, .faddr 66624 (.t 13), none⟩,
    ⟨some 15, .faddr 0 (.t 14), none⟩,
    ⟨some 16, .faddr 0 (.t 15), none⟩,
    ⟨some 17, .load false 1 (.t 16), none⟩,
    ⟨some 18, .append 4 32 (.t 11) (.t 17), none⟩,
    ⟨some 19, .faddr 3 (.t 3), none⟩,
    ⟨some 20, .faddr 0 (.t 19), none⟩,
    ⟨some 21, .faddr 0 (.t 20), none⟩,
    ⟨none, .store 1 (.t 21) (.t 18), none⟩])
  (.seq (.seq (.reg [⟨some 4, .mv (.k (.int .i64 0)), none⟩])
  (.block 0 (.loop (.seq (.seq (.reg [⟨some 22, .mv (.t 4), none⟩,
      ⟨some 23, .bin .lss (.t 22) (.k (.int .i64 1024)), none⟩])
    (.cond (.t 23) (.skip)
      (.exit 0)))
    (.seq (.block 1 (.seq (.reg [⟨some 26, .faddr 0 (.t 3), none⟩,
       ⟨some 27, .load false 1 (.t 26), none⟩,
       ⟨some 28, .len (.t 27), none⟩,
       ⟨some 5, .mv (.t 28), none⟩])
     (.seq (.seq (.reg [⟨some 29, .mv (.t 0), none⟩,
       ⟨some 30, .mv (.t 4), none⟩,
       ⟨some 31, .nchk (.t 29), none⟩,
       ⟨some 32, .faddr 0 (.t 31), none⟩,
       ⟨some 33, .iaddrA 1024 1 (.t 32) (.t 30), none⟩,
       ⟨some 34, .load false 1 (.t 33), none⟩,
       ⟨some 35, .bin .neq (.t 34) (.k (.int .i64 0)), none⟩])
     (.cond (.t 35) (.seq (.regD [⟨some 36, .mv (.t 4), none⟩,
         ⟨some 37, .bin .gtr (.t 36) (.k (.int .i64 0)), none⟩,
         ⟨some 38, .mv (.t 37), none⟩,
         ⟨some 39, .mv (.t 0), some (38, true)⟩,
         ⟨some 40, .mv (.t 4), some (38, true)⟩,
         ⟨some 41, .bin .sub (.t 40) (.k (.int .i64 1)), some (38, true)⟩,
         ⟨some 42, .nchk (.t 39), some (38, true)⟩,
         ⟨some 43, .faddr 0 (.t 42), some (38, true)⟩,
         ⟨some 44, .iaddrA 1024 1 (.t 43) (.t 41), some (38, true)⟩,
         ⟨some 45, .load false 1 (.t 44), some (38, true)⟩,
         ⟨some 46, .mv (.t 0), some (38, true)⟩,
         ⟨some 47, .mv (.t 4), some (38, true)⟩,
         ⟨some 48, .nchk (.t 46), some (38, true)⟩,
         ⟨some 49, .faddr 0 (.t 48), some (38, true)⟩,
         ⟨some 50, .iaddrA 1024 1 (.t 49) (.t 47), some (38, true)⟩,
         ⟨some 51, .load false 1 (.t 50), some (38, true)⟩,
         ⟨some 52, .bin .eql (.t 45) (.t 51), some (38, true)⟩,
         ⟨some 53, .pick (.t 38) (.t 52) (.k (.bool false)), none⟩] [[], [0], [1], [2], [2], [4, 2], [3, 2], [6, 2], [7, 5, 2], [8, 2], [2], [2], [10, 2], [12, 2], [13, 11, 2], [14, 2], [9, 15, 2], [2, 16]])
       (.cond (.t 53) (.reg [⟨some 54, .faddr 0 (.t 3), none⟩,
           ⟨some 55, .load false 1 (.t 54), none⟩,
           ⟨some 56, .mv (.t 5), none⟩,
           ⟨some 57, .bin .sub (.t 56) (.k (.int .i64 1)), none⟩,
           ⟨some 58, .iaddrS 3 (.t 55) (.t 57), none⟩,
           ⟨some 59, .faddr 1 (.t 58), none⟩,
           ⟨some 60, .load false 1 (.t 59), none⟩,
           ⟨some 61, .bin .add (.t 60) (.k (.int .i64 1)), none⟩,
           ⟨some 62, .iaddrS 3 (.t 55) (.t 57), none⟩,
           ⟨some 63, .faddr 1 (.t 62), none⟩,
           ⟨none, .store 1 (.t 63) (.t 61), none⟩])
         (.regD [⟨some 64, .faddr 0 (.t 3), none⟩,
           ⟨some 65, .load false 1 (.t 64), none⟩,
           ⟨some 66, .mv (.t 4), none⟩,
           ⟨some 67, .mv (.t 0), none⟩,
           ⟨some 68, .mv (.t 4), none⟩,
           ⟨some 69, .nchk (.t 67), none⟩,
           ⟨some 70, .faddr 0 (.t 69), none⟩,
           ⟨some 71, .iaddrA 1024 1 (.t 70) (.t 68), none⟩,
           ⟨some 72, .load false 1 (.t 71), none⟩,
           ⟨some 73, .build [(.int .i64 0), (.int .i64 0), (.int .i64 0)] [(0, 1, (.t 66)), (1, 1, (.k (.int .i64 1))), (2, 1, (.t 72))], none⟩,
           ⟨some 74, .bslice 3 1 [(.int .i64 0), (.int .i64 0), (.int .i64 0)] [(0, 3, (.t 73))], none⟩,
           ⟨some 75, .append 3 24 (.t 65) (.t 74), none⟩,
           ⟨some 76, .faddr 0 (.t 3), none⟩,
           ⟨none, .store 1 (.t 76) (.t 75), none⟩] [[], [0], [], [], [], [3], [5], [6, 4], [7], [2, 8], [9], [1, 10], [0, 1, 2, 3, 4, 5, 6, 7, 8, 9, 10, 11], [12, 11, 11, 0, 1, 2, 3, 4, 5, 6, 7, 8, 9, 10, 11]])))
       (.skip)))
     (.seq (.seq (.reg [⟨some 77, .mv (.t 4), none⟩,
       ⟨some 78, .bin .rem (.t 77) (.k (.int .i64 16)), none⟩,
       ⟨some 79, .bin .eql (.t 78) (.k (.int .i64 0)), none⟩,
       ⟨some 80, .mv (.t 79), none⟩,
       ⟨some 81, .mv (.t 0), some (80, true)⟩,
       ⟨some 82, .mv (.t 4), some (80, true)⟩,
       ⟨some 83, .bin .quo (.t 82) (.k (.int .i64 16)), some (80, true)⟩,
       ⟨some 84, .nchk (.t 81), some (80, true)⟩,
       ⟨some 85, .faddr 1024 (.t 84), some (80, true)⟩,
       ⟨some 86, .iaddrA 64 1 (.t 85) (.t 83), some (80, true)⟩,
       ⟨some 87, .load false 1 (.t 86), some (80, true)⟩,
       ⟨some 88, .pick (.t 80) (.t 87) (.k (.bool false)), none⟩])
     (.cond (.t 88) (.reg [⟨some 89, .faddr 1 (.t 3), none⟩,
         ⟨some 90, .load false 1 (.t 89), none⟩,
         ⟨some 91, .mv (.t 4), none⟩,
         ⟨some 92, .bslice 1 1 [(.int .i64 0)] [(0, 1, (.t 91))], none⟩,
         ⟨some 93, .append 1 8 (.t 90) (.t 92), none⟩,
         ⟨some 94, .faddr 1 (.t 3), none⟩,
         ⟨none, .store 1 (.t 94) (.t 93), none⟩])
       (.skip)))
     (.seq (.reg [⟨some 95, .mv (.t 0), none⟩,
       ⟨some 96, .mv (.t 4), none⟩,
       ⟨some 97, .nchk (.t 95), none⟩,
       ⟨some 98, .faddr 0 (.t 97), none⟩,
       ⟨some 99, .iaddrA 1024 1 (.t 98) (.t 96), none⟩,
       ⟨some 100, .load false 1 (.t 99), none⟩,
       ⟨some 101, .bin .eql (.t 100) (.k (.int .i64 2)), none⟩,
       ⟨some 102, .mv (.t 101), none⟩,
       ⟨some 103, .mv (.t 0), some (102, true)⟩,
       ⟨some 104, .mv (.t 4), some (102, true)⟩,
       ⟨some 105, .nchk (.t 103), some (102, true)⟩,
       ⟨some 106, .faddr 1088 (.t 105), some (102, true)⟩,
       ⟨some 107, .iaddrA 1024 64 (.t 106) (.t 104), some (102, true)⟩,
       ⟨some 108, .load true 64 (.t 107), some (102, true)⟩,
       ⟨some 109, .build (List.replicate 64 (.int .u8 0)) [], some (102, true)⟩,
       ⟨some 110, .eqs true (List.replicate 64 0) (.t 108) (.t 109), some (102, true)⟩,
       ⟨some 111, .pick (.t 102) (.t 110) (.k (.bool false)), none⟩])
     (.cond (.t 111) (.regD [⟨some 112, .faddr 2 (.t 3), none⟩,
         ⟨some 113, .load false 1 (.t 112), none⟩,
         ⟨some 114, .mv (.t 4), none⟩,
         ⟨some 115, .mv (.t 0), none⟩,
         ⟨some 116, .mv (.t 4), none⟩,
         ⟨some 117, .nchk (.t 115), none⟩,
         ⟨some 118, .faddr 1088 (.t 117), none⟩,
         ⟨some 119, .iaddrA 1024 64 (.t 118) (.t 116), none⟩,
         ⟨some 120, .load true 64 (.t 119), none⟩,
         ⟨some 121, .build [(.int .i64 0), (.int .u8 0), (.int .u8 0), (.int .u8 0), (.int .u8 0), (.int .u8 0), (.int .u8 0), (.int .u8 0), (.int .u8 0), (.int .u8 0), (.int .u8 0), (.int .u8 0), (.int .u8 0), (.int .u8 0), (.int .u8 0), (.int .u8 0), (.int .u8 0), (.int .u8 0), (.int .u8 0), (.int .u8 0), (.int .u8 0), (.int .u8 0), (.int .u8 0), (.int .u8 0), (.int .u8 0), (.int .u8 0), (.int .u8 0), (.int .u8 0), (.int .u8 0), (.int .u8 0), (.int .u8 0), (.int .u8 0), (.int .u8 0), (.int .u8 0), (.int .u8 0), (.int .u8 0), (.int .u8 0), (.int .u8 0), (.int .u8 0), (.int .u8 0), (.int .u8 0), (.int .u8 0), (.int .u8 0), (.int .u8 0), (.int .u8 0), (.int .u8 0), (.int .u8 0), (.int .u8 0), (.int .u8 0), (.int .u8 0), (.int .u8 0), (.int .u8 0), (.int .u8 0), (.int .u8 0), (.int .u8 0), (.int .u8 0), (.int .u8 0), (.int .u8 0), (.int .u8 0), (.int .u8 0), (.int .u8 0), (.int .u8 0), (.int .u8 0), (.int .u8 0), (.int .u8 0)] [(0, 1, (.t 114)), (1, 64, (.t 120))], none⟩,
         ⟨some 122, .bslice 65 1 [(.int .i64 0), (.int .u8 0), (.int .u8 0), (.int .u8 0), (.int .u8 0), (.int .u8 0), (.int .u8 0), (.int .u8 0), (.int .u8 0), (.int .u8 0), (.int .u8 0), (.int .u8 0), (.int .u8 0), (.int .u8 0), (.int .u8 0), (.int .u8 0), (.int .u8 0), (.int .u8 0), (.int .u8 0), (.int .u8 0), (.int .u8 0), (.int .u8 0), (.int .u8 0), (.int .u8 0), (.int .u8 0), (.int .u8 0), (.int .u8 0), (.int .u8 0), (.int .u8 0), (.int .u8 0), (.int .u8 0), (.int .u8 0), (.int .u8 0), (.int .u8 0), (.int .u8 0), (.int .u8 0), (.int .u8 0), (.int .u8 0), (.int .u8 0), (.int .u8 0), (.int .u8 0), (.int .u8 0), (.int .u8 0), (.int .u8 0), (.int .u8 0), (.int .u8 0), (.int .u8 0), (.int .u8 0), (.int .u8 0), (.int .u8 0), (.int .u8 0), (.int .u8 0), (.int .u8 0), (.int .u8 0), (.int .u8 0), (.int .u8 0), (.int .u8 0), (.int .u8 0), (.int .u8 0), (.int .u8 0), (.int .u8 0), (.int .u8 0), (.int .u8 0), (.int .u8 0), (.int .u8 0)] [(0, 65, (.t 121))], none⟩,
         ⟨some 123, .append 65 72 (.t 113) (.t 122), none⟩,
         ⟨some 124, .faddr 2 (.t 3), none⟩,
         ⟨none, .store 1 (.t 124) (.t 123), none⟩] [[], [0], [], [], [], [3], [5], [6, 4], [7], [2, 8], [9], [1, 10], [0, 1, 2, 3, 4, 5, 6, 7, 8, 9, 10, 11], [12, 11, 11, 0, 1, 2, 3, 4, 5, 6, 7, 8, 9, 10, 11]])
       (.skip)))))))
    (.reg [⟨some 24, .mv (.t 4), none⟩,
      ⟨some 25, .bin .add (.t 24) (.k (.int .i64 1)), none⟩,
      ⟨some 4, .mv (.t 25), none⟩]))))))
  (.seq (.reg [⟨some 125, .load true 18 (.t 3), none⟩,
    ⟨none, .store 18 (.t 2) (.t 125), none⟩])
  (.ret)))))
theorem b24 : Body Try.prog 24 c24 [.cell 2 true 18] 126 := ⟨by kernel_rfl, _, _, Try.func24, rfl, by kernel_rfl, by kernel_rfl, rfl⟩
def c25 : ACode :=
  .seq (.reg [⟨some 2, .box (.t 0), none⟩,
    ⟨some 4, .mv (.k .nilp), none⟩,
    ⟨some 5, .mv (.k (.bool false)), none⟩])
  (.seq (.reg [⟨some 12, .load true 1 (.t 2), none⟩,
    ⟨some 13, .call (.k (.fn 21 [] [])) [(.t 12)], none⟩,
    ⟨some 11, .mv (.t 13), none⟩,
    ⟨some 14, .ext (.t 11) 0, none⟩,
    ⟨some 15, .ext (.t 11) 1, none⟩,
    ⟨some 6, .mv (.t 14), none⟩,
    ⟨some 7, .mv (.t 15), none⟩])
  (.seq (.reg [⟨some 17, .load true 1 (.t 2), none⟩,
    ⟨some 18, .call (.k (.fn 22 [] [])) [(.t 17)], none⟩,
    ⟨some 16, .mv (.t 18), none⟩,
    ⟨some 19, .ext (.t 16) 0, none⟩,
    ⟨some 20, .ext (.t 16) 1, none⟩,
    ⟨some 8, .mv (.t 19), none⟩,
    ⟨some 9, .mv (.t 20), none⟩])
  (.seq (.seq (.reg [⟨some 21, .mv (.t 7), none⟩,
    ⟨some 22, .bin .neq (.t 21) (.k (.int .i64 0)), none⟩,
    ⟨some 23, .mv (.t 22), none⟩,
    ⟨some 24, .mv (.t 9), some (23, false)⟩,
    ⟨some 25, .bin .neq (.t 24) (.k (.int .i64 0)), some (23, false)⟩,
    ⟨some 26, .pick (.t 23) (.k (.bool true)) (.t 25), none⟩])
  (.cond (.t 26) (.seq (.reg [⟨some 4, .mv (.k .nilp), none⟩,
      ⟨some 5, .mv (.k (.bool false)), none⟩])
    (.ret))
    (.skip)))
  (.seq (.seq (.reg [⟨some 10, .mv (.k (.int .i64 0)), none⟩])
  (.block 0 (.loop (.seq (.seq (.reg [⟨some 27, .mv (.t 10), none⟩,
      ⟨some 28, .mv (.t 1), none⟩,
      ⟨some 29, .len (.t 28), none⟩,
      ⟨some 30, .bin .lss (.t 27) (.t 29), none⟩])
    (.cond (.t 30) (.skip)
      (.exit 0)))
    (.seq (.block 1 (.seq (.seq (.reg [⟨some 33, .mv (.t 1), none⟩,
       ⟨some 34, .mv (.t 10), none⟩,
       ⟨some 35, .iaddrS 6 (.t 33) (.t 34), none⟩,
       ⟨some 36, .faddr 0 (.t 35), none⟩,
       ⟨some 37, .load false 1 (.t 36), none⟩,
       ⟨some 38, .bin .rem (.t 37) (.k (.int .u8 19)), none⟩,
       ⟨some 39, .bin .eql (.t 38) (.k (.int .u8 17)), none⟩])
     (.cond (.t 39) (.exit 1)
       (.skip)))
     (.reg [⟨some 41, .mv (.t 6), none⟩,
       ⟨some 42, .mv (.t 8), none⟩,
       ⟨some 43, .mv (.t 1), none⟩,
       ⟨some 44, .mv (.t 10), none⟩,
       ⟨some 45, .iaddrS 6 (.t 43) (.t 44), none⟩,
       ⟨some 46, .load true 6 (.t 45), none⟩,
       ⟨some 47, .call (.k (.fn 23 [] [])) [(.t 41), (.t 42), (.t 46)], none⟩,
       ⟨some 40, .mv (.t 47), none⟩,
       ⟨some 48, .ext (.t 40) 0, none⟩,
       ⟨some 49, .ext (.t 40) 1, none⟩,
       ⟨some 6, .mv (.t 48), none⟩])))
    (.reg [⟨some 31, .mv (.t 10), none⟩,
      ⟨some 32, .bin .add (.t 31) (.k (.int .i64 1)), none⟩,
      ⟨some 10, .mv (.t 32), none⟩]))))))
  (.seq (.reg [⟨some 50, .mv (.t 6), none⟩,
    ⟨some 4, .mv (.t 50), none⟩,
    ⟨some 5, .mv (.k (.bool true)), none⟩])
  (.ret))))))
def c26 : ACode :=
  .seq (.reg [⟨some 3, .box (.t 1), none⟩,
    ⟨some 4, .mv (.k (.int .i64 0)), none⟩])
  (.seq (.seq (.reg [⟨some 7, .mv (.t 0), none⟩,
    ⟨some 8, .call (.k (.fn 47 [] [])) [(.t 7)], none⟩,
    ⟨some 9, .un .not (.t 8), none⟩])
  (.cond (.t 9) (.seq (.reg [⟨some 4, .mv (.k (.int .i64 1)), none⟩])
    (.ret))
    (.skip)))
  (.seq (.reg [⟨some 11, .load true 1 (.t 3), none⟩,
    ⟨some 12, .call (.k (.fn 52 [] [])) [(.t 11)], none⟩,
    ⟨some 10, .mv (.t 12), none⟩,
    ⟨some 13, .ext (.t 10) 0, none⟩,
    ⟨some 14, .ext (.t 10) 1, none⟩,
    ⟨some 5, .new [.nils, (.int .i64 0), (.int .i64 0), (.int .i64 0), (.int .i64 0), (.int .i64 0), (.int .i64 0), (.int .i64 0), (.int .i64 0), (.int .i64 0), (.int .i64 0), (.int .i64 0), (.int .i64 0), (.int .i64 0), (.int .i64 0)], none⟩,
    ⟨none, .store 15 (.t 5) (.t 13), none⟩,
    ⟨some 6, .mv (.t 14), none⟩])
  (.seq (.seq (.reg [⟨some 15, .mv (.t 6), none⟩,
    ⟨some 16, .bin .eql (.t 15) (.k (.int .i64 0)), none⟩])
  (.cond (.t 16) (.reg [⟨some 17, .mv (.t 0), none⟩,
      ⟨some 18, .load true 15 (.t 5), none⟩,
      ⟨some 19, .nchk (.t 17), none⟩,
      ⟨some 20, .faddr 67585 (.t 19), none⟩,
      ⟨none, .store 15 (.t 20) (.t 18), none⟩])
    (.skip)))
  (.seq (.reg [⟨some 21, .mv (.t 6), none⟩,
    ⟨some 4, .mv (.t 21), none⟩])
  (.ret)))))
def c27 : ACode :=
  .seq (.reg [⟨some 6, .mv (.k .nils), none⟩,
    ⟨some 7, .mv (.k .nils), none⟩])
  (.seq (.reg [⟨some 8, .mv (.k .nils), none⟩])
  (.seq (.reg [⟨some 9, .mv (.k .nils), none⟩])
  (.seq (.seq (.reg [⟨some 13, .mv (.t 1), none⟩,
    ⟨some 10, .mv (.t 13), none⟩])
  (.block 0 (.loop (.seq (.seq (.reg [⟨some 14, .mv (.t 10), none⟩,
      ⟨some 15, .mv (.t 2), none⟩,
      ⟨some 16, .bin .lss (.t 14) (.t 15), none⟩])
    (.cond (.t 16) (.skip)
      (.exit 0)))
    (.seq (.block 1 (.seq (.reg [⟨some 20, .mv (.t 0), none⟩,
       ⟨some 21, .mv (.t 10), none⟩,
       ⟨some 22, .call (.k (.fn 16 [] [])) [(.t 20), (.t 21)], none⟩,
       ⟨some 19, .mv (.t 22), none⟩,
       ⟨some 23, .ext (.t 19) 0, none⟩,
       ⟨some 24, .ext (.t 19) 1, none⟩,
       ⟨some 11, .mv (.t 23), none⟩,
       ⟨some 12, .mv (.t 24), none⟩])
     (.seq (.reg [⟨some 25, .mv (.t 8), none⟩,
       ⟨some 26, .mv (.t 11), none⟩,
       ⟨some 27, .bslice 1 1 [(.int .u8 0)] [(0, 1, (.t 26))], none⟩,
       ⟨some 28, .append 1 1 (.t 25) (.t 27), none⟩,
       ⟨some 8, .mv (.t 28), none⟩])
     (.reg [⟨some 29, .mv (.t 9), none⟩,
       ⟨some 30, .mv (.t 12), none⟩,
       ⟨some 31, .bin .neq (.t 30) (.k (.int .i64 0)), none⟩,
       ⟨some 32, .bslice 1 1 [(.bool false)] [(0, 1, (.t 31))], none⟩,
       ⟨some 33, .append 1 1 (.t 29) (.t 32), none⟩,
       ⟨some 9, .mv (.t 33), none⟩]))))
    (.reg [⟨some 17, .mv (.t 10), none⟩,
      ⟨some 18, .bin .add (.t 17) (.k (.int .i64 1)), none⟩,
      ⟨some 10, .mv (.t 18), none⟩]))))))
  (.seq (.reg [⟨some 34, .mv (.t 8), none⟩,
    ⟨some 35, .mv (.t 9), none⟩,
    ⟨some 6, .mv (.t 34), none⟩,
    ⟨some 7, .mv (.t 35), none⟩])
  (.ret)))))
def c28 : ACode :=
  .seq (.reg [⟨some 6, .mv (.k (.int .i64 0)), none⟩])
  (.seq (.reg [⟨some 10, .mv (.t 0), none⟩,
    ⟨some 11, .mv (.t 1), none⟩,
    ⟨some 12, .call (.k (.fn 50 [] [])) [(.t 10), (.t 11)], none⟩,
    ⟨some 9, .mv (.t 12), none⟩,
    ⟨some 13, .ext (.t 9) 0, none⟩,
    ⟨some 14, .ext (.t 9) 1, none⟩,
    ⟨some 7, .mv (.t 13), none⟩,
    ⟨some 8, .mv (.t 14), none⟩])
  (.seq (.seq (.reg [⟨some 15, .mv (.t 8), none⟩,
    ⟨some 16, .bin .eql (.t 15) (.k (.int .i64 0)), none⟩])
  (.cond (.t 16) (.reg [⟨some 17, .mv (.t 7), none⟩,
      ⟨some 18, .mv (.t 2), none⟩,
      ⟨some 19, .nchk (.t 17), none⟩,
      ⟨none, .store 1 (.t 19) (.t 18), none⟩])
    (.skip)))
  (.seq (.reg [⟨some 20, .mv (.t 8), none⟩,
    ⟨some 6, .mv (.t 20), none⟩])
  (.ret))))
theorem b28 : Body Try.prog 28 c28 [.tmp 6] 21 := ⟨by kernel_rfl, _, _, Try.func28, rfl, by kernel_rfl, by kernel_rfl, rfl⟩
def c29 : ACode :=
  .seq (.reg [⟨some 6, .mv (.k (.int .i64 0)), none⟩])
  (.seq (.reg [⟨some 7, .mv (.t 0), none⟩,
    ⟨some 8, .mv (.t 1), none⟩,
    ⟨some 9, .mv (.t 2), none⟩,
    ⟨some 10, .call (.k (.fn 67 [] [])) [(.k (.int .i64 3)), (.k (.int .i64 2)), (.k (.int .i64 1))], none⟩,
    ⟨some 11, .call (.k (.fn 66 [] [])) [(.t 7), (.t 8), (.t 9), (.t 10)], none⟩,
    ⟨some 6, .mv (.t 11), none⟩])
  (.ret))
theorem b29 : Body Try.prog 29 c29 [.tmp 6] 12 := ⟨by kernel_rfl, _, _, Try.func29, rfl, by kernel_rfl, by kernel_rfl, rfl⟩
def c30 : ACode :=
  .seq (.reg [⟨some 6, .mv (.k (.int .i64 0)), none⟩])
  (.seq (.reg [⟨some 7, .mv (.t 0), none⟩,
    ⟨some 8, .mv (.t 1), none⟩,
    ⟨some 9, .mv (.t 2), none⟩,
    ⟨some 10, .call (.k (.fn 67 [] [])) [(.k (.int .i64 2)), (.k (.int .i64 1)), (.k (.int .i64 2))], none⟩,
    ⟨some 11, .call (.k (.fn 66 [] [])) [(.t 7), (.t 8), (.t 9), (.t 10)], none⟩,
    ⟨some 6, .mv (.t 11), none⟩])
  (.ret))
theorem b30 : Body Try.prog 30 c30 [.tmp 6] 12 := ⟨by kernel_rfl, _, _, Try.func30, rfl, by kernel_rfl, by kernel_rfl, rfl⟩
def c31 : ACode :=
  .seq (.reg [⟨some 2, .box (.t 0), none⟩,
    ⟨some 3, .box (.t 1), none⟩,
    ⟨some 4, .mv (.k (.bool false)), none⟩])
  (.seq (.reg [⟨some 5, .faddr 0 (.t 2), none⟩,
    ⟨some 6, .load true 1 (.t 5), none⟩,
    ⟨some 7, .faddr 0 (.t 3), none⟩,
    ⟨some 8, .load true 1 (.t 7), none⟩,
    ⟨some 9, .call (.k (.fn 68 [] [])) [(.t 6), (.t 8)], none⟩,
    ⟨some 10, .mv (.t 9), none⟩,
    ⟨some 11, .faddr 1 (.t 2), some (10, true)⟩,
    ⟨some 12, .load true 7 (.t 11), some (10, true)⟩,
    ⟨some 13, .faddr 1 (.t 3), some (10, true)⟩,
    ⟨some 14, .load true 7 (.t 13), some (10, true)⟩,
    ⟨some 15, .eqs false [0, 0, 0, 0, 0, 0, 0] (.t 12) (.t 14), some (10, true)⟩,
    ⟨some 16, .pick (.t 10) (.t 15) (.k (.bool false)), none⟩,
    ⟨some 17, .mv (.t 16), none⟩,
    ⟨some 18, .faddr 8 (.t 2), some (17, true)⟩,
    ⟨some 19, .load true 7 (.t 18), some (17, true)⟩,
    ⟨some 20, .faddr 8 (.t 3), some (17, true)⟩,
    ⟨some 21, .load true 7 (.t 20), some (17, true)⟩,
    ⟨some 22, .eqs false [0, 0, 0, 0, 0, 0, 0] (.t 19) (.t 21), some (17, true)⟩,
    ⟨some 23, .pick (.t 17) (.t 22) (.k (.bool false)), none⟩,
    ⟨some 4, .mv (.t 23), none⟩])
  (.ret))
theorem b31 : Body Try.prog 31 c31 [.tmp 4] 24 := ⟨by kernel_rfl, _, _, Try.func31, rfl, by kernel_rfl, by kernel_rfl, rfl⟩
def c32 : ACode :=
  .seq (.reg [⟨some 2, .box (.t 0), none⟩,
    ⟨some 4, .new [.nils, (.int .i64 0), (.int .i64 0), (.int .i64 0), (.int .i64 0), (.int .i64 0), (.int .i64 0), (.int .i64 0), (.int .i64 0), (.int .i64 0), (.int .i64 0), (.int .i64 0), (.int .i64 0), (.int .i64 0), (.int .i64 0)], none⟩,
    ⟨some 5, .mv (.k (.bool false)), none⟩,
    ⟨some 6, .mv (.k (.int .i64 0)), none⟩])
  (.seq (.reg [⟨some 9, .load true 15 (.t 2), none⟩,
    ⟨some 10, .call (.k (.fn 44 [] [])) [(.t 9)], none⟩,
    ⟨some 7, .mv (.t 10), none⟩])
  (.seq (.seq (.reg [⟨some 11, .mv (.t 7), none⟩,
    ⟨some 12, .bin .eql (.t 11) (.k (.int .i64 0)), none⟩,
    ⟨some 13, .mv (.t 12), none⟩,
    ⟨some 14, .mv (.t 1), some (13, true)⟩,
    ⟨some 15, .call (.k (.fn 69 [] [])) [(.t 14), (.k (.int .i64 0)), (.k (.int .i64 6))], some (13, true)⟩,
    ⟨some 16, .un .not (.t 15), some (13, true)⟩,
    ⟨some 17, .pick (.t 13) (.t 16) (.k (.bool false)), none⟩])
  (.cond (.t 17) (.reg [⟨some 7, .mv (.k (.int .i64 2)), none⟩])
    (.skip)))
  (.seq (.seq (.reg [⟨some 18, .mv (.t 7), none⟩,
    ⟨some 19, .bin .eql (.t 18) (.k (.int .i64 0)), none⟩,
    ⟨some 20, .mv (.t 19), none⟩,
    ⟨some 21, .mv (.t 1), some (20, true)⟩,
    ⟨some 22, .faddr 1 (.t 2), some (20, true)⟩,
    ⟨some 23, .iaddrA 7 1 (.t 22) (.t 21), some (20, true)⟩,
    ⟨some 24, .load false 1 (.t 23), some (20, true)⟩,
    ⟨some 25, .bin .eql (.t 24) (.k (.int .i64 1000000)), some (20, true)⟩,
    ⟨some 26, .pick (.t 20) (.t 25) (.k (.bool false)), none⟩])
  (.cond (.t 26) (.reg [⟨some 7, .mv (.k (.int .i64 3)), none⟩])
    (.skip)))
  (.seq (.seq (.reg [⟨some 27, .mv (.t 7), none⟩,
    ⟨some 28, .bin .neq (.t 27) (.k (.int .i64 0)), none⟩])
  (.cond (.t 28) (.seq (.reg [⟨some 29, .build [.nils, (.int .i64 0), (.int .i64 0), (.int .i64 0), (.int .i64 0), (.int .i64 0), (.int .i64 0), (.int .i64 0), (.int .i64 0), (.int .i64 0), (.int .i64 0), (.int .i64 0), (.int .i64 0), (.int .i64 0), (.int .i64 0)] [], none⟩,
      ⟨some 30, .mv (.t 7), none⟩,
      ⟨none, .store 15 (.t 4) (.t 29), none⟩,
      ⟨some 5, .mv (.k (.bool false)), none⟩,
      ⟨some 6, .mv (.t 30), none⟩])
    (.ret))
    (.skip)))
  (.seq (.reg [⟨some 31, .mv (.t 1), none⟩,
    ⟨some 32, .faddr 1 (.t 2), none⟩,
    ⟨some 33, .iaddrA 7 1 (.t 32) (.t 31), none⟩,
    ⟨some 34, .load false 1 (.t 33), none⟩,
    ⟨some 35, .bin .add (.t 34) (.k (.int .i64 1)), none⟩,
    ⟨some 36, .faddr 1 (.t 2), none⟩,
    ⟨some 37, .iaddrA 7 1 (.t 36) (.t 31), none⟩,
    ⟨none, .store 1 (.t 37) (.t 35), none⟩])
  (.seq (.regD [⟨some 38, .faddr 0 (.t 2), none⟩,
    ⟨some 39, .load true 1 (.t 38), none⟩,
    ⟨some 40, .mv (.t 1), none⟩,
    ⟨some 41, .mv (.t 1), none⟩,
    ⟨some 42, .faddr 1 (.t 2), none⟩,
    ⟨some 43, .iaddrA 7 1 (.t 42) (.t 41), none⟩,
    ⟨some 44, .load false 1 (.t 43), none⟩,
    ⟨some 45, .call (.k (.fn 70 [] [])) [(.t 39), (.t 40), (.t 44)], none⟩,
    ⟨some 8, .mv (.t 45), none⟩] [[], [0], [], [], [], [4, 3], [5], [1, 2, 6], [7, 7, 0, 1, 2, 3, 4, 5, 6, 7]])
  (.seq (.seq (.reg [⟨some 46, .mv (.t 8), none⟩])
  (.cond (.t 46) (.reg [⟨some 47, .mv (.t 1), none⟩,
      ⟨some 48, .faddr 8 (.t 2), none⟩,
      ⟨some 49, .iaddrA 7 1 (.t 48) (.t 47), none⟩,
      ⟨some 50, .load false 1 (.t 49), none⟩,
      ⟨some 51, .bin .add (.t 50) (.k (.int .i64 1)), none⟩,
      ⟨some 52, .faddr 8 (.t 2), none⟩,
      ⟨some 53, .iaddrA 7 1 (.t 52) (.t 47), none⟩,
      ⟨none, .store 1 (.t 53) (.t 51), none⟩])
    (.skip)))
  (.seq (.reg [⟨some 54, .load true 15 (.t 2), none⟩,
    ⟨some 55, .mv (.t 8), none⟩,
    ⟨none, .store 15 (.t 4) (.t 54), none⟩,
    ⟨some 5, .mv (.t 55), none⟩,
    ⟨some 6, .mv (.k (.int .i64 0)), none⟩])
  (.ret)))))))))
def c33 : ACode :=
  .seq (.reg [⟨some 4, .mv (.k (.int .i64 0)), none⟩])
  (.seq (.seq (.reg [⟨some 5, .mv (.t 0), none⟩,
    ⟨some 6, .call (.k (.fn 47 [] [])) [(.t 5)], none⟩,
    ⟨some 7, .mv (.t 6), none⟩,
    ⟨some 8, .mv (.t 1), some (7, true)⟩,
    ⟨some 9, .call (.k (.fn 39 [] [])) [(.t 8)], some (7, true)⟩,
    ⟨some 10, .un .not (.t 9), some (7, true)⟩,
    ⟨some 11, .pick (.t 7) (.t 10) (.k (.bool false)), none⟩])
  (.cond (.t 11) (.seq (.reg [⟨some 4, .mv (.k (.int .i64 7)), none⟩])
    (.ret))
    (.skip)))
  (.seq (.reg [⟨some 12, .mv (.t 0), none⟩,
    ⟨some 13, .mv (.t 1), none⟩,
    ⟨some 14, .build [(.int .i64 0), .nilf, .nilf] [(0, 1, (.k (.int .i64 6))), (1, 1, (.k (.fn 71 [] []))), (2, 1, (.k (.fn 72 [] [])))], none⟩,
    ⟨some 15, .call (.k (.fn 66 [] [])) [(.t 12), (.t 13), (.k (.int .i64 16)), (.t 14)], none⟩,
    ⟨some 4, .mv (.t 15), none⟩])
  (.ret)))
def c34 : ACode :=
  .seq (.reg [⟨some 8, .mv (.k (.int .i64 0)), none⟩])
  (.seq (.reg [⟨some 9, .mv (.k (.int .i64 3)), none⟩,
    ⟨some 10, .mv (.k (.int .i64 1)), none⟩])
  (.seq (.seq (.reg [⟨some 11, .mv (.t 3), none⟩])
  (.cond (.t 11) (.reg [⟨some 12, .mv (.t 10), none⟩,
      ⟨some 13, .mv (.t 9), none⟩,
      ⟨some 9, .mv (.t 12), none⟩,
      ⟨some 10, .mv (.t 13), none⟩])
    (.skip)))
  (.seq (.reg [⟨some 14, .mv (.t 0), none⟩,
    ⟨some 15, .mv (.t 1), none⟩,
    ⟨some 16, .mv (.t 2), none⟩,
    ⟨some 17, .mv (.t 9), none⟩,
    ⟨some 18, .mv (.t 10), none⟩,
    ⟨some 19, .call (.k (.fn 67 [] [])) [(.k (.int .i64 4)), (.t 17), (.t 18)], none⟩,
    ⟨some 20, .call (.k (.fn 66 [] [])) [(.t 14), (.t 15), (.t 16), (.t 19)], none⟩,
    ⟨some 8, .mv (.t 20), none⟩])
  (.ret))))
theorem b34 : Body Try.prog 34 c34 [.tmp 8] 21 := ⟨by kernel_rfl, _, _, Try.func34, rfl, by kernel_rfl, by kernel_rfl, rfl⟩
def c35 : ACode :=
  .seq (.reg [⟨some 6, .mv (.k (.int .i64 0)), none⟩])
  (.seq (.reg [⟨some 7, .mv (.t 0), none⟩,
    ⟨some 8, .mv (.t 1), none⟩,
    ⟨some 9, .mv (.t 2), none⟩,
    ⟨some 10, .call (.k (.fn 67 [] [])) [(.k (.int .i64 1)), (.k (.int .i64 1)), (.k (.int .i64 0))], none⟩,
    ⟨some 11, .call (.k (.fn 66 [] [])) [(.t 7), (.t 8), (.t 9), (.t 10)], none⟩,
    ⟨some 6, .mv (.t 11), none⟩])
  (.ret))
theorem b35 : Body Try.prog 35 c35 [.tmp 6] 12 := ⟨by kernel_rfl, _, _, Try.func35, rfl, by kernel_rfl, by kernel_rfl, rfl⟩
def c36 : ACode :=
  .seq (.reg [⟨some 6, .mv (.k (.int .i64 0)), none⟩])
  (.seq (.reg [⟨some 7, .mv (.t 0), none⟩,
    ⟨some 8, .mv (.t 1), none⟩,
    ⟨some 9, .mv (.t 2), none⟩,
    ⟨some 10, .call (.k (.fn 67 [] [])) [(.k (.int .i64 0)), (.k (.int .i64 0)), (.k (.int .i64 1))], none⟩,
    ⟨some 11, .call (.k (.fn 66 [] [])) [(.t 7), (.t 8), (.t 9), (.t 10)], none⟩,
    ⟨some 6, .mv (.t 11), none⟩])
  (.ret))
theorem b36 : Body Try.prog 36 c36 [.tmp 6] 12 := ⟨by kernel_rfl, _, _, Try.func36, rfl, by kernel_rfl, by kernel_rfl, rfl⟩
def c37 : ACode :=
  .seq (.reg [⟨some 1, .box (.t 0), none⟩,
    ⟨some 2, .mv (.k (.int .i64 0)), none⟩])
  (.seq (.seq (.reg [⟨some 8, .faddr 0 (.t 1), none⟩,
    ⟨some 9, .load true 1 (.t 8), none⟩,
    ⟨some 10, .call (.k (.fn 73 [] [])) [(.t 9)], none⟩,
    ⟨some 7, .mv (.t 10), none⟩,
    ⟨some 11, .ext (.t 7) 0, none⟩,
    ⟨some 12, .ext (.t 7) 1, none⟩,
    ⟨some 3, .mv (.t 11), none⟩,
    ⟨some 4, .mv (.t 12), none⟩])
  (.seq (.reg [⟨some 13, .mv (.t 4), none⟩,
    ⟨some 14, .bin .neq (.t 13) (.k (.int .i64 0)), none⟩])
  (.cond (.t 14) (.seq (.reg [⟨some 15, .mv (.t 4), none⟩,
      ⟨some 2, .mv (.t 15), none⟩])
    (.ret))
    (.skip))))
  (.seq (.seq (.reg [⟨some 16, .faddr 1 (.t 1), none⟩,
    ⟨some 17, .load true 7 (.t 16), none⟩,
    ⟨some 18, .mv (.k (.int .i64 0)), none⟩])
  (.block 0 (.loop (.seq (.reg [⟨some 19, .bin .lss (.t 18) (.k (.int .i64 7)), none⟩])
    (.seq (.cond (.t 19) (.skip)
      (.exit 0))
    (.seq (.block 1 (.seq (.reg [⟨some 20, .mv (.t 18), none⟩,
       ⟨some 21, .idx false 7 1 (.t 17) (.t 18), none⟩,
       ⟨some 5, .mv (.t 20), none⟩,
       ⟨some 6, .mv (.t 21), none⟩])
     (.seq (.regD [⟨some 22, .mv (.t 6), none⟩,
       ⟨some 23, .bin .lss (.t 22) (.k (.int .i64 0)), none⟩,
       ⟨some 24, .mv (.t 23), none⟩,
       ⟨some 25, .mv (.t 6), some (24, false)⟩,
       ⟨some 26, .bin .gtr (.t 25) (.k (.int .i64 1000000)), some (24, false)⟩,
       ⟨some 27, .pick (.t 24) (.k (.bool true)) (.t 26), none⟩,
       ⟨some 28, .mv (.t 27), none⟩,
       ⟨some 29, .faddr 0 (.t 1), some (28, false)⟩,
       ⟨some 30, .load true 1 (.t 29), some (28, false)⟩,
       ⟨some 31, .mv (.t 5), some (28, false)⟩,
       ⟨some 32, .mv (.t 6), some (28, false)⟩,
       ⟨some 33, .call (.k (.fn 74 [] [])) [(.t 30), (.t 31), (.t 32)], some (28, false)⟩,
       ⟨some 34, .mv (.t 5), some (28, false)⟩,
       ⟨some 35, .faddr 8 (.t 1), some (28, false)⟩,
       ⟨some 36, .iaddrA 7 1 (.t 35) (.t 34), some (28, false)⟩,
       ⟨some 37, .load false 1 (.t 36), some (28, false)⟩,
       ⟨some 38, .bin .neq (.t 33) (.t 37), some (28, false)⟩,
       ⟨some 39, .pick (.t 28) (.k (.bool true)) (.t 38), none⟩] [[], [0], [1], [2], [3, 2], [2, 4], [5, 2], [6], [7, 6], [6], [6], [8, 9, 10, 6, 6], [6], [6], [13, 12, 6], [14, 6], [11, 15, 6], [6, 16]])
     (.cond (.t 39) (.seq (.reg [⟨some 2, .mv (.k (.int .i64 6)), none⟩])
       (.ret))
       (.skip)))))
    (.reg [⟨some 40, .bin .add (.t 18) (.k (.int .i64 1)), none⟩,
      ⟨some 18, .mv (.t 40), none⟩])))))))
  (.seq (.reg [⟨some 2, .mv (.k (.int .i64 0)), none⟩])
  (.ret))))
theorem b37 : Body Try.prog 37 c37 [.tmp 2] 41 := ⟨by kernel_rfl, _, _, Try.func37, rfl, by kernel_rfl, by kernel_rfl, rfl⟩
def c38 : ACode :=
  .seq (.reg [⟨some 2, .mv (.k .nils), none⟩])
  (.seq (.seq (.reg [⟨some 3, .mv (.t 0), none⟩,
    ⟨some 4, .eqn false (.t 3), none⟩])
  (.cond (.t 4) (.seq (.reg [⟨some 2, .mv (.k .nils), none⟩])
    (.ret))
    (.skip)))
  (.seq (.reg [⟨some 5, .bslice 4 0 [] [], none⟩,
    ⟨some 6, .mv (.t 0), none⟩,
    ⟨some 7, .append 4 32 (.t 5) (.t 6), none⟩,
    ⟨some 2, .mv (.t 7), none⟩])
  (.ret)))
theorem b38 : Body Try.prog 38 c38 [.tmp 2] 8 := ⟨by kernel_rfl, _, _, Try.func38, rfl, by kernel_rfl, by kernel_rfl, rfl⟩
def c39 : ACode :=
  .seq (.reg [⟨some 2, .mv (.k (.bool false)), none⟩])
  (.seq (.reg [⟨some 3, .mv (.t 0), none⟩,
    ⟨some 4, .bin .geq (.t 3) (.k (.int .i64 0)), none⟩,
    ⟨some 5, .mv (.t 4), none⟩,
    ⟨some 6, .mv (.t 0), some (5, true)⟩,
    ⟨some 7, .bin .lss (.t 6) (.k (.int .i64 1024)), some (5, true)⟩,
    ⟨some 8, .pick (.t 5) (.t 7) (.k (.bool false)), none⟩,
    ⟨some 9, .mv (.t 8), none⟩,
    ⟨some 10, .mv (.t 0), some (9, true)⟩,
    ⟨some 11, .bin .rem (.t 10) (.k (.int .i64 16)), some (9, true)⟩,
    ⟨some 12, .bin .eql (.t 11) (.k (.int .i64 0)), some (9, true)⟩,
    ⟨some 13, .pick (.t 9) (.t 12) (.k (.bool false)), none⟩,
    ⟨some 2, .mv (.t 13), none⟩])
  (.ret))
theorem b39 : Body Try.prog 39 c39 [.tmp 2] 14 := ⟨by kernel_rfl, _, _, Try.func39, rfl, by kernel_rfl, by kernel_rfl, rfl⟩
def c40 : ACode :=
  .seq (.reg [⟨some 8, .mv (.k (.bool false)), none⟩])
  (.seq (.seq (.reg [⟨some 10, .mv (.t 2), none⟩,
    ⟨some 11, .mv (.k (.int .i64 0)), none⟩])
  (.block 0 (.loop (.seq (.reg [⟨some 12, .bin .lss (.t 11) (.t 10), none⟩])
    (.seq (.cond (.t 12) (.skip)
      (.exit 0))
    (.seq (.block 1 (.seq (.reg [⟨some 13, .mv (.t 11), none⟩,
       ⟨some 9, .mv (.t 13), none⟩])
     (.seq (.reg [⟨some 14, .mv (.t 3), none⟩,
       ⟨some 15, .mv (.t 0), none⟩,
       ⟨some 16, .mv (.t 1), none⟩,
       ⟨some 17, .mv (.t 9), none⟩,
       ⟨some 18, .bin .add (.t 16) (.t 17), none⟩,
       ⟨some 19, .nchk (.t 15), none⟩,
       ⟨some 20, .faddr 1 (.t 19), none⟩,
       ⟨some 21, .iaddrA 1024 66 (.t 20) (.t 18), none⟩,
       ⟨some 22, .call (.t 14) [(.t 21)], none⟩,
       ⟨some 23, .un .not (.t 22), none⟩])
     (.cond (.t 23) (.seq (.reg [⟨some 8, .mv (.k (.bool false)), none⟩])
       (.ret))
       (.skip)))))
    (.reg [⟨some 24, .bin .add (.t 11) (.k (.int .i64 1)), none⟩,
      ⟨some 11, .mv (.t 24), none⟩])))))))
  (.seq (.reg [⟨some 8, .mv (.k (.bool true)), none⟩])
  (.ret)))
theorem b40 : Body Try.prog 40 c40 [.tmp 8] 25 := ⟨by kernel_rfl, _, _, Try.func40, rfl, by kernel_rfl, by kernel_rfl, rfl⟩
def c41 : ACode :=
  .seq (.reg [⟨some 2, .mv (.k (.bool false)), none⟩])
  (.seq (.reg [⟨some 3, .mv (.t 0), none⟩,
    ⟨some 4, .nchk (.t 3), none⟩,
    ⟨some 5, .faddr 0 (.t 4), none⟩,
    ⟨some 6, .load false 1 (.t 5), none⟩,
    ⟨some 7, .bin .eql (.t 6) (.k (.int .i64 2)), none⟩,
    ⟨some 2, .mv (.t 7), none⟩])
  (.ret))
theorem b41 : Body Try.prog 41 c41 [.tmp 2] 8 := ⟨by kernel_rfl, _, _, Try.func41, rfl, by kernel_rfl, by kernel_rfl, rfl⟩
def c42 : ACode :=
  .seq (.reg [⟨some 9, .mv (.t 2), none⟩,
    ⟨some 10, .mv (.k (.int .i64 0)), none⟩])
  (.block 0 (.loop (.seq (.reg [⟨some 11, .bin .lss (.t 10) (.t 9), none⟩])
    (.seq (.cond (.t 11) (.skip)
      (.exit 0))
    (.seq (.block 1 (.seq (.reg [⟨some 12, .mv (.t 10), none⟩,
       ⟨some 8, .mv (.t 12), none⟩])
     (.reg [⟨some 13, .mv (.t 3), none⟩,
       ⟨some 14, .mv (.t 0), none⟩,
       ⟨some 15, .mv (.t 1), none⟩,
       ⟨some 16, .mv (.t 8), none⟩,
       ⟨some 17, .bin .add (.t 15) (.t 16), none⟩,
       ⟨some 18, .nchk (.t 14), none⟩,
       ⟨some 19, .faddr 1 (.t 18), none⟩,
       ⟨some 20, .iaddrA 1024 66 (.t 19) (.t 17), none⟩,
       ⟨some 21, .call (.t 13) [(.t 20)], none⟩])))
    (.reg [⟨some 22, .bin .add (.t 10) (.k (.int .i64 1)), none⟩,
      ⟨some 10, .mv (.t 22), none⟩]))))))
theorem b42 : Body Try.prog 42 c42 [] 23 := ⟨by kernel_rfl, _, _, Try.func42, rfl, by kernel_rfl, by kernel_rfl, rfl⟩
def c43 : ACode :=
  .reg [⟨some 2, .mv (.t 0), none⟩,
    ⟨some 3, .nchk (.t 2), none⟩,
    ⟨some 4, .faddr 1 (.t 3), none⟩,
    ⟨none, .store 1 (.t 4) (.k (.bool true)), none⟩]
theorem b43 : Body Try.prog 43 c43 [] 5 := ⟨by kernel_rfl, _, _, Try.func43, rfl, by kernel_rfl, by kernel_rfl, rfl⟩
def c44 : ACode :=
  .seq (.reg [⟨some 1, .box (.t 0), none⟩,
    ⟨some 2, .mv (.k (.int .i64 0)), none⟩])
  (.seq (.reg [⟨some 8, .faddr 0 (.t 1), none⟩,
    ⟨some 9, .load true 1 (.t 8), none⟩,
    ⟨some 10, .call (.k (.fn 75 [] [])) [(.t 9)], none⟩,
    ⟨some 7, .mv (.t 10), none⟩,
    ⟨some 11, .ext (.t 7) 0, none⟩,
    ⟨some 12, .ext (.t 7) 1, none⟩,
    ⟨some 3, .mv (.t 11), none⟩,
    ⟨some 4, .mv (.t 12), none⟩])
  (.seq (.seq (.reg [⟨some 13, .mv (.t 4), none⟩,
    ⟨some 14, .bin .neq (.t 13) (.k (.int .i64 0)), none⟩])
  (.cond (.t 14) (.seq (.reg [⟨some 15, .mv (.t 4), none⟩,
      ⟨some 2, .mv (.t 15), none⟩])
    (.ret))
    (.skip)))
  (.seq (.seq (.reg [⟨some 5, .mv (.k (.int .i64 0)), none⟩])
  (.block 0 (.loop (.seq (.seq (.reg [⟨some 16, .mv (.t 5), none⟩,
      ⟨some 17, .bin .lss (.t 16) (.k (.int .i64 7)), none⟩])
    (.cond (.t 17) (.skip)
      (.exit 0)))
    (.seq (.block 1 (.seq (.reg [⟨some 20, .mv (.t 5), none⟩,
       ⟨some 21, .faddr 1 (.t 1), none⟩,
       ⟨some 22, .iaddrA 7 1 (.t 21) (.t 20), none⟩,
       ⟨some 23, .load false 1 (.t 22), none⟩,
       ⟨some 24, .call (.k (.fn 69 [] [])) [(.t 23), (.k (.int .i64 0)), (.k (.int .i64 1000000))], none⟩,
       ⟨some 25, .un .not (.t 24), none⟩])
     (.cond (.t 25) (.seq (.reg [⟨some 2, .mv (.k (.int .i64 6)), none⟩])
       (.ret))
       (.skip))))
    (.reg [⟨some 18, .mv (.t 5), none⟩,
      ⟨some 19, .bin .add (.t 18) (.k (.int .i64 1)), none⟩,
      ⟨some 5, .mv (.t 19), none⟩]))))))
  (.seq (.seq (.reg [⟨some 6, .mv (.k (.int .i64 0)), none⟩])
  (.block 2 (.loop (.seq (.seq (.reg [⟨some 26, .mv (.t 6), none⟩,
      ⟨some 27, .bin .lss (.t 26) (.k (.int .i64 7)), none⟩])
    (.cond (.t 27) (.skip)
      (.exit 2)))
    (.seq (.block 3 (.seq (.regD [⟨some 30, .mv (.t 6), none⟩,
       ⟨some 31, .faddr 8 (.t 1), none⟩,
       ⟨some 32, .iaddrA 7 1 (.t 31) (.t 30), none⟩,
       ⟨some 33, .load false 1 (.t 32), none⟩,
       ⟨some 34, .faddr 0 (.t 1), none⟩,
       ⟨some 35, .load true 1 (.t 34), none⟩,
       ⟨some 36, .mv (.t 6), none⟩,
       ⟨some 37, .mv (.t 6), none⟩,
       ⟨some 38, .faddr 1 (.t 1), none⟩,
       ⟨some 39, .iaddrA 7 1 (.t 38) (.t 37), none⟩,
       ⟨some 40, .load false 1 (.t 39), none⟩,
       ⟨some 41, .call (.k (.fn 76 [] [])) [(.t 35), (.t 36), (.t 40)], none⟩,
       ⟨some 42, .bin .neq (.t 33) (.t 41), none⟩] [[], [], [1, 0], [2], [], [4], [], [], [], [8, 7], [9], [5, 6, 10], [3, 11]])
     (.cond (.t 42) (.seq (.reg [⟨some 2, .mv (.k (.int .i64 6)), none⟩])
       (.ret))
       (.skip))))
    (.reg [⟨some 28, .mv (.t 6), none⟩,
      ⟨some 29, .bin .add (.t 28) (.k (.int .i64 1)), none⟩,
      ⟨some 6, .mv (.t 29), none⟩]))))))
  (.seq (.reg [⟨some 2, .mv (.k (.int .i64 0)), none⟩])
  (.ret))))))
theorem b44 : Body Try.prog 44 c44 [.tmp 2] 43 := ⟨by kernel_rfl, _, _, Try.func44, rfl, by kernel_rfl, by kernel_rfl, rfl⟩
def c45 : ACode :=
  .seq (.reg [⟨some 2, .mv (.k (.bool false)), none⟩])
  (.seq (.reg [⟨some 3, .mv (.t 0), none⟩,
    ⟨some 4, .bin .geq (.t 3) (.k (.int .i64 0)), none⟩,
    ⟨some 5, .mv (.t 4), none⟩,
    ⟨some 6, .mv (.t 0), some (5, true)⟩,
    ⟨some 7, .bin .lss (.t 6) (.k (.int .i64 1024)), some (5, true)⟩,
    ⟨some 8, .pick (.t 5) (.t 7) (.k (.bool false)), none⟩,
    ⟨some 2, .mv (.t 8), none⟩])
  (.ret))
theorem b45 : Body Try.prog 45 c45 [.tmp 2] 9 := ⟨by kernel_rfl, _, _, Try.func45, rfl, by kernel_rfl, by kernel_rfl, rfl⟩
def c46 : ACode :=
  .seq (.reg [⟨some 8, .mv (.k (.bool false)), none⟩])
  (.seq (.seq (.reg [⟨some 10, .mv (.t 1), none⟩,
    ⟨some 9, .mv (.t 10), none⟩])
  (.block 0 (.loop (.seq (.seq (.reg [⟨some 11, .mv (.t 9), none⟩,
      ⟨some 12, .mv (.t 1), none⟩,
      ⟨some 13, .mv (.t 2), none⟩,
      ⟨some 14, .bin .add (.t 12) (.t 13), none⟩,
      ⟨some 15, .bin .lss (.t 11) (.t 14), none⟩])
    (.cond (.t 15) (.skip)
      (.exit 0)))
    (.seq (.block 1 (.seq (.reg [⟨some 18, .mv (.t 0), none⟩,
       ⟨some 19, .mv (.t 9), none⟩,
       ⟨some 20, .nchk (.t 18), none⟩,
       ⟨some 21, .faddr 0 (.t 20), none⟩,
       ⟨some 22, .iaddrA 1024 1 (.t 21) (.t 19), none⟩,
       ⟨some 23, .load false 1 (.t 22), none⟩,
       ⟨some 24, .mv (.t 3), none⟩,
       ⟨some 25, .bin .neq (.t 23) (.t 24), none⟩])
     (.cond (.t 25) (.seq (.reg [⟨some 8, .mv (.k (.bool false)), none⟩])
       (.ret))
       (.skip))))
    (.reg [⟨some 16, .mv (.t 9), none⟩,
      ⟨some 17, .bin .add (.t 16) (.k (.int .i64 1)), none⟩,
      ⟨some 9, .mv (.t 17), none⟩]))))))
  (.seq (.reg [⟨some 8, .mv (.k (.bool true)), none⟩])
  (.ret)))
theorem b46 : Body Try.prog 46 c46 [.tmp 8] 26 := ⟨by kernel_rfl, _, _, Try.func46, rfl, by kernel_rfl, by kernel_rfl, rfl⟩
def c47 : ACode :=
  .seq (.reg [⟨some 2, .mv (.k (.bool false)), none⟩])
  (.seq (.reg [⟨some 3, .mv (.t 0), none⟩,
    ⟨some 4, .eqp true false (.t 3) (.k .nilp), none⟩,
    ⟨some 5, .mv (.t 4), none⟩,
    ⟨some 6, .mv (.t 0), some (5, true)⟩,
    ⟨some 7, .nchk (.t 6), some (5, true)⟩,
    ⟨some 8, .faddr 0 (.t 7), some (5, true)⟩,
    ⟨some 9, .load false 1 (.t 8), some (5, true)⟩,
    ⟨some 10, .pick (.t 5) (.t 9) (.k (.bool false)), none⟩,
    ⟨some 2, .mv (.t 10), none⟩])
  (.ret))
theorem b47 : Body Try.prog 47 c47 [.tmp 2] 11 := ⟨by kernel_rfl, _, _, Try.func47, rfl, by kernel_rfl, by kernel_rfl, rfl⟩
def c48 : ACode :=
  .seq (.reg [⟨some 2, .mv (.k .nils), none⟩])
  (.seq (.reg [⟨some 3, .mv (.t 0), none⟩,
    ⟨some 4, .call (.k (.fn 77 [] [])) [(.k .nils), (.t 3)], none⟩,
    ⟨some 2, .mv (.t 4), none⟩])
  (.ret))
theorem b48 : Body Try.prog 48 c48 [.tmp 2] 5 := ⟨by kernel_rfl, _, _, Try.func48, rfl, by kernel_rfl, by kernel_rfl, rfl⟩
def c49 : ACode :=
  .seq (.reg [⟨some 1, .box (.t 0), none⟩,
    ⟨some 2, .mv (.k .nilf), none⟩])
  (.seq (.reg [⟨some 3, .mkfn 78 [] [(.t 1)], none⟩,
    ⟨some 2, .mv (.t 3), none⟩])
  (.ret))
theorem b49 : Body Try.prog 49 c49 [.tmp 2] 4 := ⟨by kernel_rfl, _, _, Try.func49, rfl, by kernel_rfl, by kernel_rfl, rfl⟩
def c50 : ACode :=
  .seq (.reg [⟨some 4, .mv (.k .nilp), none⟩,
    ⟨some 5, .mv (.k (.int .i64 0)), none⟩])
  (.seq (.seq (.reg [⟨some 7, .mv (.t 0), none⟩,
    ⟨some 8, .call (.k (.fn 47 [] [])) [(.t 7)], none⟩,
    ⟨some 9, .un .not (.t 8), none⟩])
  (.cond (.t 9) (.seq (.reg [⟨some 4, .mv (.k .nilp), none⟩,
      ⟨some 5, .mv (.k (.int .i64 1)), none⟩])
    (.ret))
    (.skip)))
  (.seq (.seq (.reg [⟨some 10, .mv (.t 1), none⟩,
    ⟨some 11, .bin .lss (.t 10) (.k (.int .i64 0)), none⟩,
    ⟨some 12, .mv (.t 11), none⟩,
    ⟨some 13, .mv (.t 1), some (12, false)⟩,
    ⟨some 14, .bin .geq (.t 13) (.k (.int .i64 65536)), some (12, false)⟩,
    ⟨some 15, .pick (.t 12) (.k (.bool true)) (.t 14), none⟩])
  (.cond (.t 15) (.seq (.reg [⟨some 4, .mv (.k .nilp), none⟩,
      ⟨some 5, .mv (.k (.int .i64 7)), none⟩])
    (.ret))
    (.skip)))
  (.seq (.reg [⟨some 16, .mv (.t 0), none⟩,
    ⟨some 17, .mv (.t 1), none⟩,
    ⟨some 18, .bin .quo (.t 17) (.k (.int .i64 64)), none⟩,
    ⟨some 19, .nchk (.t 16), none⟩,
    ⟨some 20, .faddr 1 (.t 19), none⟩,
    ⟨some 21, .iaddrA 1024 66 (.t 20) (.t 18), none⟩,
    ⟨some 6, .mv (.t 21), none⟩])
  (.seq (.seq (.reg [⟨some 22, .mv (.t 6), none⟩,
    ⟨some 23, .nchk (.t 22), none⟩,
    ⟨some 24, .faddr 0 (.t 23), none⟩,
    ⟨some 25, .load false 1 (.t 24), none⟩,
    ⟨some 26, .bin .neq (.t 25) (.k (.int .i64 2)), none⟩])
  (.cond (.t 26) (.seq (.reg [⟨some 4, .mv (.k .nilp), none⟩,
      ⟨some 5, .mv (.k (.int .i64 61)), none⟩])
    (.ret))
    (.skip)))
  (.seq (.reg [⟨some 27, .mv (.t 6), none⟩,
    ⟨some 28, .mv (.t 1), none⟩,
    ⟨some 29, .bin .rem (.t 28) (.k (.int .i64 64)), none⟩,
    ⟨some 30, .nchk (.t 27), none⟩,
    ⟨some 31, .faddr 2 (.t 30), none⟩,
    ⟨some 32, .iaddrA 64 1 (.t 31) (.t 29), none⟩,
    ⟨some 4, .mv (.t 32), none⟩,
    ⟨some 5, .mv (.k (.int .i64 0)), none⟩])
  (.ret))))))
theorem b50 : Body Try.prog 50 c50 [.tmp 4, .tmp 5] 33 := ⟨by kernel_rfl, _, _, Try.func50, rfl, by kernel_rfl, by kernel_rfl, rfl⟩
def c51 : ACode :=
  .seq (.reg [⟨some 4, .mv (.k (.int .i64 0)), none⟩])
  (.seq (.seq (.reg [⟨some 5, .mv (.t 0), none⟩,
    ⟨some 6, .call (.k (.fn 47 [] [])) [(.t 5)], none⟩,
    ⟨some 7, .un .not (.t 6), none⟩])
  (.cond (.t 7) (.seq (.reg [⟨some 4, .mv (.k (.int .i64 1)), none⟩])
    (.ret))
    (.skip)))
  (.seq (.seq (.reg [⟨some 8, .mv (.t 1), none⟩,
    ⟨some 9, .call (.k (.fn 39 [] [])) [(.t 8)], none⟩,
    ⟨some 10, .un .not (.t 9), none⟩])
  (.cond (.t 10) (.seq (.reg [⟨some 4, .mv (.k (.int .i64 7)), none⟩])
    (.ret))
    (.skip)))
  (.seq (.seq (.reg [⟨some 11, .mv (.t 0), none⟩,
    ⟨some 12, .mv (.t 1), none⟩,
    ⟨some 13, .nchk (.t 11), none⟩,
    ⟨some 14, .faddr 1 (.t 13), none⟩,
    ⟨some 15, .iaddrA 1024 66 (.t 14) (.t 12), none⟩,
    ⟨some 16, .faddr 1 (.t 15), none⟩,
    ⟨some 17, .load false 1 (.t 16), none⟩])
  (.cond (.t 17) (.seq (.reg [⟨some 4, .mv (.k (.int .i64 8)), none⟩])
    (.ret))
    (.skip)))
  (.seq (.reg [⟨some 18, .mv (.t 0), none⟩,
    ⟨some 19, .mv (.t 1), none⟩,
    ⟨some 20, .build [(.int .i64 0), .nilf, .nilf] [(0, 1, (.k (.int .i64 5))), (1, 1, (.k (.fn 79 [] []))), (2, 1, (.k (.fn 80 [] [])))], none⟩,
    ⟨some 21, .call (.k (.fn 66 [] [])) [(.t 18), (.t 19), (.k (.int .i64 16)), (.t 20)], none⟩,
    ⟨some 4, .mv (.t 21), none⟩])
  (.ret)))))
def c52 : ACode :=
  .seq (.reg [⟨some 1, .box (.t 0), none⟩,
    ⟨some 2, .new [.nils, (.int .i64 0), (.int .i64 0), (.int .i64 0), (.int .i64 0), (.int .i64 0), (.int .i64 0), (.int .i64 0), (.int .i64 0), (.int .i64 0), (.int .i64 0), (.int .i64 0), (.int .i64 0), (.int .i64 0), (.int .i64 0)], none⟩,
    ⟨some 3, .mv (.k (.int .i64 0)), none⟩])
  (.seq (.seq (.reg [⟨some 7, .load true 1 (.t 1), none⟩,
    ⟨some 8, .call (.k (.fn 73 [] [])) [(.t 7)], none⟩,
    ⟨some 6, .mv (.t 8), none⟩,
    ⟨some 9, .ext (.t 6) 0, none⟩,
    ⟨some 10, .ext (.t 6) 1, none⟩,
    ⟨some 4, .mv (.t 9), none⟩,
    ⟨some 5, .mv (.t 10), none⟩])
  (.seq (.reg [⟨some 11, .mv (.t 5), none⟩,
    ⟨some 12, .bin .neq (.t 11) (.k (.int .i64 0)), none⟩])
  (.cond (.t 12) (.seq (.reg [⟨some 13, .build [.nils, (.int .i64 0), (.int .i64 0), (.int .i64 0), (.int .i64 0), (.int .i64 0), (.int .i64 0), (.int .i64 0), (.int .i64 0), (.int .i64 0), (.int .i64 0), (.int .i64 0), (.int .i64 0), (.int .i64 0), (.int .i64 0)] [], none⟩,
      ⟨some 14, .mv (.t 5), none⟩,
      ⟨none, .store 15 (.t 2) (.t 13), none⟩,
      ⟨some 3, .mv (.t 14), none⟩])
    (.ret))
    (.skip))))
  (.seq (.reg [⟨some 15, .faddr 0 (.t 1), none⟩,
    ⟨some 16, .load false 1 (.t 15), none⟩,
    ⟨some 17, .call (.k (.fn 38 [] [])) [(.t 16)], none⟩,
    ⟨some 18, .build [.nils] [(0, 1, (.t 17))], none⟩,
    ⟨some 19, .build [.nils, (.int .i64 0), (.int .i64 0), (.int .i64 0), (.int .i64 0), (.int .i64 0), (.int .i64 0), (.int .i64 0), (.int .i64 0), (.int .i64 0), (.int .i64 0), (.int .i64 0), (.int .i64 0), (.int .i64 0), (.int .i64 0)] [(0, 1, (.t 18))], none⟩,
    ⟨none, .store 15 (.t 2) (.t 19), none⟩,
    ⟨some 3, .mv (.k (.int .i64 0)), none⟩])
  (.ret)))
theorem b52 : Body Try.prog 52 c52 [.cell 2 true 15, .tmp 3] 20 := ⟨by kernel_rfl, _, _, Try.func52, rfl, by kernel_rfl, by kernel_rfl, rfl⟩
def c53 : ACode :=
  .seq (.reg [⟨some 1, .box (.t 0), none⟩,
    ⟨some 2, .new [.nils, (.int .i64 0), (.int .i64 0), (.int .i64 0), (.int .i64 0), (.int .i64 0), (.int .i64 0), (.int .i64 0), (.int .i64 0), (.int .i64 0), (.int .i64 0), (.int .i64 0), (.int .i64 0), (.int .i64 0), (.int .i64 0)], none⟩,
    ⟨some 3, .mv (.k (.int .i64 0)), none⟩])
  (.seq (.reg [⟨some 7, .load true 1 (.t 1), none⟩,
    ⟨some 8, .call (.k (.fn 75 [] [])) [(.t 7)], none⟩,
    ⟨some 6, .mv (.t 8), none⟩,
    ⟨some 9, .ext (.t 6) 0, none⟩,
    ⟨some 10, .ext (.t 6) 1, none⟩,
    ⟨some 4, .mv (.t 9), none⟩,
    ⟨some 5, .mv (.t 10), none⟩])
  (.seq (.seq (.reg [⟨some 11, .mv (.t 5), none⟩,
    ⟨some 12, .bin .neq (.t 11) (.k (.int .i64 0)), none⟩])
  (.cond (.t 12) (.seq (.reg [⟨some 13, .build [.nils, (.int .i64 0), (.int .i64 0), (.int .i64 0), (.int .i64 0), (.int .i64 0), (.int .i64 0), (.int .i64 0), (.int .i64 0), (.int .i64 0), (.int .i64 0), (.int .i64 0), (.int .i64 0), (.int .i64 0), (.int .i64 0)] [], none⟩,
      ⟨some 14, .mv (.t 5), none⟩,
      ⟨none, .store 15 (.t 2) (.t 13), none⟩,
      ⟨some 3, .mv (.t 14), none⟩])
    (.ret))
    (.skip)))
  (.seq (.reg [⟨some 15, .load true 1 (.t 1), none⟩,
    ⟨some 16, .build [.nils, (.int .i64 0), (.int .i64 0), (.int .i64 0), (.int .i64 0), (.int .i64 0), (.int .i64 0), (.int .i64 0), (.int .i64 0), (.int .i64 0), (.int .i64 0), (.int .i64 0), (.int .i64 0), (.int .i64 0), (.int .i64 0)] [(0, 1, (.t 15))], none⟩,
    ⟨none, .store 15 (.t 2) (.t 16), none⟩,
    ⟨some 3, .mv (.k (.int .i64 0)), none⟩])
  (.ret))))
def c54 : ACode :=
  .seq (.reg [⟨some 6, .mv (.k (.int .i64 0)), none⟩])
  (.seq (.reg [⟨some 7, .mv (.t 0), none⟩,
    ⟨some 8, .mv (.t 1), none⟩,
    ⟨some 9, .mv (.t 2), none⟩,
    ⟨some 10, .call (.k (.fn 81 [] [])) [(.t 7), (.t 8), (.t 9), (.k (.int .i64 0)), (.k (.int .i64 1)), (.k (.int .i64 0))], none⟩,
    ⟨some 6, .mv (.t 10), none⟩])
  (.ret))
def c55 : ACode :=
  .seq (.reg [⟨some 6, .mv (.k (.int .i64 0)), none⟩])
  (.seq (.reg [⟨some 7, .mv (.t 0), none⟩,
    ⟨some 8, .mv (.t 1), none⟩,
    ⟨some 9, .mv (.t 2), none⟩,
    ⟨some 10, .call (.k (.fn 81 [] [])) [(.t 7), (.t 8), (.t 9), (.k (.int .i64 1)), (.k (.int .i64 0)), (.k (.int .i64 1))], none⟩,
    ⟨some 6, .mv (.t 10), none⟩])
  (.ret))
def c56 : ACode :=
  .seq (.reg [⟨some 6, .mv (.k (.int .i64 0)), none⟩])
  (.seq (.reg [⟨some 7, .mv (.t 0), none⟩,
    ⟨some 8, .mv (.t 1), none⟩,
    ⟨some 9, .mv (.t 2), none⟩,
    ⟨some 10, .call (.k (.fn 81 [] [])) [(.t 7), (.t 8), (.t 9), (.k (.int .i64 1)), (.k (.int .i64 2)), (.k (.int .i64 2))], none⟩,
    ⟨some 6, .mv (.t 10), none⟩])
  (.ret))
def c57 : ACode :=
  .seq (.reg [⟨some 6, .mv (.k (.int .i64 0)), none⟩])
  (.seq (.reg [⟨some 7, .mv (.t 0), none⟩,
    ⟨some 8, .mv (.t 1), none⟩,
    ⟨some 9, .mv (.t 2), none⟩,
    ⟨some 10, .call (.k (.fn 81 [] [])) [(.t 7), (.t 8), (.t 9), (.k (.int .i64 2)), (.k (.int .i64 1)), (.k (.int .i64 3))], none⟩,
    ⟨some 6, .mv (.t 10), none⟩])
  (.ret))
def c58 : ACode :=
  .seq (.reg [⟨some 8, .mv (.k (.int .i64 0)), none⟩])
  (.seq (.seq (.reg [⟨some 9, .mv (.t 3), none⟩])
  (.cond (.t 9) (.seq (.reg [⟨some 10, .mv (.t 0), none⟩,
      ⟨some 11, .mv (.t 1), none⟩,
      ⟨some 12, .mv (.t 2), none⟩,
      ⟨some 13, .call (.k (.fn 81 [] [])) [(.t 10), (.t 11), (.t 12), (.k (.int .i64 1)), (.k (.int .i64 3)), (.k (.int .i64 4))], none⟩,
      ⟨some 8, .mv (.t 13), none⟩])
    (.ret))
    (.skip)))
  (.seq (.reg [⟨some 14, .mv (.t 0), none⟩,
    ⟨some 15, .mv (.t 1), none⟩,
    ⟨some 16, .mv (.t 2), none⟩,
    ⟨some 17, .call (.k (.fn 81 [] [])) [(.t 14), (.t 15), (.t 16), (.k (.int .i64 3)), (.k (.int .i64 1)), (.k (.int .i64 4))], none⟩,
    ⟨some 8, .mv (.t 17), none⟩])
  (.ret)))
def c59 : ACode :=
  .seq (.reg [⟨some 4, .mv (.k (.int .i64 0)), none⟩])
  (.seq (.seq (.reg [⟨some 5, .mv (.t 1), none⟩,
    ⟨some 6, .call (.k (.fn 45 [] [])) [(.t 5)], none⟩,
    ⟨some 7, .un .not (.t 6), none⟩,
    ⟨some 8, .mv (.t 7), none⟩,
    ⟨some 9, .mv (.t 1), some (8, false)⟩,
    ⟨some 10, .bin .rem (.t 9) (.k (.int .i64 16)), some (8, false)⟩,
    ⟨some 11, .bin .neq (.t 10) (.k (.int .i64 0)), some (8, false)⟩,
    ⟨some 12, .pick (.t 8) (.k (.bool true)) (.t 11), none⟩])
  (.cond (.t 12) (.seq (.reg [⟨some 4, .mv (.k (.int .i64 7)), none⟩])
    (.ret))
    (.skip)))
  (.seq (.seq (.reg [⟨some 13, .mv (.t 0), none⟩,
    ⟨some 14, .mv (.t 1), none⟩,
    ⟨some 15, .call (.k (.fn 46 [] [])) [(.t 13), (.t 14), (.k (.int .i64 16)), (.k (.int .i64 2))], none⟩,
    ⟨some 16, .un .not (.t 15), none⟩])
  (.cond (.t 16) (.seq (.reg [⟨some 4, .mv (.k (.int .i64 9)), none⟩])
    (.ret))
    (.skip)))
  (.seq (.seq (.reg [⟨some 17, .mv (.t 0), none⟩,
    ⟨some 18, .mv (.t 1), none⟩,
    ⟨some 19, .bin .quo (.t 18) (.k (.int .i64 16)), none⟩,
    ⟨some 20, .nchk (.t 17), none⟩,
    ⟨some 21, .faddr 1024 (.t 20), none⟩,
    ⟨some 22, .iaddrA 64 1 (.t 21) (.t 19), none⟩,
    ⟨some 23, .load false 1 (.t 22), none⟩])
  (.cond (.t 23) (.seq (.reg [⟨some 4, .mv (.k (.int .i64 8)), none⟩])
    (.ret))
    (.skip)))
  (.seq (.seq (.reg [⟨some 24, .mv (.t 0), none⟩,
    ⟨some 25, .call (.k (.fn 82 [] [])) [(.t 24), (.k (.int .i64 5))], none⟩])
  (.cond (.t 25) (.seq (.reg [⟨some 4, .mv (.k (.int .i64 60)), none⟩])
    (.ret))
    (.skip)))
  (.seq (.reg [⟨some 26, .mv (.t 0), none⟩,
    ⟨some 27, .mv (.t 1), none⟩,
    ⟨some 28, .bin .quo (.t 27) (.k (.int .i64 16)), none⟩,
    ⟨some 29, .nchk (.t 26), none⟩,
    ⟨some 30, .faddr 1024 (.t 29), none⟩,
    ⟨some 31, .iaddrA 64 1 (.t 30) (.t 28), none⟩,
    ⟨none, .store 1 (.t 31) (.k (.bool true)), none⟩])
  (.seq (.reg [⟨some 4, .mv (.k (.int .i64 0)), none⟩])
  (.ret)))))))
def c60 : ACode :=
  .seq (.reg [⟨some 4, .mv (.k (.int .i64 0)), none⟩])
  (.seq (.seq (.reg [⟨some 5, .mv (.t 1), none⟩,
    ⟨some 6, .call (.k (.fn 45 [] [])) [(.t 5)], none⟩,
    ⟨some 7, .un .not (.t 6), none⟩,
    ⟨some 8, .mv (.t 7), none⟩,
    ⟨some 9, .mv (.t 1), some (8, false)⟩,
    ⟨some 10, .bin .rem (.t 9) (.k (.int .i64 16)), some (8, false)⟩,
    ⟨some 11, .bin .neq (.t 10) (.k (.int .i64 0)), some (8, false)⟩,
    ⟨some 12, .pick (.t 8) (.k (.bool true)) (.t 11), none⟩])
  (.cond (.t 12) (.seq (.reg [⟨some 4, .mv (.k (.int .i64 7)), none⟩])
    (.ret))
    (.skip)))
  (.seq (.seq (.reg [⟨some 13, .mv (.t 0), none⟩,
    ⟨some 14, .mv (.t 1), none⟩,
    ⟨some 15, .bin .quo (.t 14) (.k (.int .i64 16)), none⟩,
    ⟨some 16, .nchk (.t 13), none⟩,
    ⟨some 17, .faddr 1024 (.t 16), none⟩,
    ⟨some 18, .iaddrA 64 1 (.t 17) (.t 15), none⟩,
    ⟨some 19, .load false 1 (.t 18), none⟩,
    ⟨some 20, .un .not (.t 19), none⟩])
  (.cond (.t 20) (.seq (.reg [⟨some 4, .mv (.k (.int .i64 9)), none⟩])
    (.ret))
    (.skip)))
  (.seq (.seq (.reg [⟨some 21, .mv (.t 0), none⟩,
    ⟨some 22, .call (.k (.fn 82 [] [])) [(.t 21), (.k (.int .i64 6))], none⟩])
  (.cond (.t 22) (.seq (.reg [⟨some 4, .mv (.k (.int .i64 60)), none⟩])
    (.ret))
    (.skip)))
  (.seq (.reg [⟨some 23, .mv (.t 0), none⟩,
    ⟨some 24, .mv (.t 1), none⟩,
    ⟨some 25, .bin .quo (.t 24) (.k (.int .i64 16)), none⟩,
    ⟨some 26, .nchk (.t 23), none⟩,
    ⟨some 27, .faddr 1024 (.t 26), none⟩,
    ⟨some 28, .iaddrA 64 1 (.t 27) (.t 25), none⟩,
    ⟨none, .store 1 (.t 28) (.k (.bool false)), none⟩])
  (.seq (.reg [⟨some 4, .mv (.k (.int .i64 0)), none⟩])
  (.ret))))))
def c61 : ACode :=
  .seq (.reg [⟨some 6, .mv (.k (.int .i64 0)), none⟩])
  (.seq (.reg [⟨some 11, .mv (.t 0), none⟩,
    ⟨some 12, .mv (.t 1), none⟩,
    ⟨some 13, .call (.k (.fn 83 [] [])) [(.t 11), (.t 12)], none⟩,
    ⟨some 10, .mv (.t 13), none⟩,
    ⟨some 14, .ext (.t 10) 0, none⟩,
    ⟨some 15, .ext (.t 10) 1, none⟩,
    ⟨some 16, .ext (.t 10) 2, none⟩,
    ⟨some 7, .mv (.t 14), none⟩,
    ⟨some 8, .mv (.t 15), none⟩,
    ⟨some 9, .mv (.t 16), none⟩])
  (.seq (.seq (.reg [⟨some 17, .mv (.t 9), none⟩,
    ⟨some 18, .bin .eql (.t 17) (.k (.int .i64 0)), none⟩])
  (.cond (.t 18) (.reg [⟨some 19, .mv (.t 0), none⟩,
      ⟨some 20, .mv (.t 7), none⟩,
      ⟨some 21, .mv (.t 8), none⟩,
      ⟨some 22, .mv (.t 2), none⟩,
      ⟨some 23, .nchk (.t 19), none⟩,
      ⟨some 24, .faddr 1088 (.t 23), none⟩,
      ⟨some 25, .iaddrA 1024 64 (.t 24) (.t 20), none⟩,
      ⟨some 26, .iaddrA 64 1 (.t 25) (.t 21), none⟩,
      ⟨none, .store 1 (.t 26) (.t 22), none⟩])
    (.skip)))
  (.seq (.reg [⟨some 27, .mv (.t 9), none⟩,
    ⟨some 6, .mv (.t 27), none⟩])
  (.ret))))
def c62 : ACode :=
  .seq (.reg [⟨some 4, .mv (.k (.int .u8 0)), none⟩,
    ⟨some 5, .mv (.k (.int .i64 0)), none⟩])
  (.seq (.reg [⟨some 10, .mv (.t 0), none⟩,
    ⟨some 11, .mv (.t 1), none⟩,
    ⟨some 12, .call (.k (.fn 83 [] [])) [(.t 10), (.t 11)], none⟩,
    ⟨some 9, .mv (.t 12), none⟩,
    ⟨some 13, .ext (.t 9) 0, none⟩,
    ⟨some 14, .ext (.t 9) 1, none⟩,
    ⟨some 15, .ext (.t 9) 2, none⟩,
    ⟨some 6, .mv (.t 13), none⟩,
    ⟨some 7, .mv (.t 14), none⟩,
    ⟨some 8, .mv (.t 15), none⟩])
  (.seq (.seq (.reg [⟨some 16, .mv (.t 8), none⟩,
    ⟨some 17, .bin .neq (.t 16) (.k (.int .i64 0)), none⟩])
  (.cond (.t 17) (.seq (.reg [⟨some 18, .mv (.t 8), none⟩,
      ⟨some 4, .mv (.k (.int .u8 0)), none⟩,
      ⟨some 5, .mv (.t 18), none⟩])
    (.ret))
    (.skip)))
  (.seq (.reg [⟨some 19, .mv (.t 0), none⟩,
    ⟨some 20, .mv (.t 6), none⟩,
    ⟨some 21, .mv (.t 7), none⟩,
    ⟨some 22, .nchk (.t 19), none⟩,
    ⟨some 23, .faddr 1088 (.t 22), none⟩,
    ⟨some 24, .iaddrA 1024 64 (.t 23) (.t 20), none⟩,
    ⟨some 25, .iaddrA 64 1 (.t 24) (.t 21), none⟩,
    ⟨some 26, .load false 1 (.t 25), none⟩,
    ⟨some 4, .mv (.t 26), none⟩,
    ⟨some 5, .mv (.k (.int .i64 0)), none⟩])
  (.ret))))
def c63 : ACode :=
  .seq (.reg [⟨some 4, .mv (.k (.int .i64 0)), none⟩,
    ⟨some 5, .mv (.k (.bool false)), none⟩,
    ⟨some 6, .mv (.k (.int .i64 0)), none⟩])
  (.seq (.seq (.reg [⟨some 7, .mv (.t 1), none⟩,
    ⟨some 8, .call (.k (.fn 45 [] [])) [(.t 7)], none⟩,
    ⟨some 9, .un .not (.t 8), none⟩])
  (.cond (.t 9) (.seq (.reg [⟨some 4, .mv (.k (.int .i64 0)), none⟩,
      ⟨some 5, .mv (.k (.bool false)), none⟩,
      ⟨some 6, .mv (.k (.int .i64 7)), none⟩])
    (.ret))
    (.skip)))
  (.seq (.regD [⟨some 10, .mv (.t 0), none⟩,
    ⟨some 11, .mv (.t 1), none⟩,
    ⟨some 12, .nchk (.t 10), none⟩,
    ⟨some 13, .faddr 0 (.t 12), none⟩,
    ⟨some 14, .iaddrA 1024 1 (.t 13) (.t 11), none⟩,
    ⟨some 15, .load false 1 (.t 14), none⟩,
    ⟨some 16, .mv (.t 0), none⟩,
    ⟨some 17, .mv (.t 1), none⟩,
    ⟨some 18, .bin .quo (.t 17) (.k (.int .i64 16)), none⟩,
    ⟨some 19, .nchk (.t 16), none⟩,
    ⟨some 20, .faddr 1024 (.t 19), none⟩,
    ⟨some 21, .iaddrA 64 1 (.t 20) (.t 18), none⟩,
    ⟨some 22, .load false 1 (.t 21), none⟩,
    ⟨some 4, .mv (.t 15), none⟩,
    ⟨some 5, .mv (.t 22), none⟩,
    ⟨some 6, .mv (.k (.int .i64 0)), none⟩] [[], [], [0], [2], [3, 1], [4], [], [], [7], [6], [9], [10, 8], [11], [5, 0, 1, 2, 3, 4, 5], [12, 13, 0, 1, 2, 3, 4, 5, 6, 7, 8, 9, 10, 11, 12, 13], [14, 0, 1, 2, 3, 4, 5, 6, 7, 8, 9, 10, 11, 12, 13, 14]])
  (.ret)))
end Go.Proofs.Ytjlbfijjfjogiaa
