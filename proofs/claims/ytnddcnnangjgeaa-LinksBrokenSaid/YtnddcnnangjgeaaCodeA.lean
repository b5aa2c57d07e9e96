/-
  Abstract code of functions, printed by a program, and that it is theirs.
-/
import Derived.Test.YtnddcnnangjgeaaProg
import Derived.Test.YtnddcnnangjgeaaAmSev
set_option linter.unusedSimpArgs false
set_option linter.unusedVariables false
namespace Go.Proofs.Ytnddcnnangjgeaa
open Go.Am
def c4 : ACode :=
  .seq (.reg [⟨some 1, .box (.t 0), none⟩,
    ⟨some 2, .mv (.k (.bool false)), none⟩])
  (.seq (.seq (.reg [⟨some 11, .faddr 1 (.t 1), none⟩,
    ⟨some 12, .load false 1 (.t 11), none⟩,
    ⟨some 13, .len (.t 12), none⟩,
    ⟨some 14, .bin .gtr (.t 13) (.k (.int .i64 200)), none⟩,
    ⟨some 15, .mv (.t 14), none⟩,
    ⟨some 16, .faddr 1 (.t 1), some (15, true)⟩,
    ⟨some 17, .load false 1 (.t 16), some (15, true)⟩,
    ⟨some 18, .len (.t 17), some (15, true)⟩,
    ⟨some 19, .bin .leq (.t 18) (.k (.int .i64 2000)), some (15, true)⟩,
    ⟨some 20, .pick (.t 15) (.t 19) (.k (.bool false)), none⟩,
    ⟨some 21, .mv (.t 20), none⟩,
    ⟨some 22, .faddr 1 (.t 1), some (21, false)⟩,
    ⟨some 23, .load false 1 (.t 22), some (21, false)⟩,
    ⟨some 24, .len (.t 23), some (21, false)⟩,
    ⟨some 25, .bin .gtr (.t 24) (.k (.int .i64 2100)), some (21, false)⟩,
    ⟨some 26, .pick (.t 21) (.k (.bool true)) (.t 25), none⟩,
    ⟨some 27, .mv (.t 26), none⟩,
    ⟨some 28, .faddr 0 (.t 1), some (27, false)⟩,
    ⟨some 29, .load false 1 (.t 28), some (27, false)⟩,
    ⟨some 30, .len (.t 29), some (27, false)⟩,
    ⟨some 31, .bin .gtr (.t 30) (.k (.int .i64 2100)), some (27, false)⟩,
    ⟨some 32, .pick (.t 27) (.k (.bool true)) (.t 31), none⟩,
    ⟨some 33, .mv (.t 32), none⟩,
    ⟨some 34, .faddr 2 (.t 1), some (33, false)⟩,
    ⟨some 35, .load false 1 (.t 34), some (33, false)⟩,
    ⟨some 36, .len (.t 35), some (33, false)⟩,
    ⟨some 37, .bin .gtr (.t 36) (.k (.int .i64 2100)), some (33, false)⟩,
    ⟨some 38, .pick (.t 33) (.k (.bool true)) (.t 37), none⟩,
    ⟨some 39, .mv (.t 38), none⟩,
    ⟨some 40, .faddr 3 (.t 1), some (39, false)⟩,
    ⟨some 41, .load false 1 (.t 40), some (39, false)⟩,
    ⟨some 42, .len (.t 41), some (39, false)⟩,
    ⟨some 43, .bin .gtr (.t 42) (.k (.int .i64 2100)), some (39, false)⟩,
    ⟨some 44, .pick (.t 39) (.k (.bool true)) (.t 43), none⟩,
    ⟨some 45, .mv (.t 44), none⟩,
    ⟨some 46, .faddr 4 (.t 1), some (45, false)⟩,
    ⟨some 47, .load false 1 (.t 46), some (45, false)⟩,
    ⟨some 48, .len (.t 47), some (45, false)⟩,
    ⟨some 49, .bin .gtr (.t 48) (.k (.int .i64 100)), some (45, false)⟩,
    ⟨some 50, .pick (.t 45) (.k (.bool true)) (.t 49), none⟩,
    ⟨some 51, .mv (.t 50), none⟩,
    ⟨some 52, .faddr 5 (.t 1), some (51, false)⟩,
    ⟨some 53, .load false 1 (.t 52), some (51, false)⟩,
    ⟨some 54, .len (.t 53), some (51, false)⟩,
    ⟨some 55, .bin .gtr (.t 54) (.k (.int .i64 100)), some (51, false)⟩,
    ⟨some 56, .pick (.t 51) (.k (.bool true)) (.t 55), none⟩])
  (.cond (.t 56) (.seq (.reg [⟨some 57, .call (.k (.fn 18 [] [])) [], none⟩,
      ⟨some 2, .mv (.t 57), none⟩])
    (.ret))
    (.skip)))
  (.seq (.reg [⟨some 59, .load true 6 (.t 1), none⟩,
    ⟨some 60, .call (.k (.fn 19 [] [])) [(.t 59)], none⟩,
    ⟨some 58, .mv (.t 60), none⟩,
    ⟨some 61, .ext (.t 58) 0, none⟩,
    ⟨some 62, .ext (.t 58) 1, none⟩,
    ⟨some 3, .new [(.int .i64 0), (.int .i64 0)], none⟩,
    ⟨none, .store 2 (.t 3) (.t 61), none⟩,
    ⟨some 4, .mv (.t 62), none⟩])
  (.seq (.reg [⟨some 64, .load true 6 (.t 1), none⟩,
    ⟨some 65, .call (.k (.fn 20 [] [])) [(.t 64)], none⟩,
    ⟨some 63, .mv (.t 65), none⟩,
    ⟨some 66, .ext (.t 63) 0, none⟩,
    ⟨some 67, .ext (.t 63) 1, none⟩,
    ⟨some 5, .new [(.int .i64 0), (.int .i64 0)], none⟩,
    ⟨none, .store 2 (.t 5) (.t 66), none⟩,
    ⟨some 6, .mv (.t 67), none⟩])
  (.seq (.reg [⟨some 69, .load true 6 (.t 1), none⟩,
    ⟨some 70, .call (.k (.fn 21 [] [])) [(.t 69)], none⟩,
    ⟨some 68, .mv (.t 70), none⟩,
    ⟨some 71, .ext (.t 68) 0, none⟩,
    ⟨some 72, .ext (.t 68) 1, none⟩,
    ⟨some 7, .mv (.t 71), none⟩,
    ⟨some 8, .mv (.t 72), none⟩])
  (.seq (.reg [⟨some 74, .load true 6 (.t 1), none⟩,
    ⟨some 75, .call (.k (.fn 22 [] [])) [(.t 74)], none⟩,
    ⟨some 73, .mv (.t 75), none⟩,
    ⟨some 76, .ext (.t 73) 0, none⟩,
    ⟨some 77, .ext (.t 73) 1, none⟩,
    ⟨some 9, .new [(.int .i64 0), .nils, .nils], none⟩,
    ⟨none, .store 3 (.t 9) (.t 76), none⟩,
    ⟨some 10, .mv (.t 77), none⟩])
  (.seq (.seq (.reg [⟨some 78, .load true 2 (.t 3), none⟩,
    ⟨some 79, .load true 2 (.t 5), none⟩,
    ⟨some 80, .eqs true [false, false] (.t 78) (.t 79), none⟩,
    ⟨some 81, .mv (.t 80), none⟩,
    ⟨some 82, .mv (.t 4), some (81, false)⟩,
    ⟨some 83, .mv (.t 6), some (81, false)⟩,
    ⟨some 84, .bin .neq (.t 82) (.t 83), some (81, false)⟩,
    ⟨some 85, .pick (.t 81) (.k (.bool true)) (.t 84), none⟩,
    ⟨some 86, .mv (.t 85), none⟩,
    ⟨some 87, .mv (.t 8), some (86, false)⟩,
    ⟨some 88, .mv (.t 10), some (86, false)⟩,
    ⟨some 89, .bin .neq (.t 87) (.t 88), some (86, false)⟩,
    ⟨some 90, .pick (.t 86) (.k (.bool true)) (.t 89), none⟩,
    ⟨some 91, .mv (.t 90), none⟩,
    ⟨some 92, .mv (.t 7), some (91, false)⟩,
    ⟨some 93, .eqp false false (.t 92) (.k .nilp), some (91, false)⟩,
    ⟨some 94, .mv (.t 8), some (91, false)⟩,
    ⟨some 95, .bin .neq (.t 94) (.k (.int .i64 0)), some (91, false)⟩,
    ⟨some 96, .eqb true (.t 93) (.t 95), some (91, false)⟩,
    ⟨some 97, .pick (.t 91) (.k (.bool true)) (.t 96), none⟩])
  (.cond (.t 97) (.seq (.reg [⟨some 2, .mv (.k (.bool false)), none⟩])
    (.ret))
    (.skip)))
  (.seq (.reg [⟨some 98, .mv (.t 8), none⟩,
    ⟨some 99, .bin .neq (.t 98) (.k (.int .i64 0)), none⟩,
    ⟨some 100, .mv (.t 99), none⟩,
    ⟨some 101, .mv (.t 7), some (100, false)⟩,
    ⟨some 102, .call (.k (.fn 24 [] [])) [(.t 101)], some (100, false)⟩,
    ⟨some 103, .call (.k (.fn 25 [] [])) [(.t 9)], some (100, false)⟩,
    ⟨some 104, .call (.k (.fn 23 [] [])) [(.t 102), (.t 103)], some (100, false)⟩,
    ⟨some 105, .pick (.t 100) (.k (.bool true)) (.t 104), none⟩,
    ⟨some 106, .mv (.t 105), none⟩,
    ⟨some 107, .call (.k (.fn 18 [] [])) [], some (106, true)⟩,
    ⟨some 108, .pick (.t 106) (.t 107) (.k (.bool false)), none⟩,
    ⟨some 2, .mv (.t 108), none⟩])
  (.ret))))))))
theorem b4 : Body Try.prog 4 c4 [.tmp 2] 109 := ⟨by kernel_rfl, _, _, Try.func4, rfl, by kernel_rfl, by kernel_rfl, rfl⟩
def c7 : ACode :=
  .seq (.reg [⟨some 6, .mv (.k (.bool false)), none⟩])
  (.seq (.seq (.reg [⟨some 14, .mv (.t 0), none⟩,
    ⟨some 15, .bin .gtr (.t 14) (.k (.int .i64 100)), none⟩,
    ⟨some 16, .mv (.t 15), none⟩,
    ⟨some 17, .mv (.t 0), some (16, true)⟩,
    ⟨some 18, .bin .leq (.t 17) (.k (.int .i64 2000)), some (16, true)⟩,
    ⟨some 19, .pick (.t 16) (.t 18) (.k (.bool false)), none⟩,
    ⟨some 20, .mv (.t 19), none⟩,
    ⟨some 21, .mv (.t 2), some (20, false)⟩,
    ⟨some 22, .len (.t 21), some (20, false)⟩,
    ⟨some 23, .bin .gtr (.t 22) (.k (.int .i64 100)), some (20, false)⟩,
    ⟨some 24, .pick (.t 20) (.k (.bool true)) (.t 23), none⟩])
  (.cond (.t 24) (.seq (.reg [⟨some 25, .call (.k (.fn 18 [] [])) [], none⟩,
      ⟨some 6, .mv (.t 25), none⟩])
    (.ret))
    (.skip)))
  (.seq (.reg [⟨some 27, .mv (.t 0), none⟩,
    ⟨some 28, .mv (.t 1), none⟩,
    ⟨some 29, .call (.k (.fn 42 [] [])) [(.t 27), (.t 28)], none⟩,
    ⟨some 26, .mv (.t 29), none⟩,
    ⟨some 30, .ext (.t 26) 0, none⟩,
    ⟨some 31, .ext (.t 26) 1, none⟩,
    ⟨some 7, .mv (.t 30), none⟩,
    ⟨some 8, .mv (.t 31), none⟩])
  (.seq (.reg [⟨some 33, .mv (.t 0), none⟩,
    ⟨some 34, .mv (.t 1), none⟩,
    ⟨some 35, .call (.k (.fn 43 [] [])) [(.t 33), (.t 34)], none⟩,
    ⟨some 32, .mv (.t 35), none⟩,
    ⟨some 36, .ext (.t 32) 0, none⟩,
    ⟨some 37, .ext (.t 32) 1, none⟩,
    ⟨some 9, .new [(.int .i64 0), .nils, .nils], none⟩,
    ⟨none, .store 3 (.t 9) (.t 36), none⟩,
    ⟨some 10, .mv (.t 37), none⟩])
  (.seq (.seq (.reg [⟨some 38, .mv (.t 8), none⟩,
    ⟨some 39, .mv (.t 10), none⟩,
    ⟨some 40, .bin .neq (.t 38) (.t 39), none⟩,
    ⟨some 41, .mv (.t 40), none⟩,
    ⟨some 42, .mv (.t 7), some (41, false)⟩,
    ⟨some 43, .eqp false false (.t 42) (.k .nilp), some (41, false)⟩,
    ⟨some 44, .mv (.t 8), some (41, false)⟩,
    ⟨some 45, .bin .neq (.t 44) (.k (.int .i64 0)), some (41, false)⟩,
    ⟨some 46, .eqb true (.t 43) (.t 45), some (41, false)⟩,
    ⟨some 47, .pick (.t 41) (.k (.bool true)) (.t 46), none⟩])
  (.cond (.t 47) (.seq (.reg [⟨some 6, .mv (.k (.bool false)), none⟩])
    (.ret))
    (.skip)))
  (.seq (.seq (.reg [⟨some 48, .mv (.t 8), none⟩,
    ⟨some 49, .bin .neq (.t 48) (.k (.int .i64 0)), none⟩])
  (.cond (.t 49) (.seq (.reg [⟨some 51, .mv (.t 7), none⟩,
      ⟨some 52, .call (.k (.fn 14 [] [])) [(.t 51), (.k (.int .i64 0)), (.k (.int .i64 1)), (.k (.bool false))], none⟩,
      ⟨some 50, .mv (.t 52), none⟩,
      ⟨some 53, .ext (.t 50) 0, none⟩,
      ⟨some 54, .ext (.t 50) 1, none⟩,
      ⟨some 8, .mv (.t 54), none⟩])
    (.seq (.reg [⟨some 56, .mv (.t 7), none⟩,
      ⟨some 57, .call (.k (.fn 44 [] [])) [(.t 56), (.k (.int .i64 0))], none⟩,
      ⟨some 55, .mv (.t 57), none⟩,
      ⟨some 58, .ext (.t 55) 0, none⟩,
      ⟨some 59, .ext (.t 55) 1, none⟩,
      ⟨some 10, .mv (.t 59), none⟩])
    (.seq (.reg [⟨some 61, .mv (.t 7), none⟩,
      ⟨some 62, .call (.k (.fn 17 [] [])) [(.t 61), (.k (.int .i64 0))], none⟩,
      ⟨some 60, .mv (.t 62), none⟩,
      ⟨some 63, .ext (.t 60) 0, none⟩,
      ⟨some 64, .ext (.t 60) 1, none⟩,
      ⟨some 11, .mv (.t 63), none⟩,
      ⟨some 12, .mv (.t 64), none⟩])
    (.seq (.reg [⟨some 65, .mv (.t 8), none⟩,
      ⟨some 66, .bin .eql (.t 65) (.k (.int .i64 1)), none⟩,
      ⟨some 67, .mv (.t 66), none⟩,
      ⟨some 68, .mv (.t 10), some (67, true)⟩,
      ⟨some 69, .bin .eql (.t 68) (.k (.int .i64 1)), some (67, true)⟩,
      ⟨some 70, .pick (.t 67) (.t 69) (.k (.bool false)), none⟩,
      ⟨some 71, .mv (.t 70), none⟩,
      ⟨some 72, .mv (.t 12), some (71, true)⟩,
      ⟨some 73, .bin .eql (.t 72) (.k (.int .i64 1)), some (71, true)⟩,
      ⟨some 74, .pick (.t 71) (.t 73) (.k (.bool false)), none⟩,
      ⟨some 75, .mv (.t 74), none⟩,
      ⟨some 76, .mv (.t 7), some (75, true)⟩,
      ⟨some 77, .call (.k (.fn 45 [] [])) [(.t 76), (.k (.int .i64 0)), (.k (.int .i64 1))], some (75, true)⟩,
      ⟨some 78, .bin .eql (.t 77) (.k (.int .i64 1)), some (75, true)⟩,
      ⟨some 79, .pick (.t 75) (.t 78) (.k (.bool false)), none⟩,
      ⟨some 80, .mv (.t 79), none⟩,
      ⟨some 81, .mv (.t 7), some (80, true)⟩,
      ⟨some 82, .call (.k (.fn 24 [] [])) [(.t 81)], some (80, true)⟩,
      ⟨some 83, .fld false 1 1 (.t 82), some (80, true)⟩,
      ⟨some 84, .len (.t 83), some (80, true)⟩,
      ⟨some 85, .bin .eql (.t 84) (.k (.int .i64 0)), some (80, true)⟩,
      ⟨some 86, .pick (.t 80) (.t 85) (.k (.bool false)), none⟩,
      ⟨some 87, .mv (.t 86), none⟩,
      ⟨some 88, .mv (.t 7), some (87, true)⟩,
      ⟨some 89, .call (.k (.fn 12 [] [])) [(.t 88), (.k (.int .i64 0)), (.k (.bool false))], some (87, true)⟩,
      ⟨some 90, .len (.t 89), some (87, true)⟩,
      ⟨some 91, .bin .eql (.t 90) (.k (.int .i64 0)), some (87, true)⟩,
      ⟨some 92, .pick (.t 87) (.t 91) (.k (.bool false)), none⟩,
      ⟨some 93, .mv (.t 92), none⟩,
      ⟨some 94, .call (.k (.fn 18 [] [])) [], some (93, true)⟩,
      ⟨some 95, .pick (.t 93) (.t 94) (.k (.bool false)), none⟩,
      ⟨some 6, .mv (.t 95), none⟩])
    (.ret)))))
    (.skip)))
  (.seq (.seq (.reg [⟨some 13, .mv (.k (.int .i64 0)), none⟩])
  (.block 0 (.loop (.seq (.seq (.reg [⟨some 96, .mv (.t 13), none⟩,
      ⟨some 97, .mv (.t 2), none⟩,
      ⟨some 98, .len (.t 97), none⟩,
      ⟨some 99, .bin .lss (.t 96) (.t 98), none⟩])
    (.cond (.t 99) (.skip)
      (.exit 0)))
    (.seq (.block 1 (.seq (.reg [⟨some 102, .mv (.t 7), none⟩,
       ⟨some 103, .mv (.t 2), none⟩,
       ⟨some 104, .mv (.t 13), none⟩,
       ⟨some 105, .iaddrS 5 (.t 103) (.t 104), none⟩,
       ⟨some 106, .load true 5 (.t 105), none⟩,
       ⟨some 107, .call (.k (.fn 46 [] [])) [(.t 102), (.t 9), (.t 106)], none⟩,
       ⟨some 108, .un .not (.t 107), none⟩])
     (.cond (.t 108) (.seq (.reg [⟨some 6, .mv (.k (.bool false)), none⟩])
       (.ret))
       (.skip))))
    (.reg [⟨some 100, .mv (.t 13), none⟩,
      ⟨some 101, .bin .add (.t 100) (.k (.int .i64 1)), none⟩,
      ⟨some 13, .mv (.t 101), none⟩]))))))
  (.seq (.reg [⟨some 109, .mv (.t 7), none⟩,
    ⟨some 110, .call (.k (.fn 24 [] [])) [(.t 109)], none⟩,
    ⟨some 111, .call (.k (.fn 25 [] [])) [(.t 9)], none⟩,
    ⟨some 112, .call (.k (.fn 23 [] [])) [(.t 110), (.t 111)], none⟩,
    ⟨some 113, .mv (.t 112), none⟩,
    ⟨some 114, .call (.k (.fn 18 [] [])) [], some (113, true)⟩,
    ⟨some 115, .pick (.t 113) (.t 114) (.k (.bool false)), none⟩,
    ⟨some 6, .mv (.t 115), none⟩])
  (.ret))))))))
theorem b7 : Body Try.prog 7 c7 [.tmp 6] 116 := ⟨by kernel_rfl, _, _, Try.func7, rfl, by kernel_rfl, by kernel_rfl, rfl⟩
def c9 : ACode :=
  .seq (.reg [⟨some 5, .box (.t 2), none⟩,
    ⟨some 6, .mv (.k (.bool false)), none⟩])
  (.seq (.seq (.reg [⟨some 15, .mv (.t 0), none⟩,
    ⟨some 16, .bin .lss (.t 15) (.k (.int .i64 1)), none⟩,
    ⟨some 17, .mv (.t 16), none⟩,
    ⟨some 18, .mv (.t 0), some (17, false)⟩,
    ⟨some 19, .bin .gtr (.t 18) (.k (.int .i64 60)), some (17, false)⟩,
    ⟨some 20, .pick (.t 17) (.k (.bool true)) (.t 19), none⟩,
    ⟨some 21, .mv (.t 20), none⟩,
    ⟨some 22, .mv (.t 1), some (21, false)⟩,
    ⟨some 23, .len (.t 22), some (21, false)⟩,
    ⟨some 24, .bin .gtr (.t 23) (.k (.int .i64 60)), some (21, false)⟩,
    ⟨some 25, .pick (.t 21) (.k (.bool true)) (.t 24), none⟩])
  (.cond (.t 25) (.seq (.reg [⟨some 26, .call (.k (.fn 18 [] [])) [], none⟩,
      ⟨some 6, .mv (.t 26), none⟩])
    (.ret))
    (.skip)))
  (.seq (.reg [⟨some 28, .mv (.t 0), none⟩,
    ⟨some 29, .mv (.t 1), none⟩,
    ⟨some 30, .call (.k (.fn 26 [] [])) [(.t 28), (.k (.int .i64 3)), (.t 29)], none⟩,
    ⟨some 27, .mv (.t 30), none⟩,
    ⟨some 31, .ext (.t 27) 0, none⟩,
    ⟨some 32, .ext (.t 27) 1, none⟩,
    ⟨some 7, .mv (.t 31), none⟩,
    ⟨some 8, .mv (.t 32), none⟩])
  (.seq (.seq (.reg [⟨some 33, .mv (.t 7), none⟩,
    ⟨some 34, .eqp false false (.t 33) (.k .nilp), none⟩])
  (.cond (.t 34) (.seq (.reg [⟨some 35, .mv (.t 8), none⟩,
      ⟨some 36, .eqp false false (.t 35) (.k .nilp), none⟩,
      ⟨some 37, .mv (.t 36), none⟩,
      ⟨some 38, .call (.k (.fn 18 [] [])) [], some (37, true)⟩,
      ⟨some 39, .pick (.t 37) (.t 38) (.k (.bool false)), none⟩,
      ⟨some 6, .mv (.t 39), none⟩])
    (.ret))
    (.skip)))
  (.seq (.reg [⟨some 40, .mv (.t 7), none⟩,
    ⟨some 41, .call (.k (.fn 24 [] [])) [(.t 40)], none⟩,
    ⟨some 9, .new [.nils, .nils, .nils, .nils, .nils, .nils], none⟩,
    ⟨none, .store 6 (.t 9) (.t 41), none⟩])
  (.seq (.reg [⟨some 43, .load true 6 (.t 9), none⟩,
    ⟨some 44, .call (.k (.fn 21 [] [])) [(.t 43)], none⟩,
    ⟨some 42, .mv (.t 44), none⟩,
    ⟨some 45, .ext (.t 42) 0, none⟩,
    ⟨some 46, .ext (.t 42) 1, none⟩,
    ⟨some 10, .mv (.t 45), none⟩,
    ⟨some 11, .mv (.t 46), none⟩])
  (.seq (.seq (.reg [⟨some 47, .mv (.t 11), none⟩,
    ⟨some 48, .bin .neq (.t 47) (.k (.int .i64 0)), none⟩,
    ⟨some 49, .mv (.t 48), none⟩,
    ⟨some 50, .mv (.t 10), some (49, false)⟩,
    ⟨some 51, .call (.k (.fn 24 [] [])) [(.t 50)], some (49, false)⟩,
    ⟨some 52, .mv (.t 8), some (49, false)⟩,
    ⟨some 53, .call (.k (.fn 25 [] [])) [(.t 52)], some (49, false)⟩,
    ⟨some 54, .call (.k (.fn 23 [] [])) [(.t 51), (.t 53)], some (49, false)⟩,
    ⟨some 55, .un .not (.t 54), some (49, false)⟩,
    ⟨some 56, .pick (.t 49) (.k (.bool true)) (.t 55), none⟩])
  (.cond (.t 56) (.seq (.reg [⟨some 6, .mv (.k (.bool false)), none⟩])
    (.ret))
    (.skip)))
  (.seq (.reg [⟨some 57, .iaddrA 2 1 (.t 5) (.k (.int .i64 0)), none⟩,
    ⟨some 58, .load false 1 (.t 57), none⟩,
    ⟨some 59, .conv .i64 (.t 58), none⟩,
    ⟨some 60, .mv (.t 0), none⟩,
    ⟨some 61, .bin .mul (.k (.int .i64 3)) (.t 60), none⟩,
    ⟨some 62, .bin .add (.t 61) (.k (.int .i64 6)), none⟩,
    ⟨some 63, .bin .rem (.t 59) (.t 62), none⟩,
    ⟨some 64, .call (.k (.fn 52 [] [])) [(.t 9), (.t 63)], none⟩,
    ⟨some 12, .mv (.t 64), none⟩])
  (.seq (.seq (.reg [⟨some 65, .mv (.t 12), none⟩,
    ⟨some 66, .eqp false false (.t 65) (.k .nilp), none⟩])
  (.cond (.t 66) (.seq (.reg [⟨some 6, .mv (.k (.bool false)), none⟩])
    (.ret))
    (.skip)))
  (.seq (.reg [⟨some 67, .mv (.t 0), none⟩,
    ⟨some 13, .mv (.t 67), none⟩])
  (.seq (.seq (.reg [⟨some 68, .iaddrA 2 1 (.t 5) (.k (.int .i64 0)), none⟩,
    ⟨some 69, .load false 1 (.t 68), none⟩,
    ⟨some 70, .conv .i64 (.t 69), none⟩,
    ⟨some 71, .mv (.t 0), none⟩,
    ⟨some 72, .bin .mul (.k (.int .i64 3)) (.t 71), none⟩,
    ⟨some 73, .bin .add (.t 72) (.k (.int .i64 6)), none⟩,
    ⟨some 74, .bin .rem (.t 70) (.t 73), none⟩,
    ⟨some 75, .mv (.t 0), none⟩,
    ⟨some 76, .bin .lss (.t 74) (.t 75), none⟩])
  (.cond (.t 76) (.reg [⟨some 13, .mv (.k (.int .i64 3)), none⟩])
    (.skip)))
  (.seq (.reg [⟨some 77, .mv (.t 12), none⟩,
    ⟨some 78, .nchk (.t 77), none⟩,
    ⟨some 79, .load false 1 (.t 78), none⟩,
    ⟨some 14, .mv (.t 79), none⟩])
  (.seq (.reg [⟨some 80, .mv (.t 12), none⟩,
    ⟨some 81, .mv (.t 14), none⟩,
    ⟨some 82, .bin .add (.t 81) (.k (.int .i64 1)), none⟩,
    ⟨some 83, .bin .add (.t 82) (.k (.int .i64 1)), none⟩,
    ⟨some 84, .iaddrA 2 1 (.t 5) (.k (.int .i64 1)), none⟩,
    ⟨some 85, .load false 1 (.t 84), none⟩,
    ⟨some 86, .conv .i64 (.t 85), none⟩,
    ⟨some 87, .mv (.t 13), none⟩,
    ⟨some 88, .bin .rem (.t 86) (.t 87), none⟩,
    ⟨some 89, .bin .add (.t 83) (.t 88), none⟩,
    ⟨some 90, .mv (.t 13), none⟩,
    ⟨some 91, .bin .add (.t 90) (.k (.int .i64 1)), none⟩,
    ⟨some 92, .bin .rem (.t 89) (.t 91), none⟩,
    ⟨some 93, .bin .sub (.t 92) (.k (.int .i64 1)), none⟩,
    ⟨some 94, .nchk (.t 80), none⟩,
    ⟨none, .store 1 (.t 94) (.t 93), none⟩])
  (.seq (.seq (.reg [⟨some 95, .mv (.t 12), none⟩,
    ⟨some 96, .nchk (.t 95), none⟩,
    ⟨some 97, .load false 1 (.t 96), none⟩,
    ⟨some 98, .mv (.t 14), none⟩,
    ⟨some 99, .bin .eql (.t 97) (.t 98), none⟩])
  (.cond (.t 99) (.seq (.reg [⟨some 100, .call (.k (.fn 18 [] [])) [], none⟩,
      ⟨some 6, .mv (.t 100), none⟩])
    (.ret))
    (.skip)))
  (.seq (.reg [⟨some 102, .load true 6 (.t 9), none⟩,
    ⟨some 103, .call (.k (.fn 21 [] [])) [(.t 102)], none⟩,
    ⟨some 101, .mv (.t 103), none⟩,
    ⟨some 104, .ext (.t 101) 0, none⟩,
    ⟨some 105, .ext (.t 101) 1, none⟩,
    ⟨some 10, .mv (.t 104), none⟩,
    ⟨some 11, .mv (.t 105), none⟩])
  (.seq (.reg [⟨some 106, .mv (.t 11), none⟩,
    ⟨some 107, .bin .eql (.t 106) (.k (.int .i64 6)), none⟩,
    ⟨some 108, .mv (.t 107), none⟩,
    ⟨some 109, .mv (.t 10), some (108, true)⟩,
    ⟨some 110, .eqp false false (.t 109) (.k .nilp), some (108, true)⟩,
    ⟨some 111, .pick (.t 108) (.t 110) (.k (.bool false)), none⟩,
    ⟨some 112, .mv (.t 111), none⟩,
    ⟨some 113, .call (.k (.fn 18 [] [])) [], some (112, true)⟩,
    ⟨some 114, .pick (.t 112) (.t 113) (.k (.bool false)), none⟩,
    ⟨some 6, .mv (.t 114), none⟩])
  (.ret))))))))))))))))
theorem b9 : Body Try.prog 9 c9 [.tmp 6] 115 := ⟨by kernel_rfl, _, _, Try.func9, rfl, by kernel_rfl, by kernel_rfl, rfl⟩
def c10 : ACode :=
  .seq (.reg [⟨some 0, .mv (.k .nilp), none⟩])
  (.seq (.reg [⟨some 9, .call (.k (.fn 42 [] [])) [(.k (.int .i64 3)), (.k (.int .i64 2))], none⟩,
    ⟨some 8, .mv (.t 9), none⟩,
    ⟨some 10, .ext (.t 8) 0, none⟩,
    ⟨some 11, .ext (.t 8) 1, none⟩,
    ⟨some 1, .mv (.t 10), none⟩,
    ⟨some 2, .mv (.t 11), none⟩])
  (.seq (.seq (.reg [⟨some 12, .mv (.t 2), none⟩,
    ⟨some 13, .bin .neq (.t 12) (.k (.int .i64 0)), none⟩,
    ⟨some 14, .mv (.t 13), none⟩,
    ⟨some 15, .mv (.t 1), some (14, false)⟩,
    ⟨some 16, .eqp false false (.t 15) (.k .nilp), some (14, false)⟩,
    ⟨some 17, .pick (.t 14) (.k (.bool true)) (.t 16), none⟩])
  (.cond (.t 17) (.seq (.reg [⟨some 0, .mv (.k .nilp), none⟩])
    (.ret))
    (.skip)))
  (.seq (.reg [⟨some 19, .mv (.t 1), none⟩,
    ⟨some 20, .call (.k (.fn 14 [] [])) [(.t 19), (.k (.int .i64 0)), (.k (.int .i64 7)), (.k (.bool false))], none⟩,
    ⟨some 18, .mv (.t 20), none⟩,
    ⟨some 21, .ext (.t 18) 0, none⟩,
    ⟨some 22, .ext (.t 18) 1, none⟩,
    ⟨some 3, .mv (.t 21), none⟩,
    ⟨some 2, .mv (.t 22), none⟩])
  (.seq (.reg [⟨some 24, .mv (.t 1), none⟩,
    ⟨some 25, .call (.k (.fn 14 [] [])) [(.t 24), (.k (.int .i64 0)), (.k (.int .i64 8)), (.k (.bool false))], none⟩,
    ⟨some 23, .mv (.t 25), none⟩,
    ⟨some 26, .ext (.t 23) 0, none⟩,
    ⟨some 27, .ext (.t 23) 1, none⟩,
    ⟨some 4, .mv (.t 26), none⟩,
    ⟨some 5, .mv (.t 27), none⟩])
  (.seq (.reg [⟨some 29, .mv (.t 1), none⟩,
    ⟨some 30, .call (.k (.fn 41 [] [])) [(.t 29), (.k (.int .i64 0)), (.k (.int .i64 9))], none⟩,
    ⟨some 28, .mv (.t 30), none⟩,
    ⟨some 31, .ext (.t 28) 0, none⟩,
    ⟨some 32, .ext (.t 28) 1, none⟩,
    ⟨some 6, .mv (.t 31), none⟩,
    ⟨some 7, .mv (.t 32), none⟩])
  (.seq (.seq (.reg [⟨some 33, .mv (.t 2), none⟩,
    ⟨some 34, .bin .neq (.t 33) (.k (.int .i64 0)), none⟩,
    ⟨some 35, .mv (.t 34), none⟩,
    ⟨some 36, .mv (.t 5), some (35, false)⟩,
    ⟨some 37, .bin .neq (.t 36) (.k (.int .i64 0)), some (35, false)⟩,
    ⟨some 38, .pick (.t 35) (.k (.bool true)) (.t 37), none⟩,
    ⟨some 39, .mv (.t 38), none⟩,
    ⟨some 40, .mv (.t 7), some (39, false)⟩,
    ⟨some 41, .bin .neq (.t 40) (.k (.int .i64 0)), some (39, false)⟩,
    ⟨some 42, .pick (.t 39) (.k (.bool true)) (.t 41), none⟩,
    ⟨some 43, .mv (.t 42), none⟩,
    ⟨some 44, .mv (.t 3), some (43, false)⟩,
    ⟨some 45, .bin .neq (.t 44) (.k (.int .i64 0)), some (43, false)⟩,
    ⟨some 46, .pick (.t 43) (.k (.bool true)) (.t 45), none⟩,
    ⟨some 47, .mv (.t 46), none⟩,
    ⟨some 48, .mv (.t 4), some (47, false)⟩,
    ⟨some 49, .bin .neq (.t 48) (.k (.int .i64 1)), some (47, false)⟩,
    ⟨some 50, .pick (.t 47) (.k (.bool true)) (.t 49), none⟩,
    ⟨some 51, .mv (.t 50), none⟩,
    ⟨some 52, .mv (.t 6), some (51, false)⟩,
    ⟨some 53, .bin .neq (.t 52) (.k (.int .i64 2)), some (51, false)⟩,
    ⟨some 54, .pick (.t 51) (.k (.bool true)) (.t 53), none⟩])
  (.cond (.t 54) (.seq (.reg [⟨some 0, .mv (.k .nilp), none⟩])
    (.ret))
    (.skip)))
  (.seq (.reg [⟨some 55, .mv (.t 1), none⟩,
    ⟨some 0, .mv (.t 55), none⟩])
  (.ret))))))))
theorem b10 : Body Try.prog 10 c10 [.tmp 0] 56 := ⟨by kernel_rfl, _, _, Try.func10, rfl, by kernel_rfl, by kernel_rfl, rfl⟩
def c11 : ACode :=
  .seq (.reg [⟨some 4, .mv (.k (.bool false)), none⟩])
  (.seq (.seq (.reg [⟨some 6, .mv (.t 0), none⟩,
    ⟨some 7, .len (.t 6), none⟩,
    ⟨some 8, .mv (.t 1), none⟩,
    ⟨some 9, .len (.t 8), none⟩,
    ⟨some 10, .bin .neq (.t 7) (.t 9), none⟩])
  (.cond (.t 10) (.seq (.reg [⟨some 4, .mv (.k (.bool false)), none⟩])
    (.ret))
    (.skip)))
  (.seq (.seq (.reg [⟨some 5, .mv (.k (.int .i64 0)), none⟩])
  (.block 0 (.loop (.seq (.seq (.reg [⟨some 11, .mv (.t 5), none⟩,
      ⟨some 12, .mv (.t 0), none⟩,
      ⟨some 13, .len (.t 12), none⟩,
      ⟨some 14, .bin .lss (.t 11) (.t 13), none⟩])
    (.cond (.t 14) (.skip)
      (.exit 0)))
    (.seq (.block 1 (.seq (.regD [⟨some 17, .mv (.t 0), none⟩,
       ⟨some 18, .mv (.t 5), none⟩,
       ⟨some 19, .iaddrS 1 (.t 17) (.t 18), none⟩,
       ⟨some 20, .load false 1 (.t 19), none⟩,
       ⟨some 21, .mv (.t 1), none⟩,
       ⟨some 22, .mv (.t 5), none⟩,
       ⟨some 23, .iaddrS 1 (.t 21) (.t 22), none⟩,
       ⟨some 24, .load false 1 (.t 23), none⟩,
       ⟨some 25, .bin .neq (.t 20) (.t 24), none⟩] [[], [], [0, 1], [2], [], [], [4, 5], [6], [3, 7]])
     (.cond (.t 25) (.seq (.reg [⟨some 4, .mv (.k (.bool false)), none⟩])
       (.ret))
       (.skip))))
    (.reg [⟨some 15, .mv (.t 5), none⟩,
      ⟨some 16, .bin .add (.t 15) (.k (.int .i64 1)), none⟩,
      ⟨some 5, .mv (.t 16), none⟩]))))))
  (.seq (.reg [⟨some 4, .mv (.k (.bool true)), none⟩])
  (.ret))))
theorem b11 : Body Try.prog 11 c11 [.tmp 4] 26 := ⟨by kernel_rfl, _, _, Try.func11, rfl, by kernel_rfl, by kernel_rfl, rfl⟩
def c12 : ACode :=
  .seq (.reg [⟨some 6, .mv (.k .nils), none⟩])
  (.seq (.reg [⟨some 7, .new [.nils], none⟩])
  (.seq (.seq (.reg [⟨some 9, .mv (.t 0), none⟩,
    ⟨some 10, .mv (.t 1), none⟩,
    ⟨some 11, .mv (.t 2), none⟩,
    ⟨some 12, .call (.k (.fn 47 [] [])) [(.t 9), (.t 10), (.t 11)], none⟩])
  (.block 0 (.rangeF (.t 12) [13, 14] (.reg [⟨some 8, .mv (.t 13), none⟩])
     (.block 1 (.seq (.reg [⟨some 15, .load false 1 (.t 7), none⟩,
        ⟨some 16, .mv (.t 8), none⟩,
        ⟨some 17, .bslice 1 1 [(.int .i64 0)] [(0, 1, (.t 16))], none⟩,
        ⟨some 18, .append 1 8 (.t 15) (.t 17), none⟩,
        ⟨none, .store 1 (.t 7) (.t 18), none⟩])
      (.seq (.reg [⟨some 19, .load false 1 (.t 7), none⟩,
        ⟨some 20, .len (.t 19), none⟩,
        ⟨some 21, .bin .gtr (.t 20) (.k (.int .i64 2000)), none⟩])
      (.cond (.t 21) (.exit 0)
        (.skip))))))))
  (.seq (.reg [⟨some 22, .load false 1 (.t 7), none⟩,
    ⟨some 6, .mv (.t 22), none⟩])
  (.ret))))
theorem b12 : Body Try.prog 12 c12 [.tmp 6] 23 := ⟨by kernel_rfl, _, _, Try.func12, rfl, by kernel_rfl, by kernel_rfl, rfl⟩
def c13 : ACode :=
  .seq (.reg [⟨some 4, .mv (.k (.int .i64 0)), none⟩,
    ⟨some 5, .mv (.k (.int .i64 0)), none⟩])
  (.seq (.seq (.reg [⟨some 7, .mv (.t 0), none⟩,
    ⟨some 8, .mv (.t 1), none⟩,
    ⟨some 9, .call (.k (.fn 53 [] [])) [(.t 7), (.t 8)], none⟩,
    ⟨some 6, .mv (.t 9), none⟩])
  (.seq (.reg [⟨some 10, .mv (.t 6), none⟩,
    ⟨some 11, .bin .neq (.t 10) (.k (.int .i64 0)), none⟩])
  (.cond (.t 11) (.seq (.reg [⟨some 12, .mv (.t 4), none⟩,
      ⟨some 13, .mv (.t 6), none⟩,
      ⟨some 4, .mv (.t 12), none⟩,
      ⟨some 5, .mv (.t 13), none⟩])
    (.ret))
    (.skip))))
  (.seq (.reg [⟨some 14, .mv (.t 0), none⟩,
    ⟨some 15, .mv (.t 1), none⟩,
    ⟨some 16, .call (.k (.fn 54 [] [])) [(.t 14), (.t 15)], none⟩])
  (.seq (.regD [⟨some 17, .mv (.t 0), none⟩,
    ⟨some 18, .nchk (.t 17), none⟩,
    ⟨some 19, .faddr 0 (.t 18), none⟩,
    ⟨some 20, .load false 1 (.t 19), none⟩,
    ⟨some 21, .mv (.t 1), none⟩,
    ⟨some 22, .mv (.t 0), none⟩,
    ⟨some 23, .nchk (.t 22), none⟩,
    ⟨some 24, .faddr 0 (.t 23), none⟩,
    ⟨some 25, .load false 1 (.t 24), none⟩,
    ⟨some 26, .mv (.t 1), none⟩,
    ⟨some 27, .iaddrS 4 (.t 25) (.t 26), none⟩,
    ⟨some 28, .faddr 0 (.t 27), none⟩,
    ⟨some 29, .load false 1 (.t 28), none⟩,
    ⟨some 30, .mv (.t 4), none⟩,
    ⟨some 4, .mv (.t 29), none⟩,
    ⟨some 31, .iaddrS 4 (.t 20) (.t 21), none⟩,
    ⟨some 32, .faddr 0 (.t 31), none⟩,
    ⟨none, .store 1 (.t 32) (.t 30), none⟩] [[], [0], [1], [2], [], [], [5], [6], [7], [], [8, 9], [10], [11], [], [12, 5, 6, 7, 8, 9, 10, 11, 12, 13], [3, 4, 0, 1, 2, 3, 4, 5, 6, 7, 8, 9, 10, 11, 12, 13, 14], [15, 0, 1, 2, 3, 4, 5, 6, 7, 8, 9, 10, 11, 12, 13, 14], [16, 13, 14, 0, 1, 2, 3, 4, 5, 6, 7, 8, 9, 10, 11, 12, 13, 14]])
  (.seq (.reg [⟨some 33, .mv (.t 0), none⟩,
    ⟨some 34, .mv (.t 0), none⟩,
    ⟨some 35, .nchk (.t 34), none⟩,
    ⟨some 36, .faddr 2 (.t 35), none⟩,
    ⟨some 37, .load false 1 (.t 36), none⟩,
    ⟨some 38, .mv (.t 1), none⟩,
    ⟨some 39, .minmax false (.t 37) [(.t 38)], none⟩,
    ⟨some 40, .nchk (.t 33), none⟩,
    ⟨some 41, .faddr 2 (.t 40), none⟩,
    ⟨none, .store 1 (.t 41) (.t 39), none⟩])
  (.seq (.reg [⟨some 42, .mv (.t 4), none⟩,
    ⟨some 4, .mv (.t 42), none⟩,
    ⟨some 5, .mv (.k (.int .i64 0)), none⟩])
  (.ret))))))
theorem b13 : Body Try.prog 13 c13 [.tmp 4, .tmp 5] 43 := ⟨by kernel_rfl, _, _, Try.func13, rfl, by kernel_rfl, by kernel_rfl, rfl⟩
def c14 : ACode :=
  .seq (.reg [⟨some 8, .mv (.k (.int .i64 0)), none⟩,
    ⟨some 9, .mv (.k (.int .i64 0)), none⟩])
  (.seq (.seq (.reg [⟨some 11, .mv (.t 0), none⟩,
    ⟨some 12, .mv (.t 1), none⟩,
    ⟨some 13, .call (.k (.fn 55 [] [])) [(.t 11), (.t 12)], none⟩,
    ⟨some 10, .mv (.t 13), none⟩])
  (.seq (.reg [⟨some 14, .mv (.t 10), none⟩,
    ⟨some 15, .bin .neq (.t 14) (.k (.int .i64 0)), none⟩])
  (.cond (.t 15) (.seq (.reg [⟨some 16, .mv (.t 10), none⟩,
      ⟨some 8, .mv (.k (.int .i64 0)), none⟩,
      ⟨some 9, .mv (.t 16), none⟩])
    (.ret))
    (.skip))))
  (.seq (.reg [⟨some 17, .mv (.t 0), none⟩,
    ⟨some 18, .call (.k (.fn 56 [] [])) [(.t 17)], none⟩,
    ⟨some 8, .mv (.t 18), none⟩])
  (.seq (.seq (.reg [⟨some 19, .mv (.t 8), none⟩,
    ⟨some 20, .bin .eql (.t 19) (.k (.int .i64 (-1))), none⟩])
  (.cond (.t 20) (.seq (.reg [⟨some 8, .mv (.k (.int .i64 0)), none⟩,
      ⟨some 9, .mv (.k (.int .i64 5)), none⟩])
    (.ret))
    (.skip)))
  (.seq (.reg [⟨some 21, .mv (.t 0), none⟩,
    ⟨some 22, .nchk (.t 21), none⟩,
    ⟨some 23, .faddr 0 (.t 22), none⟩,
    ⟨some 24, .load false 1 (.t 23), none⟩,
    ⟨some 25, .mv (.t 8), none⟩,
    ⟨some 26, .mv (.t 2), none⟩,
    ⟨some 27, .iaddrS 4 (.t 24) (.t 25), none⟩,
    ⟨some 28, .faddr 0 (.t 27), none⟩,
    ⟨none, .store 1 (.t 28) (.t 26), none⟩])
  (.seq (.reg [⟨some 29, .mv (.t 0), none⟩,
    ⟨some 30, .mv (.t 8), none⟩,
    ⟨some 31, .mv (.t 1), none⟩,
    ⟨some 32, .mv (.t 3), none⟩,
    ⟨some 33, .call (.k (.fn 57 [] [])) [(.t 29), (.t 30), (.t 31), (.t 32)], none⟩])
  (.seq (.reg [⟨some 34, .mv (.t 8), none⟩,
    ⟨some 8, .mv (.t 34), none⟩,
    ⟨some 9, .mv (.k (.int .i64 0)), none⟩])
  (.ret)))))))
theorem b14 : Body Try.prog 14 c14 [.tmp 8, .tmp 9] 35 := ⟨by kernel_rfl, _, _, Try.func14, rfl, by kernel_rfl, by kernel_rfl, rfl⟩
def c15 : ACode :=
  .seq (.reg [⟨some 6, .mv (.k (.int .i64 0)), none⟩,
    ⟨some 7, .mv (.k (.int .i64 0)), none⟩])
  (.seq (.seq (.reg [⟨some 9, .mv (.t 0), none⟩,
    ⟨some 10, .mv (.t 1), none⟩,
    ⟨some 11, .call (.k (.fn 53 [] [])) [(.t 9), (.t 10)], none⟩,
    ⟨some 8, .mv (.t 11), none⟩])
  (.seq (.reg [⟨some 12, .mv (.t 8), none⟩,
    ⟨some 13, .bin .neq (.t 12) (.k (.int .i64 0)), none⟩])
  (.cond (.t 13) (.seq (.reg [⟨some 14, .mv (.t 8), none⟩,
      ⟨some 6, .mv (.k (.int .i64 0)), none⟩,
      ⟨some 7, .mv (.t 14), none⟩])
    (.ret))
    (.skip))))
  (.seq (.reg [⟨some 15, .mv (.t 0), none⟩,
    ⟨some 16, .mv (.t 1), none⟩,
    ⟨some 17, .mv (.t 2), none⟩,
    ⟨some 18, .call (.k (.fn 58 [] [])) [(.t 15), (.t 16), (.t 17)], none⟩,
    ⟨some 6, .mv (.t 18), none⟩])
  (.seq (.seq (.reg [⟨some 19, .mv (.t 6), none⟩,
    ⟨some 20, .bin .eql (.t 19) (.k (.int .i64 (-1))), none⟩])
  (.cond (.t 20) (.seq (.reg [⟨some 6, .mv (.k (.int .i64 0)), none⟩,
      ⟨some 7, .mv (.k (.int .i64 9)), none⟩])
    (.ret))
    (.skip)))
  (.seq (.reg [⟨some 21, .mv (.t 6), none⟩,
    ⟨some 6, .mv (.t 21), none⟩,
    ⟨some 7, .mv (.k (.int .i64 0)), none⟩])
  (.ret)))))
theorem b15 : Body Try.prog 15 c15 [.tmp 6, .tmp 7] 22 := ⟨by kernel_rfl, _, _, Try.func15, rfl, by kernel_rfl, by kernel_rfl, rfl⟩
def c16 : ACode :=
  .seq (.reg [⟨some 4, .mv (.k (.int .i64 0)), none⟩,
    ⟨some 5, .mv (.k (.int .i64 0)), none⟩])
  (.seq (.seq (.reg [⟨some 7, .mv (.t 0), none⟩,
    ⟨some 8, .mv (.t 1), none⟩,
    ⟨some 9, .call (.k (.fn 53 [] [])) [(.t 7), (.t 8)], none⟩,
    ⟨some 6, .mv (.t 9), none⟩])
  (.seq (.reg [⟨some 10, .mv (.t 6), none⟩,
    ⟨some 11, .bin .neq (.t 10) (.k (.int .i64 0)), none⟩])
  (.cond (.t 11) (.seq (.reg [⟨some 12, .mv (.t 6), none⟩,
      ⟨some 4, .mv (.k (.int .i64 0)), none⟩,
      ⟨some 5, .mv (.t 12), none⟩])
    (.ret))
    (.skip))))
  (.seq (.reg [⟨some 13, .mv (.t 0), none⟩,
    ⟨some 14, .nchk (.t 13), none⟩,
    ⟨some 15, .faddr 0 (.t 14), none⟩,
    ⟨some 16, .load false 1 (.t 15), none⟩,
    ⟨some 17, .mv (.t 1), none⟩,
    ⟨some 18, .iaddrS 4 (.t 16) (.t 17), none⟩,
    ⟨some 19, .faddr 1 (.t 18), none⟩,
    ⟨some 20, .load false 1 (.t 19), none⟩,
    ⟨some 4, .mv (.t 20), none⟩,
    ⟨some 5, .mv (.k (.int .i64 0)), none⟩])
  (.ret)))
theorem b16 : Body Try.prog 16 c16 [.tmp 4, .tmp 5] 21 := ⟨by kernel_rfl, _, _, Try.func16, rfl, by kernel_rfl, by kernel_rfl, rfl⟩
def c17 : ACode :=
  .seq (.reg [⟨some 4, .mv (.k (.int .i64 0)), none⟩,
    ⟨some 5, .mv (.k (.int .i64 0)), none⟩])
  (.seq (.seq (.reg [⟨some 7, .mv (.t 0), none⟩,
    ⟨some 8, .mv (.t 1), none⟩,
    ⟨some 9, .call (.k (.fn 55 [] [])) [(.t 7), (.t 8)], none⟩,
    ⟨some 6, .mv (.t 9), none⟩])
  (.seq (.reg [⟨some 10, .mv (.t 6), none⟩,
    ⟨some 11, .bin .neq (.t 10) (.k (.int .i64 0)), none⟩])
  (.cond (.t 11) (.seq (.reg [⟨some 12, .mv (.t 6), none⟩,
      ⟨some 4, .mv (.k (.int .i64 0)), none⟩,
      ⟨some 5, .mv (.t 12), none⟩])
    (.ret))
    (.skip))))
  (.seq (.reg [⟨some 13, .mv (.t 0), none⟩,
    ⟨some 14, .nchk (.t 13), none⟩,
    ⟨some 15, .faddr 1 (.t 14), none⟩,
    ⟨some 16, .load false 1 (.t 15), none⟩,
    ⟨some 17, .mv (.t 1), none⟩,
    ⟨some 18, .iaddrS 3 (.t 16) (.t 17), none⟩,
    ⟨some 19, .faddr 2 (.t 18), none⟩,
    ⟨some 20, .load false 1 (.t 19), none⟩,
    ⟨some 4, .mv (.t 20), none⟩,
    ⟨some 5, .mv (.k (.int .i64 0)), none⟩])
  (.ret)))
theorem b17 : Body Try.prog 17 c17 [.tmp 4, .tmp 5] 21 := ⟨by kernel_rfl, _, _, Try.func17, rfl, by kernel_rfl, by kernel_rfl, rfl⟩
def c18 : ACode :=
  .seq (.reg [⟨some 0, .mv (.k (.bool false)), none⟩])
  (.seq (.reg [⟨some 9, .call (.k (.fn 10 [] [])) [], none⟩,
    ⟨some 1, .mv (.t 9), none⟩])
  (.seq (.seq (.reg [⟨some 10, .mv (.t 1), none⟩,
    ⟨some 11, .eqp false false (.t 10) (.k .nilp), none⟩])
  (.cond (.t 11) (.seq (.reg [⟨some 0, .mv (.k (.bool false)), none⟩])
    (.ret))
    (.skip)))
  (.seq (.reg [⟨some 13, .mv (.t 1), none⟩,
    ⟨some 14, .call (.k (.fn 14 [] [])) [(.t 13), (.k (.int .i64 1)), (.k (.int .i64 5)), (.k (.bool false))], none⟩,
    ⟨some 12, .mv (.t 14), none⟩,
    ⟨some 15, .ext (.t 12) 0, none⟩,
    ⟨some 16, .ext (.t 12) 1, none⟩,
    ⟨some 2, .mv (.t 15), none⟩,
    ⟨some 3, .mv (.t 16), none⟩])
  (.seq (.reg [⟨some 18, .mv (.t 1), none⟩,
    ⟨some 19, .call (.k (.fn 13 [] [])) [(.t 18), (.k (.int .i64 0))], none⟩,
    ⟨some 17, .mv (.t 19), none⟩,
    ⟨some 20, .ext (.t 17) 0, none⟩,
    ⟨some 21, .ext (.t 17) 1, none⟩,
    ⟨some 4, .mv (.t 20), none⟩,
    ⟨some 5, .mv (.t 21), none⟩])
  (.seq (.reg [⟨some 23, .mv (.t 1), none⟩,
    ⟨some 24, .call (.k (.fn 14 [] [])) [(.t 23), (.k (.int .i64 1)), (.k (.int .i64 4)), (.k (.bool true))], none⟩,
    ⟨some 22, .mv (.t 24), none⟩,
    ⟨some 25, .ext (.t 22) 0, none⟩,
    ⟨some 26, .ext (.t 22) 1, none⟩,
    ⟨some 6, .mv (.t 25), none⟩,
    ⟨some 7, .mv (.t 26), none⟩])
  (.seq (.reg [⟨some 27, .bslice 1 3 [(.int .i64 0), (.int .i64 0), (.int .i64 0)] [(0, 1, (.k (.int .i64 4))), (1, 1, (.k (.int .i64 8))), (2, 1, (.k (.int .i64 9)))], none⟩,
    ⟨some 28, .bslice 1 3 [(.int .i64 0), (.int .i64 0), (.int .i64 0)] [(0, 1, (.k (.int .i64 1))), (1, 1, (.k (.int .i64 0))), (2, 1, (.k (.int .i64 0)))], none⟩,
    ⟨some 29, .bslice 1 3 [(.int .i64 0), (.int .i64 0), (.int .i64 0)] [(0, 1, (.k (.int .i64 (-1)))), (1, 1, (.k (.int .i64 (-1)))), (2, 1, (.k (.int .i64 1)))], none⟩,
    ⟨some 30, .bslice 1 3 [(.int .i64 0), (.int .i64 0), (.int .i64 0)] [(0, 1, (.k (.int .i64 (-1)))), (1, 1, (.k (.int .i64 2))), (2, 1, (.k (.int .i64 (-1))))], none⟩,
    ⟨some 31, .bslice 1 2 [(.int .i64 0), (.int .i64 0)] [(0, 1, (.k (.int .i64 2))), (1, 1, (.k (.int .i64 0)))], none⟩,
    ⟨some 32, .bslice 1 2 [(.int .i64 0), (.int .i64 0)] [(0, 1, (.k (.int .i64 1))), (1, 1, (.k (.int .i64 0)))], none⟩,
    ⟨some 33, .build [.nils, .nils, .nils, .nils, .nils, .nils] [(0, 1, (.t 27)), (1, 1, (.t 28)), (2, 1, (.t 29)), (3, 1, (.t 30)), (4, 1, (.t 31)), (5, 1, (.t 32))], none⟩,
    ⟨some 8, .new [.nils, .nils, .nils, .nils, .nils, .nils], none⟩,
    ⟨none, .store 6 (.t 8) (.t 33), none⟩])
  (.seq (.regD [⟨some 34, .mv (.t 3), none⟩,
    ⟨some 35, .bin .eql (.t 34) (.k (.int .i64 5)), none⟩,
    ⟨some 36, .mv (.t 35), none⟩,
    ⟨some 37, .mv (.t 5), some (36, true)⟩,
    ⟨some 38, .bin .eql (.t 37) (.k (.int .i64 0)), some (36, true)⟩,
    ⟨some 39, .pick (.t 36) (.t 38) (.k (.bool false)), none⟩,
    ⟨some 40, .mv (.t 39), none⟩,
    ⟨some 41, .mv (.t 7), some (40, true)⟩,
    ⟨some 42, .bin .eql (.t 41) (.k (.int .i64 0)), some (40, true)⟩,
    ⟨some 43, .pick (.t 40) (.t 42) (.k (.bool false)), none⟩,
    ⟨some 44, .mv (.t 43), none⟩,
    ⟨some 45, .mv (.t 4), some (44, true)⟩,
    ⟨some 46, .bin .eql (.t 45) (.k (.int .i64 7)), some (44, true)⟩,
    ⟨some 47, .pick (.t 44) (.t 46) (.k (.bool false)), none⟩,
    ⟨some 48, .mv (.t 47), none⟩,
    ⟨some 49, .mv (.t 6), some (48, true)⟩,
    ⟨some 50, .bin .eql (.t 49) (.k (.int .i64 0)), some (48, true)⟩,
    ⟨some 51, .pick (.t 48) (.t 50) (.k (.bool false)), none⟩,
    ⟨some 52, .mv (.t 51), none⟩,
    ⟨some 53, .mv (.t 1), some (52, true)⟩,
    ⟨some 54, .call (.k (.fn 24 [] [])) [(.t 53)], some (52, true)⟩,
    ⟨some 55, .load true 6 (.t 8), some (52, true)⟩,
    ⟨some 56, .call (.k (.fn 23 [] [])) [(.t 54), (.t 55)], some (52, true)⟩,
    ⟨some 57, .pick (.t 52) (.t 56) (.k (.bool false)), none⟩,
    ⟨some 0, .mv (.t 57), none⟩] [[], [0], [1], [2], [3, 2], [2, 4], [5, 2], [6], [7, 6], [6, 8], [9, 6], [10], [11, 10], [10, 12], [13, 10], [14], [15, 14], [14, 16], [17, 14], [18], [19, 18, 18], [18], [20, 21, 20, 18], [18, 22], [23, 22, 0, 1, 2, 3, 4, 5, 6, 7, 8, 9, 10, 11, 12, 13, 14, 15, 16, 17, 18, 19, 20, 21, 22, 23]])
  (.ret))))))))
theorem b18 : Body Try.prog 18 c18 [.tmp 0] 58 := ⟨by kernel_rfl, _, _, Try.func18, rfl, by kernel_rfl, by kernel_rfl, rfl⟩
def c19 : ACode :=
  .seq (.reg [⟨some 1, .box (.t 0), none⟩,
    ⟨some 2, .new [(.int .i64 0), (.int .i64 0)], none⟩,
    ⟨some 3, .mv (.k (.int .i64 0)), none⟩])
  (.seq (.seq (.reg [⟨some 11, .call (.k (.fn 59 [] [])) [(.t 1)], none⟩,
    ⟨some 12, .un .not (.t 11), none⟩])
  (.cond (.t 12) (.seq (.reg [⟨some 13, .build [(.int .i64 0), (.int .i64 0)] [(0, 1, (.k (.int .i64 1)))], none⟩,
      ⟨none, .store 2 (.t 2) (.t 13), none⟩,
      ⟨some 3, .mv (.k (.int .i64 6)), none⟩])
    (.ret))
    (.skip)))
  (.seq (.seq (.reg [⟨some 14, .faddr 1 (.t 1), none⟩,
    ⟨some 15, .load false 1 (.t 14), none⟩,
    ⟨some 16, .len (.t 15), none⟩,
    ⟨some 17, .mv (.k (.int .i64 0)), none⟩])
  (.block 0 (.loop (.seq (.reg [⟨some 18, .bin .lss (.t 17) (.t 16), none⟩])
    (.seq (.cond (.t 18) (.skip)
      (.exit 0))
    (.seq (.block 1 (.seq (.reg [⟨some 19, .mv (.t 17), none⟩,
       ⟨some 4, .mv (.t 19), none⟩])
     (.seq (.reg [⟨some 20, .mv (.t 4), none⟩,
       ⟨some 21, .call (.k (.fn 60 [] [])) [(.t 1), (.t 20)], none⟩])
     (.cond (.t 21) (.seq (.reg [⟨some 22, .mv (.t 4), none⟩,
         ⟨some 23, .build [(.int .i64 0), (.int .i64 0)] [(0, 1, (.k (.int .i64 2))), (1, 1, (.t 22))], none⟩,
         ⟨none, .store 2 (.t 2) (.t 23), none⟩,
         ⟨some 3, .mv (.k (.int .i64 6)), none⟩])
       (.ret))
       (.skip)))))
    (.reg [⟨some 24, .bin .add (.t 17) (.k (.int .i64 1)), none⟩,
      ⟨some 17, .mv (.t 24), none⟩])))))))
  (.seq (.reg [⟨some 25, .faddr 1 (.t 1), none⟩,
    ⟨some 26, .load false 1 (.t 25), none⟩,
    ⟨some 27, .len (.t 26), none⟩,
    ⟨some 28, .mks 1 1 [(.bool false)] (.t 27) (.t 27), none⟩,
    ⟨some 5, .mv (.t 28), none⟩])
  (.seq (.seq (.reg [⟨some 29, .faddr 4 (.t 1), none⟩,
    ⟨some 30, .load false 1 (.t 29), none⟩,
    ⟨some 31, .len (.t 30), none⟩,
    ⟨some 32, .mv (.k (.int .i64 0)), none⟩])
  (.block 2 (.loop (.seq (.reg [⟨some 33, .bin .lss (.t 32) (.t 31), none⟩])
    (.seq (.cond (.t 33) (.skip)
      (.exit 2))
    (.seq (.block 3 (.seq (.reg [⟨some 34, .mv (.t 32), none⟩,
       ⟨some 35, .iaddrS 1 (.t 30) (.t 32), none⟩,
       ⟨some 36, .load false 1 (.t 35), none⟩,
       ⟨some 6, .mv (.t 34), none⟩,
       ⟨some 7, .mv (.t 36), none⟩])
     (.seq (.reg [⟨some 8, .mv (.k (.int .i64 (-1))), none⟩])
     (.seq (.block 4 (.loop (.seq (.seq (.reg [⟨some 37, .mv (.t 7), none⟩,
         ⟨some 38, .bin .neq (.t 37) (.k (.int .i64 (-1))), none⟩,
         ⟨some 39, .mv (.t 38), none⟩,
         ⟨some 40, .mv (.t 7), some (39, true)⟩,
         ⟨some 41, .bin .geq (.t 40) (.k (.int .i64 0)), some (39, true)⟩,
         ⟨some 42, .pick (.t 39) (.t 41) (.k (.bool false)), none⟩,
         ⟨some 43, .mv (.t 42), none⟩,
         ⟨some 44, .mv (.t 7), some (43, true)⟩,
         ⟨some 45, .mv (.t 5), some (43, true)⟩,
         ⟨some 46, .len (.t 45), some (43, true)⟩,
         ⟨some 47, .bin .lss (.t 44) (.t 46), some (43, true)⟩,
         ⟨some 48, .pick (.t 43) (.t 47) (.k (.bool false)), none⟩,
         ⟨some 49, .mv (.t 48), none⟩,
         ⟨some 50, .faddr 1 (.t 1), some (49, true)⟩,
         ⟨some 51, .load false 1 (.t 50), some (49, true)⟩,
         ⟨some 52, .mv (.t 7), some (49, true)⟩,
         ⟨some 53, .iaddrS 1 (.t 51) (.t 52), some (49, true)⟩,
         ⟨some 54, .load false 1 (.t 53), some (49, true)⟩,
         ⟨some 55, .mv (.t 6), some (49, true)⟩,
         ⟨some 56, .bin .eql (.t 54) (.t 55), some (49, true)⟩,
         ⟨some 57, .pick (.t 49) (.t 56) (.k (.bool false)), none⟩,
         ⟨some 58, .mv (.t 57), none⟩,
         ⟨some 59, .faddr 3 (.t 1), some (58, true)⟩,
         ⟨some 60, .load false 1 (.t 59), some (58, true)⟩,
         ⟨some 61, .mv (.t 7), some (58, true)⟩,
         ⟨some 62, .iaddrS 1 (.t 60) (.t 61), some (58, true)⟩,
         ⟨some 63, .load false 1 (.t 62), some (58, true)⟩,
         ⟨some 64, .mv (.t 8), some (58, true)⟩,
         ⟨some 65, .bin .eql (.t 63) (.t 64), some (58, true)⟩,
         ⟨some 66, .pick (.t 58) (.t 65) (.k (.bool false)), none⟩,
         ⟨some 67, .mv (.t 66), none⟩,
         ⟨some 68, .mv (.t 5), some (67, true)⟩,
         ⟨some 69, .mv (.t 7), some (67, true)⟩,
         ⟨some 70, .iaddrS 1 (.t 68) (.t 69), some (67, true)⟩,
         ⟨some 71, .load false 1 (.t 70), some (67, true)⟩,
         ⟨some 72, .un .not (.t 71), some (67, true)⟩,
         ⟨some 73, .pick (.t 67) (.t 72) (.k (.bool false)), none⟩])
       (.cond (.t 73) (.skip)
         (.exit 4)))
       (.block 5 (.seq (.reg [⟨some 74, .mv (.t 5), none⟩,
          ⟨some 75, .mv (.t 7), none⟩,
          ⟨some 76, .iaddrS 1 (.t 74) (.t 75), none⟩,
          ⟨none, .store 1 (.t 76) (.k (.bool true)), none⟩])
        (.regD [⟨some 77, .mv (.t 7), none⟩,
          ⟨some 78, .faddr 2 (.t 1), none⟩,
          ⟨some 79, .load false 1 (.t 78), none⟩,
          ⟨some 80, .mv (.t 7), none⟩,
          ⟨some 81, .iaddrS 1 (.t 79) (.t 80), none⟩,
          ⟨some 82, .load false 1 (.t 81), none⟩,
          ⟨some 8, .mv (.t 77), none⟩,
          ⟨some 7, .mv (.t 82), none⟩] [[], [], [1], [], [2, 3], [4], [0, 0], [5, 6, 0, 1, 2, 3, 4, 5, 6]]))))))
     (.seq (.reg [⟨some 83, .mv (.t 7), none⟩,
       ⟨some 84, .bin .neq (.t 83) (.k (.int .i64 (-1))), none⟩,
       ⟨some 85, .mv (.t 84), none⟩,
       ⟨some 86, .faddr 5 (.t 1), some (85, false)⟩,
       ⟨some 87, .load false 1 (.t 86), some (85, false)⟩,
       ⟨some 88, .mv (.t 6), some (85, false)⟩,
       ⟨some 89, .iaddrS 1 (.t 87) (.t 88), some (85, false)⟩,
       ⟨some 90, .load false 1 (.t 89), some (85, false)⟩,
       ⟨some 91, .mv (.t 8), some (85, false)⟩,
       ⟨some 92, .bin .neq (.t 90) (.t 91), some (85, false)⟩,
       ⟨some 93, .pick (.t 85) (.k (.bool true)) (.t 92), none⟩])
     (.cond (.t 93) (.seq (.reg [⟨some 94, .mv (.t 6), none⟩,
         ⟨some 95, .build [(.int .i64 0), (.int .i64 0)] [(0, 1, (.k (.int .i64 3))), (1, 1, (.t 94))], none⟩,
         ⟨none, .store 2 (.t 2) (.t 95), none⟩,
         ⟨some 3, .mv (.k (.int .i64 6)), none⟩])
       (.ret))
       (.skip)))))))
    (.reg [⟨some 96, .bin .add (.t 32) (.k (.int .i64 1)), none⟩,
      ⟨some 32, .mv (.t 96), none⟩])))))))
  (.seq (.seq (.reg [⟨some 97, .faddr 1 (.t 1), none⟩,
    ⟨some 98, .load false 1 (.t 97), none⟩,
    ⟨some 99, .len (.t 98), none⟩,
    ⟨some 100, .mv (.k (.int .i64 0)), none⟩])
  (.block 6 (.loop (.seq (.reg [⟨some 101, .bin .lss (.t 100) (.t 99), none⟩])
    (.seq (.cond (.t 101) (.skip)
      (.exit 6))
    (.seq (.block 7 (.seq (.reg [⟨some 102, .mv (.t 100), none⟩,
       ⟨some 103, .iaddrS 1 (.t 98) (.t 100), none⟩,
       ⟨some 104, .load false 1 (.t 103), none⟩,
       ⟨some 9, .mv (.t 102), none⟩,
       ⟨some 10, .mv (.t 104), none⟩])
     (.seq (.reg [⟨some 105, .mv (.t 10), none⟩,
       ⟨some 106, .bin .neq (.t 105) (.k (.int .i64 (-1))), none⟩,
       ⟨some 107, .mv (.t 106), none⟩,
       ⟨some 108, .mv (.t 5), some (107, true)⟩,
       ⟨some 109, .mv (.t 9), some (107, true)⟩,
       ⟨some 110, .iaddrS 1 (.t 108) (.t 109), some (107, true)⟩,
       ⟨some 111, .load false 1 (.t 110), some (107, true)⟩,
       ⟨some 112, .un .not (.t 111), some (107, true)⟩,
       ⟨some 113, .pick (.t 107) (.t 112) (.k (.bool false)), none⟩])
     (.cond (.t 113) (.seq (.reg [⟨some 114, .mv (.t 9), none⟩,
         ⟨some 115, .build [(.int .i64 0), (.int .i64 0)] [(0, 1, (.k (.int .i64 2))), (1, 1, (.t 114))], none⟩,
         ⟨none, .store 2 (.t 2) (.t 115), none⟩,
         ⟨some 3, .mv (.k (.int .i64 6)), none⟩])
       (.ret))
       (.skip)))))
    (.reg [⟨some 116, .bin .add (.t 100) (.k (.int .i64 1)), none⟩,
      ⟨some 100, .mv (.t 116), none⟩])))))))
  (.seq (.reg [⟨some 117, .build [(.int .i64 0), (.int .i64 0)] [], none⟩,
    ⟨none, .store 2 (.t 2) (.t 117), none⟩,
    ⟨some 3, .mv (.k (.int .i64 0)), none⟩])
  (.ret)))))))
theorem b19 : Body Try.prog 19 c19 [.cell 2 true 2, .tmp 3] 118 := ⟨by kernel_rfl, _, _, Try.func19, rfl, by kernel_rfl, by kernel_rfl, rfl⟩
def c20 : ACode :=
  .seq (.reg [⟨some 1, .box (.t 0), none⟩,
    ⟨some 2, .new [(.int .i64 0), (.int .i64 0)], none⟩,
    ⟨some 3, .mv (.k (.int .i64 0)), none⟩])
  (.seq (.seq (.reg [⟨some 9, .load true 6 (.t 1), none⟩,
    ⟨some 10, .call (.k (.fn 61 [] [])) [(.t 9)], none⟩,
    ⟨some 11, .un .not (.t 10), none⟩])
  (.cond (.t 11) (.seq (.reg [⟨some 12, .build [(.int .i64 0), (.int .i64 0)] [(0, 1, (.k (.int .i64 1)))], none⟩,
      ⟨none, .store 2 (.t 2) (.t 12), none⟩,
      ⟨some 3, .mv (.k (.int .i64 6)), none⟩])
    (.ret))
    (.skip)))
  (.seq (.reg [⟨some 13, .faddr 1 (.t 1), none⟩,
    ⟨some 14, .load false 1 (.t 13), none⟩,
    ⟨some 15, .len (.t 14), none⟩,
    ⟨some 4, .mv (.t 15), none⟩])
  (.seq (.seq (.reg [⟨some 5, .mv (.k (.int .i64 0)), none⟩])
  (.block 0 (.loop (.seq (.seq (.reg [⟨some 16, .mv (.t 5), none⟩,
      ⟨some 17, .mv (.t 4), none⟩,
      ⟨some 18, .bin .lss (.t 16) (.t 17), none⟩])
    (.cond (.t 18) (.skip)
      (.exit 0)))
    (.seq (.block 1 (.seq (.regD [⟨some 21, .faddr 1 (.t 1), none⟩,
       ⟨some 22, .load false 1 (.t 21), none⟩,
       ⟨some 23, .mv (.t 5), none⟩,
       ⟨some 24, .iaddrS 1 (.t 22) (.t 23), none⟩,
       ⟨some 25, .load false 1 (.t 24), none⟩,
       ⟨some 26, .bin .lss (.t 25) (.k (.int .i64 (-1))), none⟩,
       ⟨some 27, .mv (.t 26), none⟩,
       ⟨some 28, .faddr 1 (.t 1), some (27, false)⟩,
       ⟨some 29, .load false 1 (.t 28), some (27, false)⟩,
       ⟨some 30, .mv (.t 5), some (27, false)⟩,
       ⟨some 31, .iaddrS 1 (.t 29) (.t 30), some (27, false)⟩,
       ⟨some 32, .load false 1 (.t 31), some (27, false)⟩,
       ⟨some 33, .faddr 4 (.t 1), some (27, false)⟩,
       ⟨some 34, .load false 1 (.t 33), some (27, false)⟩,
       ⟨some 35, .len (.t 34), some (27, false)⟩,
       ⟨some 36, .bin .geq (.t 32) (.t 35), some (27, false)⟩,
       ⟨some 37, .pick (.t 27) (.k (.bool true)) (.t 36), none⟩,
       ⟨some 38, .mv (.t 37), none⟩,
       ⟨some 39, .faddr 2 (.t 1), some (38, false)⟩,
       ⟨some 40, .load false 1 (.t 39), some (38, false)⟩,
       ⟨some 41, .mv (.t 5), some (38, false)⟩,
       ⟨some 42, .iaddrS 1 (.t 40) (.t 41), some (38, false)⟩,
       ⟨some 43, .load false 1 (.t 42), some (38, false)⟩,
       ⟨some 44, .bin .lss (.t 43) (.k (.int .i64 (-1))), some (38, false)⟩,
       ⟨some 45, .pick (.t 38) (.k (.bool true)) (.t 44), none⟩,
       ⟨some 46, .mv (.t 45), none⟩,
       ⟨some 47, .faddr 2 (.t 1), some (46, false)⟩,
       ⟨some 48, .load false 1 (.t 47), some (46, false)⟩,
       ⟨some 49, .mv (.t 5), some (46, false)⟩,
       ⟨some 50, .iaddrS 1 (.t 48) (.t 49), some (46, false)⟩,
       ⟨some 51, .load false 1 (.t 50), some (46, false)⟩,
       ⟨some 52, .mv (.t 4), some (46, false)⟩,
       ⟨some 53, .bin .geq (.t 51) (.t 52), some (46, false)⟩,
       ⟨some 54, .pick (.t 46) (.k (.bool true)) (.t 53), none⟩,
       ⟨some 55, .mv (.t 54), none⟩,
       ⟨some 56, .faddr 3 (.t 1), some (55, false)⟩,
       ⟨some 57, .load false 1 (.t 56), some (55, false)⟩,
       ⟨some 58, .mv (.t 5), some (55, false)⟩,
       ⟨some 59, .iaddrS 1 (.t 57) (.t 58), some (55, false)⟩,
       ⟨some 60, .load false 1 (.t 59), some (55, false)⟩,
       ⟨some 61, .bin .lss (.t 60) (.k (.int .i64 (-1))), some (55, false)⟩,
       ⟨some 62, .pick (.t 55) (.k (.bool true)) (.t 61), none⟩,
       ⟨some 63, .mv (.t 62), none⟩,
       ⟨some 64, .faddr 3 (.t 1), some (63, false)⟩,
       ⟨some 65, .load false 1 (.t 64), some (63, false)⟩,
       ⟨some 66, .mv (.t 5), some (63, false)⟩,
       ⟨some 67, .iaddrS 1 (.t 65) (.t 66), some (63, false)⟩,
       ⟨some 68, .load false 1 (.t 67), some (63, false)⟩,
       ⟨some 69, .mv (.t 4), some (63, false)⟩,
       ⟨some 70, .bin .geq (.t 68) (.t 69), some (63, false)⟩,
       ⟨some 71, .pick (.t 63) (.k (.bool true)) (.t 70), none⟩,
       ⟨some 72, .mv (.t 71), none⟩,
       ⟨some 73, .faddr 1 (.t 1), some (72, false)⟩,
       ⟨some 74, .load false 1 (.t 73), some (72, false)⟩,
       ⟨some 75, .mv (.t 5), some (72, false)⟩,
       ⟨some 76, .iaddrS 1 (.t 74) (.t 75), some (72, false)⟩,
       ⟨some 77, .load false 1 (.t 76), some (72, false)⟩,
       ⟨some 78, .bin .eql (.t 77) (.k (.int .i64 (-1))), some (72, false)⟩,
       ⟨some 79, .mv (.t 78), some (72, false)⟩,
       ⟨some 80, .faddr 2 (.t 1), some (79, true)⟩,
       ⟨some 81, .load false 1 (.t 80), some (79, true)⟩,
       ⟨some 82, .mv (.t 5), some (79, true)⟩,
       ⟨some 83, .iaddrS 1 (.t 81) (.t 82), some (79, true)⟩,
       ⟨some 84, .load false 1 (.t 83), some (79, true)⟩,
       ⟨some 85, .bin .neq (.t 84) (.k (.int .i64 (-1))), some (79, true)⟩,
       ⟨some 86, .mv (.t 85), some (79, true)⟩,
       ⟨some 87, .faddr 3 (.t 1), some (86, false)⟩,
       ⟨some 88, .load false 1 (.t 87), some (86, false)⟩,
       ⟨some 89, .mv (.t 5), some (86, false)⟩,
       ⟨some 90, .iaddrS 1 (.t 88) (.t 89), some (86, false)⟩,
       ⟨some 91, .load false 1 (.t 90), some (86, false)⟩,
       ⟨some 92, .bin .neq (.t 91) (.k (.int .i64 (-1))), some (86, false)⟩,
       ⟨some 93, .pick (.t 86) (.k (.bool true)) (.t 92), some (79, true)⟩,
       ⟨some 94, .pick (.t 79) (.t 93) (.k (.bool false)), some (72, false)⟩,
       ⟨some 95, .pick (.t 72) (.k (.bool true)) (.t 94), none⟩] [[], [0], [], [1, 2], [3], [4], [5], [6], [7, 6], [6], [8, 9, 6], [10, 6], [6], [12, 6], [13, 6], [11, 14, 6], [6, 15], [16, 6], [17], [18, 17], [17], [19, 20, 17], [21, 17], [22, 17], [17, 23], [24, 17], [25], [26, 25], [25], [27, 28, 25], [29, 25], [25], [30, 31, 25], [25, 32], [33, 25], [34], [35, 34], [34], [36, 37, 34], [38, 34], [39, 34], [34, 40], [41, 34], [42], [43, 42], [42], [44, 45, 42], [46, 42], [42], [47, 48, 42], [42, 49], [50, 42], [51], [52, 51], [51], [53, 54, 51], [55, 51], [56, 51], [57, 51, 51], [58], [59, 58], [58], [60, 61, 58], [62, 58], [63, 58], [64, 58, 58], [65], [66, 65], [65], [67, 68, 65], [69, 65], [70, 65], [65, 71, 58], [58, 72, 51], [51, 73]])
     (.cond (.t 95) (.seq (.reg [⟨some 96, .mv (.t 5), none⟩,
         ⟨some 97, .build [(.int .i64 0), (.int .i64 0)] [(0, 1, (.k (.int .i64 2))), (1, 1, (.t 96))], none⟩,
         ⟨none, .store 2 (.t 2) (.t 97), none⟩,
         ⟨some 3, .mv (.k (.int .i64 6)), none⟩])
       (.ret))
       (.skip))))
    (.reg [⟨some 19, .mv (.t 5), none⟩,
      ⟨some 20, .bin .add (.t 19) (.k (.int .i64 1)), none⟩,
      ⟨some 5, .mv (.t 20), none⟩]))))))
  (.seq (.reg [⟨some 98, .mv (.t 4), none⟩,
    ⟨some 99, .mks 1 1 [(.bool false)] (.t 98) (.t 98), none⟩,
    ⟨some 6, .mv (.t 99), none⟩])
  (.seq (.seq (.reg [⟨some 7, .mv (.k (.int .i64 0)), none⟩])
  (.block 2 (.loop (.seq (.seq (.reg [⟨some 100, .mv (.t 7), none⟩,
      ⟨some 101, .faddr 4 (.t 1), none⟩,
      ⟨some 102, .load false 1 (.t 101), none⟩,
      ⟨some 103, .len (.t 102), none⟩,
      ⟨some 104, .bin .lss (.t 100) (.t 103), none⟩])
    (.cond (.t 104) (.skip)
      (.exit 2)))
    (.seq (.block 3 (.seq (.reg [⟨some 107, .load true 6 (.t 1), none⟩,
       ⟨some 108, .mv (.t 7), none⟩,
       ⟨some 109, .mv (.t 6), none⟩,
       ⟨some 110, .call (.k (.fn 62 [] [])) [(.t 107), (.t 108), (.t 109)], none⟩,
       ⟨some 111, .un .not (.t 110), none⟩])
     (.cond (.t 111) (.seq (.reg [⟨some 112, .mv (.t 7), none⟩,
         ⟨some 113, .build [(.int .i64 0), (.int .i64 0)] [(0, 1, (.k (.int .i64 3))), (1, 1, (.t 112))], none⟩,
         ⟨none, .store 2 (.t 2) (.t 113), none⟩,
         ⟨some 3, .mv (.k (.int .i64 6)), none⟩])
       (.ret))
       (.skip))))
    (.reg [⟨some 105, .mv (.t 7), none⟩,
      ⟨some 106, .bin .add (.t 105) (.k (.int .i64 1)), none⟩,
      ⟨some 7, .mv (.t 106), none⟩]))))))
  (.seq (.seq (.reg [⟨some 8, .mv (.k (.int .i64 0)), none⟩])
  (.block 4 (.loop (.seq (.seq (.reg [⟨some 114, .mv (.t 8), none⟩,
      ⟨some 115, .mv (.t 4), none⟩,
      ⟨some 116, .bin .lss (.t 114) (.t 115), none⟩])
    (.cond (.t 116) (.skip)
      (.exit 4)))
    (.seq (.block 5 (.seq (.reg [⟨some 119, .faddr 1 (.t 1), none⟩,
       ⟨some 120, .load false 1 (.t 119), none⟩,
       ⟨some 121, .mv (.t 8), none⟩,
       ⟨some 122, .iaddrS 1 (.t 120) (.t 121), none⟩,
       ⟨some 123, .load false 1 (.t 122), none⟩,
       ⟨some 124, .bin .neq (.t 123) (.k (.int .i64 (-1))), none⟩,
       ⟨some 125, .mv (.t 124), none⟩,
       ⟨some 126, .mv (.t 6), some (125, true)⟩,
       ⟨some 127, .mv (.t 8), some (125, true)⟩,
       ⟨some 128, .iaddrS 1 (.t 126) (.t 127), some (125, true)⟩,
       ⟨some 129, .load false 1 (.t 128), some (125, true)⟩,
       ⟨some 130, .un .not (.t 129), some (125, true)⟩,
       ⟨some 131, .pick (.t 125) (.t 130) (.k (.bool false)), none⟩])
     (.cond (.t 131) (.seq (.reg [⟨some 132, .mv (.t 8), none⟩,
         ⟨some 133, .build [(.int .i64 0), (.int .i64 0)] [(0, 1, (.k (.int .i64 2))), (1, 1, (.t 132))], none⟩,
         ⟨none, .store 2 (.t 2) (.t 133), none⟩,
         ⟨some 3, .mv (.k (.int .i64 6)), none⟩])
       (.ret))
       (.skip))))
    (.reg [⟨some 117, .mv (.t 8), none⟩,
      ⟨some 118, .bin .add (.t 117) (.k (.int .i64 1)), none⟩,
      ⟨some 8, .mv (.t 118), none⟩]))))))
  (.seq (.reg [⟨some 134, .build [(.int .i64 0), (.int .i64 0)] [], none⟩,
    ⟨none, .store 2 (.t 2) (.t 134), none⟩,
    ⟨some 3, .mv (.k (.int .i64 0)), none⟩])
  (.ret))))))))
theorem b20 : Body Try.prog 20 c20 [.cell 2 true 2, .tmp 3] 135 := ⟨by kernel_rfl, _, _, Try.func20, rfl, by kernel_rfl, by kernel_rfl, rfl⟩
def c21 : ACode :=
  .seq (.reg [⟨some 1, .box (.t 0), none⟩,
    ⟨some 2, .mv (.k .nilp), none⟩,
    ⟨some 3, .mv (.k (.int .i64 0)), none⟩])
  (.seq (.seq (.reg [⟨some 10, .load true 6 (.t 1), none⟩,
    ⟨some 11, .call (.k (.fn 19 [] [])) [(.t 10)], none⟩,
    ⟨some 9, .mv (.t 11), none⟩,
    ⟨some 12, .ext (.t 9) 0, none⟩,
    ⟨some 13, .ext (.t 9) 1, none⟩,
    ⟨some 4, .new [(.int .i64 0), (.int .i64 0)], none⟩,
    ⟨none, .store 2 (.t 4) (.t 12), none⟩,
    ⟨some 5, .mv (.t 13), none⟩])
  (.seq (.reg [⟨some 14, .mv (.t 5), none⟩,
    ⟨some 15, .bin .neq (.t 14) (.k (.int .i64 0)), none⟩])
  (.cond (.t 15) (.seq (.reg [⟨some 16, .mv (.t 5), none⟩,
      ⟨some 2, .mv (.k .nilp), none⟩,
      ⟨some 3, .mv (.t 16), none⟩])
    (.ret))
    (.skip))))
  (.seq (.reg [⟨some 17, .faddr 1 (.t 1), none⟩,
    ⟨some 18, .load false 1 (.t 17), none⟩,
    ⟨some 19, .len (.t 18), none⟩,
    ⟨some 20, .faddr 4 (.t 1), none⟩,
    ⟨some 21, .load false 1 (.t 20), none⟩,
    ⟨some 22, .len (.t 21), none⟩,
    ⟨some 23, .call (.k (.fn 63 [] [])) [(.t 19), (.t 22)], none⟩,
    ⟨some 6, .mv (.t 23), none⟩])
  (.seq (.seq (.reg [⟨some 24, .faddr 4 (.t 1), none⟩,
    ⟨some 25, .load false 1 (.t 24), none⟩,
    ⟨some 26, .len (.t 25), none⟩,
    ⟨some 27, .mv (.k (.int .i64 0)), none⟩])
  (.block 0 (.loop (.seq (.reg [⟨some 28, .bin .lss (.t 27) (.t 26), none⟩])
    (.seq (.cond (.t 28) (.skip)
      (.exit 0))
    (.seq (.block 1 (.seq (.reg [⟨some 29, .mv (.t 27), none⟩,
       ⟨some 7, .mv (.t 29), none⟩])
     (.seq (.reg [⟨some 30, .faddr 4 (.t 1), none⟩,
       ⟨some 31, .load false 1 (.t 30), none⟩,
       ⟨some 32, .mv (.t 7), none⟩,
       ⟨some 33, .iaddrS 1 (.t 31) (.t 32), none⟩,
       ⟨some 34, .load false 1 (.t 33), none⟩,
       ⟨some 8, .mv (.t 34), none⟩])
     (.block 2 (.loop (.seq (.seq (.reg [⟨some 35, .mv (.t 8), none⟩,
         ⟨some 36, .bin .neq (.t 35) (.k (.int .i64 (-1))), none⟩])
       (.cond (.t 36) (.skip)
         (.exit 2)))
       (.seq (.block 3 (.seq (.regD [⟨some 42, .mv (.t 6), none⟩,
          ⟨some 43, .nchk (.t 42), none⟩,
          ⟨some 44, .faddr 0 (.t 43), none⟩,
          ⟨some 45, .load false 1 (.t 44), none⟩,
          ⟨some 46, .mv (.t 8), none⟩,
          ⟨some 47, .faddr 0 (.t 1), none⟩,
          ⟨some 48, .load false 1 (.t 47), none⟩,
          ⟨some 49, .mv (.t 8), none⟩,
          ⟨some 50, .iaddrS 1 (.t 48) (.t 49), none⟩,
          ⟨some 51, .load false 1 (.t 50), none⟩,
          ⟨some 52, .iaddrS 4 (.t 45) (.t 46), none⟩,
          ⟨some 53, .faddr 0 (.t 52), none⟩,
          ⟨none, .store 1 (.t 53) (.t 51), none⟩] [[], [0], [1], [2], [], [], [5], [], [6, 7], [8], [3, 4, 0, 1, 2, 3, 4, 5, 6, 7, 8, 9], [10, 0, 1, 2, 3, 4, 5, 6, 7, 8, 9], [11, 9, 0, 1, 2, 3, 4, 5, 6, 7, 8, 9]])
        (.reg [⟨some 54, .mv (.t 6), none⟩,
          ⟨some 55, .mv (.t 8), none⟩,
          ⟨some 56, .mv (.t 7), none⟩,
          ⟨some 57, .call (.k (.fn 57 [] [])) [(.t 54), (.t 55), (.t 56), (.k (.bool false))], none⟩])))
       (.reg [⟨some 37, .faddr 2 (.t 1), none⟩,
         ⟨some 38, .load false 1 (.t 37), none⟩,
         ⟨some 39, .mv (.t 8), none⟩,
         ⟨some 40, .iaddrS 1 (.t 38) (.t 39), none⟩,
         ⟨some 41, .load false 1 (.t 40), none⟩,
         ⟨some 8, .mv (.t 41), none⟩]))))))))
    (.reg [⟨some 58, .bin .add (.t 27) (.k (.int .i64 1)), none⟩,
      ⟨some 27, .mv (.t 58), none⟩])))))))
  (.seq (.reg [⟨some 59, .mv (.t 6), none⟩,
    ⟨some 2, .mv (.t 59), none⟩,
    ⟨some 3, .mv (.k (.int .i64 0)), none⟩])
  (.ret)))))
theorem b21 : Body Try.prog 21 c21 [.tmp 2, .tmp 3] 60 := ⟨by kernel_rfl, _, _, Try.func21, rfl, by kernel_rfl, by kernel_rfl, rfl⟩
def c22 : ACode :=
  .seq (.reg [⟨some 1, .box (.t 0), none⟩,
    ⟨some 2, .new [(.int .i64 0), .nils, .nils], none⟩,
    ⟨some 3, .mv (.k (.int .i64 0)), none⟩])
  (.seq (.reg [⟨some 11, .load true 6 (.t 1), none⟩,
    ⟨some 12, .call (.k (.fn 20 [] [])) [(.t 11)], none⟩,
    ⟨some 10, .mv (.t 12), none⟩,
    ⟨some 13, .ext (.t 10) 0, none⟩,
    ⟨some 14, .ext (.t 10) 1, none⟩,
    ⟨some 4, .new [(.int .i64 0), (.int .i64 0)], none⟩,
    ⟨none, .store 2 (.t 4) (.t 13), none⟩,
    ⟨some 5, .mv (.t 14), none⟩])
  (.seq (.seq (.reg [⟨some 15, .mv (.t 5), none⟩,
    ⟨some 16, .bin .neq (.t 15) (.k (.int .i64 0)), none⟩])
  (.cond (.t 16) (.seq (.reg [⟨some 17, .build [(.int .i64 0), .nils, .nils] [], none⟩,
      ⟨some 18, .mv (.t 5), none⟩,
      ⟨none, .store 3 (.t 2) (.t 17), none⟩,
      ⟨some 3, .mv (.t 18), none⟩])
    (.ret))
    (.skip)))
  (.seq (.reg [⟨some 20, .faddr 1 (.t 1), none⟩,
    ⟨some 21, .load false 1 (.t 20), none⟩,
    ⟨some 22, .len (.t 21), none⟩,
    ⟨some 23, .faddr 4 (.t 1), none⟩,
    ⟨some 24, .load false 1 (.t 23), none⟩,
    ⟨some 25, .len (.t 24), none⟩,
    ⟨some 26, .call (.k (.fn 43 [] [])) [(.t 22), (.t 25)], none⟩,
    ⟨some 19, .mv (.t 26), none⟩,
    ⟨some 27, .ext (.t 19) 0, none⟩,
    ⟨some 28, .ext (.t 19) 1, none⟩,
    ⟨some 6, .new [(.int .i64 0), .nils, .nils], none⟩,
    ⟨none, .store 3 (.t 6) (.t 27), none⟩,
    ⟨some 7, .mv (.t 28), none⟩])
  (.seq (.seq (.reg [⟨some 8, .mv (.k (.int .i64 0)), none⟩])
  (.block 0 (.loop (.seq (.seq (.reg [⟨some 29, .mv (.t 8), none⟩,
      ⟨some 30, .faddr 4 (.t 1), none⟩,
      ⟨some 31, .load false 1 (.t 30), none⟩,
      ⟨some 32, .len (.t 31), none⟩,
      ⟨some 33, .bin .lss (.t 29) (.t 32), none⟩])
    (.cond (.t 33) (.skip)
      (.exit 0)))
    (.seq (.block 1 (.seq (.reg [⟨some 36, .faddr 4 (.t 1), none⟩,
       ⟨some 37, .load false 1 (.t 36), none⟩,
       ⟨some 38, .mv (.t 8), none⟩,
       ⟨some 39, .iaddrS 1 (.t 37) (.t 38), none⟩,
       ⟨some 40, .load false 1 (.t 39), none⟩,
       ⟨some 9, .mv (.t 40), none⟩])
     (.block 2 (.loop (.seq (.seq (.reg [⟨some 41, .mv (.t 9), none⟩,
         ⟨some 42, .bin .neq (.t 41) (.k (.int .i64 (-1))), none⟩])
       (.cond (.t 42) (.skip)
         (.exit 2)))
       (.seq (.block 3 (.seq (.regD [⟨some 48, .faddr 1 (.t 6), none⟩,
          ⟨some 49, .load false 1 (.t 48), none⟩,
          ⟨some 50, .mv (.t 8), none⟩,
          ⟨some 51, .faddr 1 (.t 6), none⟩,
          ⟨some 52, .load false 1 (.t 51), none⟩,
          ⟨some 53, .mv (.t 8), none⟩,
          ⟨some 54, .iaddrS 1 (.t 52) (.t 53), none⟩,
          ⟨some 55, .load false 1 (.t 54), none⟩,
          ⟨some 56, .mv (.t 9), none⟩,
          ⟨some 57, .bslice 1 1 [(.int .i64 0)] [(0, 1, (.t 56))], none⟩,
          ⟨some 58, .append 1 8 (.t 55) (.t 57), none⟩,
          ⟨some 59, .iaddrS 1 (.t 49) (.t 50), none⟩,
          ⟨none, .store 1 (.t 59) (.t 58), none⟩] [[], [0], [], [], [3], [], [4, 5], [6], [], [8], [7, 9], [1, 2, 0, 1, 2, 3, 4, 5, 6, 7, 8, 9, 10], [11, 10, 10, 0, 1, 2, 3, 4, 5, 6, 7, 8, 9, 10]])
        (.regD [⟨some 60, .faddr 2 (.t 6), none⟩,
          ⟨some 61, .load false 1 (.t 60), none⟩,
          ⟨some 62, .mv (.t 9), none⟩,
          ⟨some 63, .faddr 0 (.t 1), none⟩,
          ⟨some 64, .load false 1 (.t 63), none⟩,
          ⟨some 65, .mv (.t 9), none⟩,
          ⟨some 66, .iaddrS 1 (.t 64) (.t 65), none⟩,
          ⟨some 67, .load false 1 (.t 66), none⟩,
          ⟨some 68, .iaddrS 1 (.t 61) (.t 62), none⟩,
          ⟨none, .store 1 (.t 68) (.t 67), none⟩] [[], [0], [], [], [3], [], [4, 5], [6], [1, 2, 0, 1, 2, 3, 4, 5, 6, 7], [8, 7, 0, 1, 2, 3, 4, 5, 6, 7]])))
       (.reg [⟨some 43, .faddr 2 (.t 1), none⟩,
         ⟨some 44, .load false 1 (.t 43), none⟩,
         ⟨some 45, .mv (.t 9), none⟩,
         ⟨some 46, .iaddrS 1 (.t 44) (.t 45), none⟩,
         ⟨some 47, .load false 1 (.t 46), none⟩,
         ⟨some 9, .mv (.t 47), none⟩])))))))
    (.reg [⟨some 34, .mv (.t 8), none⟩,
      ⟨some 35, .bin .add (.t 34) (.k (.int .i64 1)), none⟩,
      ⟨some 8, .mv (.t 35), none⟩]))))))
  (.seq (.reg [⟨some 69, .load true 3 (.t 6), none⟩,
    ⟨none, .store 3 (.t 2) (.t 69), none⟩,
    ⟨some 3, .mv (.k (.int .i64 0)), none⟩])
  (.ret))))))
theorem b22 : Body Try.prog 22 c22 [.cell 2 true 3, .tmp 3] 70 := ⟨by kernel_rfl, _, _, Try.func22, rfl, by kernel_rfl, by kernel_rfl, rfl⟩
def c23 : ACode :=
  .seq (.reg [⟨some 2, .box (.t 0), none⟩,
    ⟨some 3, .box (.t 1), none⟩,
    ⟨some 4, .mv (.k (.bool false)), none⟩])
  (.seq (.reg [⟨some 5, .faddr 0 (.t 2), none⟩,
    ⟨some 6, .load false 1 (.t 5), none⟩,
    ⟨some 7, .faddr 0 (.t 3), none⟩,
    ⟨some 8, .load false 1 (.t 7), none⟩,
    ⟨some 9, .call (.k (.fn 11 [] [])) [(.t 6), (.t 8)], none⟩,
    ⟨some 10, .mv (.t 9), none⟩,
    ⟨some 11, .faddr 1 (.t 2), some (10, true)⟩,
    ⟨some 12, .load false 1 (.t 11), some (10, true)⟩,
    ⟨some 13, .faddr 1 (.t 3), some (10, true)⟩,
    ⟨some 14, .load false 1 (.t 13), some (10, true)⟩,
    ⟨some 15, .call (.k (.fn 11 [] [])) [(.t 12), (.t 14)], some (10, true)⟩,
    ⟨some 16, .pick (.t 10) (.t 15) (.k (.bool false)), none⟩,
    ⟨some 17, .mv (.t 16), none⟩,
    ⟨some 18, .faddr 2 (.t 2), some (17, true)⟩,
    ⟨some 19, .load false 1 (.t 18), some (17, true)⟩,
    ⟨some 20, .faddr 2 (.t 3), some (17, true)⟩,
    ⟨some 21, .load false 1 (.t 20), some (17, true)⟩,
    ⟨some 22, .call (.k (.fn 11 [] [])) [(.t 19), (.t 21)], some (17, true)⟩,
    ⟨some 23, .pick (.t 17) (.t 22) (.k (.bool false)), none⟩,
    ⟨some 24, .mv (.t 23), none⟩,
    ⟨some 25, .faddr 3 (.t 2), some (24, true)⟩,
    ⟨some 26, .load false 1 (.t 25), some (24, true)⟩,
    ⟨some 27, .faddr 3 (.t 3), some (24, true)⟩,
    ⟨some 28, .load false 1 (.t 27), some (24, true)⟩,
    ⟨some 29, .call (.k (.fn 11 [] [])) [(.t 26), (.t 28)], some (24, true)⟩,
    ⟨some 30, .pick (.t 24) (.t 29) (.k (.bool false)), none⟩,
    ⟨some 31, .mv (.t 30), none⟩,
    ⟨some 32, .faddr 4 (.t 2), some (31, true)⟩,
    ⟨some 33, .load false 1 (.t 32), some (31, true)⟩,
    ⟨some 34, .faddr 4 (.t 3), some (31, true)⟩,
    ⟨some 35, .load false 1 (.t 34), some (31, true)⟩,
    ⟨some 36, .call (.k (.fn 11 [] [])) [(.t 33), (.t 35)], some (31, true)⟩,
    ⟨some 37, .pick (.t 31) (.t 36) (.k (.bool false)), none⟩,
    ⟨some 38, .mv (.t 37), none⟩,
    ⟨some 39, .faddr 5 (.t 2), some (38, true)⟩,
    ⟨some 40, .load false 1 (.t 39), some (38, true)⟩,
    ⟨some 41, .faddr 5 (.t 3), some (38, true)⟩,
    ⟨some 42, .load false 1 (.t 41), some (38, true)⟩,
    ⟨some 43, .call (.k (.fn 11 [] [])) [(.t 40), (.t 42)], some (38, true)⟩,
    ⟨some 44, .pick (.t 38) (.t 43) (.k (.bool false)), none⟩,
    ⟨some 4, .mv (.t 44), none⟩])
  (.ret))
theorem b23 : Body Try.prog 23 c23 [.tmp 4] 45 := ⟨by kernel_rfl, _, _, Try.func23, rfl, by kernel_rfl, by kernel_rfl, rfl⟩
def c24 : ACode :=
  .seq (.reg [⟨some 2, .new [.nils, .nils, .nils, .nils, .nils, .nils], none⟩])
  (.seq (.reg [⟨some 3, .new [.nils, .nils, .nils, .nils, .nils, .nils], none⟩])
  (.seq (.seq (.reg [⟨some 8, .mv (.t 0), none⟩,
    ⟨some 9, .call (.k (.fn 64 [] [])) [(.t 8)], none⟩,
    ⟨some 10, .un .not (.t 9), none⟩])
  (.cond (.t 10) (.seq (.reg [⟨some 11, .load true 6 (.t 3), none⟩,
      ⟨none, .store 6 (.t 2) (.t 11), none⟩])
    (.ret))
    (.skip)))
  (.seq (.seq (.reg [⟨some 12, .mv (.t 0), none⟩,
    ⟨some 13, .nchk (.t 12), none⟩,
    ⟨some 14, .faddr 0 (.t 13), none⟩,
    ⟨some 15, .load false 1 (.t 14), none⟩,
    ⟨some 16, .len (.t 15), none⟩,
    ⟨some 17, .mv (.k (.int .i64 0)), none⟩])
  (.block 0 (.loop (.seq (.reg [⟨some 18, .bin .lss (.t 17) (.t 16), none⟩])
    (.seq (.cond (.t 18) (.skip)
      (.exit 0))
    (.seq (.block 1 (.seq (.reg [⟨some 19, .iaddrS 4 (.t 15) (.t 17), none⟩,
       ⟨some 20, .load true 4 (.t 19), none⟩,
       ⟨some 5, .new [(.int .i64 0), (.int .i64 0), (.int .i64 0), (.int .i64 0)], none⟩,
       ⟨none, .store 4 (.t 5) (.t 20), none⟩])
     (.seq (.regD [⟨some 21, .faddr 0 (.t 3), none⟩,
       ⟨some 22, .load false 1 (.t 21), none⟩,
       ⟨some 23, .faddr 0 (.t 5), none⟩,
       ⟨some 24, .load false 1 (.t 23), none⟩,
       ⟨some 25, .bslice 1 1 [(.int .i64 0)] [(0, 1, (.t 24))], none⟩,
       ⟨some 26, .append 1 8 (.t 22) (.t 25), none⟩,
       ⟨some 27, .faddr 1 (.t 3), none⟩,
       ⟨some 28, .load false 1 (.t 27), none⟩,
       ⟨some 29, .faddr 1 (.t 5), none⟩,
       ⟨some 30, .load false 1 (.t 29), none⟩,
       ⟨some 31, .bslice 1 1 [(.int .i64 0)] [(0, 1, (.t 30))], none⟩,
       ⟨some 32, .append 1 8 (.t 28) (.t 31), none⟩,
       ⟨some 33, .faddr 0 (.t 3), none⟩,
       ⟨none, .store 1 (.t 33) (.t 26), none⟩,
       ⟨some 34, .faddr 1 (.t 3), none⟩,
       ⟨none, .store 1 (.t 34) (.t 32), none⟩] [[], [0], [], [2], [3], [1, 4], [], [6], [], [8], [9], [7, 10, 5], [0, 1, 2, 3, 4, 5, 6, 7], [12, 5, 11, 0, 1, 2, 3, 4, 5, 6, 7], [0, 1, 2, 3, 4, 5, 6, 7, 8, 9, 10, 11, 12, 13], [14, 11, 13, 0, 1, 2, 3, 4, 5, 6, 7, 8, 9, 10, 11, 12, 13]])
     (.regD [⟨some 35, .faddr 2 (.t 3), none⟩,
       ⟨some 36, .load false 1 (.t 35), none⟩,
       ⟨some 37, .faddr 2 (.t 5), none⟩,
       ⟨some 38, .load false 1 (.t 37), none⟩,
       ⟨some 39, .bslice 1 1 [(.int .i64 0)] [(0, 1, (.t 38))], none⟩,
       ⟨some 40, .append 1 8 (.t 36) (.t 39), none⟩,
       ⟨some 41, .faddr 3 (.t 3), none⟩,
       ⟨some 42, .load false 1 (.t 41), none⟩,
       ⟨some 43, .faddr 3 (.t 5), none⟩,
       ⟨some 44, .load false 1 (.t 43), none⟩,
       ⟨some 45, .bslice 1 1 [(.int .i64 0)] [(0, 1, (.t 44))], none⟩,
       ⟨some 46, .append 1 8 (.t 42) (.t 45), none⟩,
       ⟨some 47, .faddr 2 (.t 3), none⟩,
       ⟨none, .store 1 (.t 47) (.t 40), none⟩,
       ⟨some 48, .faddr 3 (.t 3), none⟩,
       ⟨none, .store 1 (.t 48) (.t 46), none⟩] [[], [0], [], [2], [3], [1, 4], [], [6], [], [8], [9], [7, 10, 5], [0, 1, 2, 3, 4, 5, 6, 7], [12, 5, 11, 0, 1, 2, 3, 4, 5, 6, 7], [0, 1, 2, 3, 4, 5, 6, 7, 8, 9, 10, 11, 12, 13], [14, 11, 13, 0, 1, 2, 3, 4, 5, 6, 7, 8, 9, 10, 11, 12, 13]]))))
    (.reg [⟨some 49, .bin .add (.t 17) (.k (.int .i64 1)), none⟩,
      ⟨some 17, .mv (.t 49), none⟩])))))))
  (.seq (.seq (.reg [⟨some 50, .mv (.t 0), none⟩,
    ⟨some 51, .nchk (.t 50), none⟩,
    ⟨some 52, .faddr 1 (.t 51), none⟩,
    ⟨some 53, .load false 1 (.t 52), none⟩,
    ⟨some 54, .len (.t 53), none⟩,
    ⟨some 55, .mv (.k (.int .i64 0)), none⟩])
  (.block 2 (.loop (.seq (.reg [⟨some 56, .bin .lss (.t 55) (.t 54), none⟩])
    (.seq (.cond (.t 56) (.skip)
      (.exit 2))
    (.seq (.block 3 (.seq (.reg [⟨some 57, .iaddrS 3 (.t 53) (.t 55), none⟩,
       ⟨some 58, .load true 3 (.t 57), none⟩,
       ⟨some 7, .new [(.int .i64 0), (.int .i64 0), (.int .i64 0)], none⟩,
       ⟨none, .store 3 (.t 7) (.t 58), none⟩])
     (.regD [⟨some 59, .faddr 4 (.t 3), none⟩,
       ⟨some 60, .load false 1 (.t 59), none⟩,
       ⟨some 61, .faddr 0 (.t 7), none⟩,
       ⟨some 62, .load false 1 (.t 61), none⟩,
       ⟨some 63, .bslice 1 1 [(.int .i64 0)] [(0, 1, (.t 62))], none⟩,
       ⟨some 64, .append 1 8 (.t 60) (.t 63), none⟩,
       ⟨some 65, .faddr 5 (.t 3), none⟩,
       ⟨some 66, .load false 1 (.t 65), none⟩,
       ⟨some 67, .faddr 1 (.t 7), none⟩,
       ⟨some 68, .load false 1 (.t 67), none⟩,
       ⟨some 69, .bslice 1 1 [(.int .i64 0)] [(0, 1, (.t 68))], none⟩,
       ⟨some 70, .append 1 8 (.t 66) (.t 69), none⟩,
       ⟨some 71, .faddr 4 (.t 3), none⟩,
       ⟨none, .store 1 (.t 71) (.t 64), none⟩,
       ⟨some 72, .faddr 5 (.t 3), none⟩,
       ⟨none, .store 1 (.t 72) (.t 70), none⟩] [[], [0], [], [2], [3], [1, 4], [], [6], [], [8], [9], [7, 10, 5], [0, 1, 2, 3, 4, 5, 6, 7], [12, 5, 11, 0, 1, 2, 3, 4, 5, 6, 7], [0, 1, 2, 3, 4, 5, 6, 7, 8, 9, 10, 11, 12, 13], [14, 11, 13, 0, 1, 2, 3, 4, 5, 6, 7, 8, 9, 10, 11, 12, 13]])))
    (.reg [⟨some 73, .bin .add (.t 55) (.k (.int .i64 1)), none⟩,
      ⟨some 55, .mv (.t 73), none⟩])))))))
  (.seq (.reg [⟨some 74, .load true 6 (.t 3), none⟩,
    ⟨none, .store 6 (.t 2) (.t 74), none⟩])
  (.ret))))))
theorem b24 : Body Try.prog 24 c24 [.cell 2 true 6] 75 := ⟨by kernel_rfl, _, _, Try.func24, rfl, by kernel_rfl, by kernel_rfl, rfl⟩
def c25 : ACode :=
  .seq (.reg [⟨some 2, .new [.nils, .nils, .nils, .nils, .nils, .nils], none⟩])
  (.seq (.reg [⟨some 3, .new [.nils, .nils, .nils, .nils, .nils, .nils], none⟩])
  (.seq (.seq (.reg [⟨some 4, .mv (.k (.int .i64 0)), none⟩])
  (.block 0 (.loop (.seq (.seq (.reg [⟨some 8, .mv (.t 4), none⟩,
      ⟨some 9, .mv (.t 0), none⟩,
      ⟨some 10, .nchk (.t 9), none⟩,
      ⟨some 11, .faddr 0 (.t 10), none⟩,
      ⟨some 12, .load false 1 (.t 11), none⟩,
      ⟨some 13, .bin .lss (.t 8) (.t 12), none⟩])
    (.cond (.t 13) (.skip)
      (.exit 0)))
    (.seq (.block 1 (.seq (.regD [⟨some 16, .faddr 0 (.t 3), none⟩,
       ⟨some 17, .load false 1 (.t 16), none⟩,
       ⟨some 18, .mv (.t 0), none⟩,
       ⟨some 19, .nchk (.t 18), none⟩,
       ⟨some 20, .faddr 2 (.t 19), none⟩,
       ⟨some 21, .load false 1 (.t 20), none⟩,
       ⟨some 22, .mv (.t 4), none⟩,
       ⟨some 23, .iaddrS 1 (.t 21) (.t 22), none⟩,
       ⟨some 24, .load false 1 (.t 23), none⟩,
       ⟨some 25, .bslice 1 1 [(.int .i64 0)] [(0, 1, (.t 24))], none⟩,
       ⟨some 26, .append 1 8 (.t 17) (.t 25), none⟩,
       ⟨some 27, .faddr 0 (.t 3), none⟩,
       ⟨none, .store 1 (.t 27) (.t 26), none⟩] [[], [0], [], [2], [3], [4], [], [5, 6], [7], [8], [1, 9], [0, 1, 2, 3, 4, 5, 6, 7, 8, 9, 10], [11, 10, 10, 0, 1, 2, 3, 4, 5, 6, 7, 8, 9, 10]])
     (.regD [⟨some 28, .faddr 1 (.t 3), none⟩,
       ⟨some 29, .load false 1 (.t 28), none⟩,
       ⟨some 30, .bslice 1 1 [(.int .i64 0)] [(0, 1, (.k (.int .i64 (-1))))], none⟩,
       ⟨some 31, .append 1 8 (.t 29) (.t 30), none⟩,
       ⟨some 32, .faddr 2 (.t 3), none⟩,
       ⟨some 33, .load false 1 (.t 32), none⟩,
       ⟨some 34, .bslice 1 1 [(.int .i64 0)] [(0, 1, (.k (.int .i64 (-1))))], none⟩,
       ⟨some 35, .append 1 8 (.t 33) (.t 34), none⟩,
       ⟨some 36, .faddr 3 (.t 3), none⟩,
       ⟨some 37, .load false 1 (.t 36), none⟩,
       ⟨some 38, .bslice 1 1 [(.int .i64 0)] [(0, 1, (.k (.int .i64 (-1))))], none⟩,
       ⟨some 39, .append 1 8 (.t 37) (.t 38), none⟩,
       ⟨some 40, .faddr 1 (.t 3), none⟩,
       ⟨none, .store 1 (.t 40) (.t 31), none⟩,
       ⟨some 41, .faddr 2 (.t 3), none⟩,
       ⟨none, .store 1 (.t 41) (.t 35), none⟩,
       ⟨some 42, .faddr 3 (.t 3), none⟩,
       ⟨none, .store 1 (.t 42) (.t 39), none⟩] [[], [0], [], [1, 2], [], [4], [], [5, 6, 3], [], [8], [], [9, 10, 7], [0, 1, 2, 3, 4, 5, 8, 9], [12, 3, 11, 0, 1, 2, 3, 4, 5, 8, 9], [0, 1, 2, 3, 4, 5, 6, 7, 8, 9, 12, 13], [14, 7, 13, 0, 1, 2, 3, 4, 5, 6, 7, 8, 9, 12, 13], [0, 1, 2, 3, 4, 5, 6, 7, 8, 9, 10, 11, 12, 13, 14, 15], [16, 11, 15, 0, 1, 2, 3, 4, 5, 6, 7, 8, 9, 10, 11, 12, 13, 14, 15]])))
    (.reg [⟨some 14, .mv (.t 4), none⟩,
      ⟨some 15, .bin .add (.t 14) (.k (.int .i64 1)), none⟩,
      ⟨some 4, .mv (.t 15), none⟩]))))))
  (.seq (.seq (.reg [⟨some 5, .mv (.k (.int .i64 0)), none⟩])
  (.block 2 (.loop (.seq (.seq (.reg [⟨some 43, .mv (.t 5), none⟩,
      ⟨some 44, .mv (.t 0), none⟩,
      ⟨some 45, .nchk (.t 44), none⟩,
      ⟨some 46, .faddr 1 (.t 45), none⟩,
      ⟨some 47, .load false 1 (.t 46), none⟩,
      ⟨some 48, .len (.t 47), none⟩,
      ⟨some 49, .bin .lss (.t 43) (.t 48), none⟩])
    (.cond (.t 49) (.skip)
      (.exit 2)))
    (.seq (.block 3 (.seq (.regD [⟨some 52, .faddr 4 (.t 3), none⟩,
       ⟨some 53, .load false 1 (.t 52), none⟩,
       ⟨some 54, .bslice 1 1 [(.int .i64 0)] [(0, 1, (.k (.int .i64 (-1))))], none⟩,
       ⟨some 55, .append 1 8 (.t 53) (.t 54), none⟩,
       ⟨some 56, .faddr 5 (.t 3), none⟩,
       ⟨some 57, .load false 1 (.t 56), none⟩,
       ⟨some 58, .bslice 1 1 [(.int .i64 0)] [(0, 1, (.k (.int .i64 (-1))))], none⟩,
       ⟨some 59, .append 1 8 (.t 57) (.t 58), none⟩,
       ⟨some 60, .faddr 4 (.t 3), none⟩,
       ⟨none, .store 1 (.t 60) (.t 55), none⟩,
       ⟨some 61, .faddr 5 (.t 3), none⟩,
       ⟨none, .store 1 (.t 61) (.t 59), none⟩] [[], [0], [], [1, 2], [], [4], [], [5, 6, 3], [0, 1, 2, 3, 4, 5], [8, 3, 7, 0, 1, 2, 3, 4, 5], [0, 1, 2, 3, 4, 5, 6, 7, 8, 9], [10, 7, 9, 0, 1, 2, 3, 4, 5, 6, 7, 8, 9]])
     (.seq (.reg [⟨some 6, .mv (.k (.int .i64 0)), none⟩])
     (.block 4 (.loop (.seq (.seq (.reg [⟨some 62, .mv (.t 6), none⟩,
         ⟨some 63, .mv (.t 0), none⟩,
         ⟨some 64, .nchk (.t 63), none⟩,
         ⟨some 65, .faddr 1 (.t 64), none⟩,
         ⟨some 66, .load false 1 (.t 65), none⟩,
         ⟨some 67, .mv (.t 5), none⟩,
         ⟨some 68, .iaddrS 1 (.t 66) (.t 67), none⟩,
         ⟨some 69, .load false 1 (.t 68), none⟩,
         ⟨some 70, .len (.t 69), none⟩,
         ⟨some 71, .bin .lss (.t 62) (.t 70), none⟩])
       (.cond (.t 71) (.skip)
         (.exit 4)))
       (.seq (.block 5 (.seq (.reg [⟨some 74, .mv (.t 0), none⟩,
          ⟨some 75, .nchk (.t 74), none⟩,
          ⟨some 76, .faddr 1 (.t 75), none⟩,
          ⟨some 77, .load false 1 (.t 76), none⟩,
          ⟨some 78, .mv (.t 5), none⟩,
          ⟨some 79, .iaddrS 1 (.t 77) (.t 78), none⟩,
          ⟨some 80, .load false 1 (.t 79), none⟩,
          ⟨some 81, .mv (.t 6), none⟩,
          ⟨some 82, .iaddrS 1 (.t 80) (.t 81), none⟩,
          ⟨some 83, .load false 1 (.t 82), none⟩,
          ⟨some 7, .mv (.t 83), none⟩])
        (.seq (.reg [⟨some 84, .faddr 1 (.t 3), none⟩,
          ⟨some 85, .load false 1 (.t 84), none⟩,
          ⟨some 86, .mv (.t 7), none⟩,
          ⟨some 87, .mv (.t 5), none⟩,
          ⟨some 88, .iaddrS 1 (.t 85) (.t 86), none⟩,
          ⟨none, .store 1 (.t 88) (.t 87), none⟩])
        (.seq (.seq (.reg [⟨some 89, .mv (.t 6), none⟩,
          ⟨some 90, .bin .eql (.t 89) (.k (.int .i64 0)), none⟩])
        (.cond (.t 90) (.reg [⟨some 91, .faddr 4 (.t 3), none⟩,
            ⟨some 92, .load false 1 (.t 91), none⟩,
            ⟨some 93, .mv (.t 5), none⟩,
            ⟨some 94, .mv (.t 7), none⟩,
            ⟨some 95, .iaddrS 1 (.t 92) (.t 93), none⟩,
            ⟨none, .store 1 (.t 95) (.t 94), none⟩])
          (.seq (.regD [⟨some 96, .faddr 3 (.t 3), none⟩,
            ⟨some 97, .load false 1 (.t 96), none⟩,
            ⟨some 98, .mv (.t 7), none⟩,
            ⟨some 99, .mv (.t 0), none⟩,
            ⟨some 100, .nchk (.t 99), none⟩,
            ⟨some 101, .faddr 1 (.t 100), none⟩,
            ⟨some 102, .load false 1 (.t 101), none⟩,
            ⟨some 103, .mv (.t 5), none⟩,
            ⟨some 104, .iaddrS 1 (.t 102) (.t 103), none⟩,
            ⟨some 105, .load false 1 (.t 104), none⟩,
            ⟨some 106, .mv (.t 6), none⟩,
            ⟨some 107, .bin .sub (.t 106) (.k (.int .i64 1)), none⟩,
            ⟨some 108, .iaddrS 1 (.t 105) (.t 107), none⟩,
            ⟨some 109, .load false 1 (.t 108), none⟩,
            ⟨some 110, .iaddrS 1 (.t 97) (.t 98), none⟩,
            ⟨none, .store 1 (.t 110) (.t 109), none⟩] [[], [0], [], [], [3], [4], [5], [], [6, 7], [8], [], [10], [9, 11], [12], [1, 2, 0, 1, 2, 3, 4, 5, 6, 7, 8, 9, 10, 11, 12, 13], [14, 13, 0, 1, 2, 3, 4, 5, 6, 7, 8, 9, 10, 11, 12, 13]])
          (.regD [⟨some 111, .faddr 2 (.t 3), none⟩,
            ⟨some 112, .load false 1 (.t 111), none⟩,
            ⟨some 113, .mv (.t 0), none⟩,
            ⟨some 114, .nchk (.t 113), none⟩,
            ⟨some 115, .faddr 1 (.t 114), none⟩,
            ⟨some 116, .load false 1 (.t 115), none⟩,
            ⟨some 117, .mv (.t 5), none⟩,
            ⟨some 118, .iaddrS 1 (.t 116) (.t 117), none⟩,
            ⟨some 119, .load false 1 (.t 118), none⟩,
            ⟨some 120, .mv (.t 6), none⟩,
            ⟨some 121, .bin .sub (.t 120) (.k (.int .i64 1)), none⟩,
            ⟨some 122, .iaddrS 1 (.t 119) (.t 121), none⟩,
            ⟨some 123, .load false 1 (.t 122), none⟩,
            ⟨some 124, .mv (.t 7), none⟩,
            ⟨some 125, .iaddrS 1 (.t 112) (.t 123), none⟩,
            ⟨none, .store 1 (.t 125) (.t 124), none⟩] [[], [0], [], [2], [3], [4], [], [5, 6], [7], [], [9], [8, 10], [11], [], [1, 12, 0, 1, 2, 3, 4, 5, 6, 7, 8, 9, 10, 11, 12, 13], [14, 13, 0, 1, 2, 3, 4, 5, 6, 7, 8, 9, 10, 11, 12, 13]]))))
        (.reg [⟨some 126, .faddr 5 (.t 3), none⟩,
          ⟨some 127, .load false 1 (.t 126), none⟩,
          ⟨some 128, .mv (.t 5), none⟩,
          ⟨some 129, .mv (.t 7), none⟩,
          ⟨some 130, .iaddrS 1 (.t 127) (.t 128), none⟩,
          ⟨none, .store 1 (.t 130) (.t 129), none⟩])))))
       (.reg [⟨some 72, .mv (.t 6), none⟩,
         ⟨some 73, .bin .add (.t 72) (.k (.int .i64 1)), none⟩,
         ⟨some 6, .mv (.t 73), none⟩]))))))))
    (.reg [⟨some 50, .mv (.t 5), none⟩,
      ⟨some 51, .bin .add (.t 50) (.k (.int .i64 1)), none⟩,
      ⟨some 5, .mv (.t 51), none⟩]))))))
  (.seq (.reg [⟨some 131, .load true 6 (.t 3), none⟩,
    ⟨none, .store 6 (.t 2) (.t 131), none⟩])
  (.ret)))))
theorem b25 : Body Try.prog 25 c25 [.cell 2 true 6] 132 := ⟨by kernel_rfl, _, _, Try.func25, rfl, by kernel_rfl, by kernel_rfl, rfl⟩
def c26 : ACode :=
  .seq (.reg [⟨some 6, .mv (.k .nilp), none⟩,
    ⟨some 7, .mv (.k .nilp), none⟩])
  (.seq (.reg [⟨some 14, .mv (.t 0), none⟩,
    ⟨some 15, .mv (.t 1), none⟩,
    ⟨some 16, .call (.k (.fn 42 [] [])) [(.t 14), (.t 15)], none⟩,
    ⟨some 13, .mv (.t 16), none⟩,
    ⟨some 17, .ext (.t 13) 0, none⟩,
    ⟨some 18, .ext (.t 13) 1, none⟩,
    ⟨some 8, .mv (.t 17), none⟩,
    ⟨some 9, .mv (.t 18), none⟩])
  (.seq (.reg [⟨some 20, .mv (.t 0), none⟩,
    ⟨some 21, .mv (.t 1), none⟩,
    ⟨some 22, .call (.k (.fn 43 [] [])) [(.t 20), (.t 21)], none⟩,
    ⟨some 19, .mv (.t 22), none⟩,
    ⟨some 23, .ext (.t 19) 0, none⟩,
    ⟨some 24, .ext (.t 19) 1, none⟩,
    ⟨some 10, .new [(.int .i64 0), .nils, .nils], none⟩,
    ⟨none, .store 3 (.t 10) (.t 23), none⟩,
    ⟨some 11, .mv (.t 24), none⟩])
  (.seq (.seq (.reg [⟨some 25, .mv (.t 9), none⟩,
    ⟨some 26, .bin .neq (.t 25) (.k (.int .i64 0)), none⟩,
    ⟨some 27, .mv (.t 26), none⟩,
    ⟨some 28, .mv (.t 11), some (27, false)⟩,
    ⟨some 29, .bin .neq (.t 28) (.k (.int .i64 0)), some (27, false)⟩,
    ⟨some 30, .pick (.t 27) (.k (.bool true)) (.t 29), none⟩])
  (.cond (.t 30) (.seq (.reg [⟨some 6, .mv (.k .nilp), none⟩,
      ⟨some 7, .mv (.k .nilp), none⟩])
    (.ret))
    (.skip)))
  (.seq (.seq (.reg [⟨some 12, .mv (.k (.int .i64 0)), none⟩])
  (.block 0 (.loop (.seq (.seq (.reg [⟨some 31, .mv (.t 12), none⟩,
      ⟨some 32, .mv (.t 2), none⟩,
      ⟨some 33, .len (.t 32), none⟩,
      ⟨some 34, .bin .lss (.t 31) (.t 33), none⟩])
    (.cond (.t 34) (.skip)
      (.exit 0)))
    (.seq (.block 1 (.seq (.reg [⟨some 37, .mv (.t 8), none⟩,
       ⟨some 38, .mv (.t 2), none⟩,
       ⟨some 39, .mv (.t 12), none⟩,
       ⟨some 40, .iaddrS 5 (.t 38) (.t 39), none⟩,
       ⟨some 41, .load true 5 (.t 40), none⟩,
       ⟨some 42, .call (.k (.fn 46 [] [])) [(.t 37), (.t 10), (.t 41)], none⟩,
       ⟨some 43, .un .not (.t 42), none⟩])
     (.cond (.t 43) (.seq (.reg [⟨some 6, .mv (.k .nilp), none⟩,
         ⟨some 7, .mv (.t 10), none⟩])
       (.ret))
       (.skip))))
    (.reg [⟨some 35, .mv (.t 12), none⟩,
      ⟨some 36, .bin .add (.t 35) (.k (.int .i64 1)), none⟩,
      ⟨some 12, .mv (.t 36), none⟩]))))))
  (.seq (.reg [⟨some 44, .mv (.t 8), none⟩,
    ⟨some 6, .mv (.t 44), none⟩,
    ⟨some 7, .mv (.t 10), none⟩])
  (.ret))))))
theorem b26 : Body Try.prog 26 c26 [.tmp 6, .tmp 7] 45 := ⟨by kernel_rfl, _, _, Try.func26, rfl, by kernel_rfl, by kernel_rfl, rfl⟩
def c41 : ACode :=
  .seq (.reg [⟨some 6, .mv (.k (.int .i64 0)), none⟩,
    ⟨some 7, .mv (.k (.int .i64 0)), none⟩])
  (.seq (.seq (.reg [⟨some 10, .mv (.t 0), none⟩,
    ⟨some 11, .mv (.t 1), none⟩,
    ⟨some 12, .call (.k (.fn 53 [] [])) [(.t 10), (.t 11)], none⟩,
    ⟨some 8, .mv (.t 12), none⟩])
  (.seq (.reg [⟨some 13, .mv (.t 8), none⟩,
    ⟨some 14, .bin .neq (.t 13) (.k (.int .i64 0)), none⟩])
  (.cond (.t 14) (.seq (.reg [⟨some 15, .mv (.t 8), none⟩,
      ⟨some 6, .mv (.k (.int .i64 0)), none⟩,
      ⟨some 7, .mv (.t 15), none⟩])
    (.ret))
    (.skip))))
  (.seq (.reg [⟨some 16, .mv (.t 0), none⟩,
    ⟨some 17, .call (.k (.fn 56 [] [])) [(.t 16)], none⟩,
    ⟨some 6, .mv (.t 17), none⟩])
  (.seq (.seq (.reg [⟨some 18, .mv (.t 6), none⟩,
    ⟨some 19, .bin .eql (.t 18) (.k (.int .i64 (-1))), none⟩])
  (.cond (.t 19) (.seq (.reg [⟨some 6, .mv (.k (.int .i64 0)), none⟩,
      ⟨some 7, .mv (.k (.int .i64 5)), none⟩])
    (.ret))
    (.skip)))
  (.seq (.reg [⟨some 20, .mv (.t 0), none⟩,
    ⟨some 21, .nchk (.t 20), none⟩,
    ⟨some 22, .faddr 0 (.t 21), none⟩,
    ⟨some 23, .load false 1 (.t 22), none⟩,
    ⟨some 24, .mv (.t 6), none⟩,
    ⟨some 25, .mv (.t 2), none⟩,
    ⟨some 26, .iaddrS 4 (.t 23) (.t 24), none⟩,
    ⟨some 27, .faddr 0 (.t 26), none⟩,
    ⟨none, .store 1 (.t 27) (.t 25), none⟩])
  (.seq (.reg [⟨some 28, .mv (.t 0), none⟩,
    ⟨some 29, .nchk (.t 28), none⟩,
    ⟨some 30, .faddr 0 (.t 29), none⟩,
    ⟨some 31, .load false 1 (.t 30), none⟩,
    ⟨some 32, .mv (.t 1), none⟩,
    ⟨some 33, .iaddrS 4 (.t 31) (.t 32), none⟩,
    ⟨some 9, .mv (.t 33), none⟩])
  (.seq (.regD [⟨some 34, .mv (.t 0), none⟩,
    ⟨some 35, .mv (.t 6), none⟩,
    ⟨some 36, .mv (.t 9), none⟩,
    ⟨some 37, .nchk (.t 36), none⟩,
    ⟨some 38, .faddr 1 (.t 37), none⟩,
    ⟨some 39, .load false 1 (.t 38), none⟩,
    ⟨some 40, .mv (.t 1), none⟩,
    ⟨some 41, .mv (.t 9), none⟩,
    ⟨some 42, .nchk (.t 41), none⟩,
    ⟨some 43, .faddr 2 (.t 42), none⟩,
    ⟨some 44, .load false 1 (.t 43), none⟩,
    ⟨some 45, .call (.k (.fn 81 [] [])) [(.t 34), (.t 35), (.t 39), (.t 40), (.t 44)], none⟩] [[], [], [], [2], [3], [4], [], [], [7], [8], [9], [0, 1, 5, 6, 10]])
  (.seq (.reg [⟨some 46, .mv (.t 6), none⟩,
    ⟨some 6, .mv (.t 46), none⟩,
    ⟨some 7, .mv (.k (.int .i64 0)), none⟩])
  (.ret))))))))
theorem b41 : Body Try.prog 41 c41 [.tmp 6, .tmp 7] 47 := ⟨by kernel_rfl, _, _, Try.func41, rfl, by kernel_rfl, by kernel_rfl, rfl⟩
def c42 : ACode :=
  .seq (.reg [⟨some 4, .mv (.k .nilp), none⟩,
    ⟨some 5, .mv (.k (.int .i64 0)), none⟩])
  (.seq (.seq (.reg [⟨some 6, .mv (.t 0), none⟩,
    ⟨some 7, .bin .lss (.t 6) (.k (.int .i64 1)), none⟩,
    ⟨some 8, .mv (.t 7), none⟩,
    ⟨some 9, .mv (.t 0), some (8, false)⟩,
    ⟨some 10, .bin .gtr (.t 9) (.k (.int .i64 2000)), some (8, false)⟩,
    ⟨some 11, .pick (.t 8) (.k (.bool true)) (.t 10), none⟩,
    ⟨some 12, .mv (.t 11), none⟩,
    ⟨some 13, .mv (.t 1), some (12, false)⟩,
    ⟨some 14, .bin .lss (.t 13) (.k (.int .i64 1)), some (12, false)⟩,
    ⟨some 15, .pick (.t 12) (.k (.bool true)) (.t 14), none⟩,
    ⟨some 16, .mv (.t 15), none⟩,
    ⟨some 17, .mv (.t 1), some (16, false)⟩,
    ⟨some 18, .bin .gtr (.t 17) (.k (.int .i64 64)), some (16, false)⟩,
    ⟨some 19, .pick (.t 16) (.k (.bool true)) (.t 18), none⟩])
  (.cond (.t 19) (.seq (.reg [⟨some 4, .mv (.k .nilp), none⟩,
      ⟨some 5, .mv (.k (.int .i64 7)), none⟩])
    (.ret))
    (.skip)))
  (.seq (.reg [⟨some 20, .mv (.t 0), none⟩,
    ⟨some 21, .mv (.t 1), none⟩,
    ⟨some 22, .call (.k (.fn 63 [] [])) [(.t 20), (.t 21)], none⟩,
    ⟨some 4, .mv (.t 22), none⟩,
    ⟨some 5, .mv (.k (.int .i64 0)), none⟩])
  (.ret)))
theorem b42 : Body Try.prog 42 c42 [.tmp 4, .tmp 5] 23 := ⟨by kernel_rfl, _, _, Try.func42, rfl, by kernel_rfl, by kernel_rfl, rfl⟩
def c43 : ACode :=
  .seq (.reg [⟨some 4, .new [(.int .i64 0), .nils, .nils], none⟩,
    ⟨some 5, .mv (.k (.int .i64 0)), none⟩])
  (.seq (.seq (.reg [⟨some 8, .mv (.t 0), none⟩,
    ⟨some 9, .bin .lss (.t 8) (.k (.int .i64 1)), none⟩,
    ⟨some 10, .mv (.t 9), none⟩,
    ⟨some 11, .mv (.t 0), some (10, false)⟩,
    ⟨some 12, .bin .gtr (.t 11) (.k (.int .i64 2000)), some (10, false)⟩,
    ⟨some 13, .pick (.t 10) (.k (.bool true)) (.t 12), none⟩,
    ⟨some 14, .mv (.t 13), none⟩,
    ⟨some 15, .mv (.t 1), some (14, false)⟩,
    ⟨some 16, .bin .lss (.t 15) (.k (.int .i64 1)), some (14, false)⟩,
    ⟨some 17, .pick (.t 14) (.k (.bool true)) (.t 16), none⟩,
    ⟨some 18, .mv (.t 17), none⟩,
    ⟨some 19, .mv (.t 1), some (18, false)⟩,
    ⟨some 20, .bin .gtr (.t 19) (.k (.int .i64 64)), some (18, false)⟩,
    ⟨some 21, .pick (.t 18) (.k (.bool true)) (.t 20), none⟩])
  (.cond (.t 21) (.seq (.reg [⟨some 22, .build [(.int .i64 0), .nils, .nils] [], none⟩,
      ⟨none, .store 3 (.t 4) (.t 22), none⟩,
      ⟨some 5, .mv (.k (.int .i64 7)), none⟩])
    (.ret))
    (.skip)))
  (.seq (.reg [⟨some 23, .mv (.t 0), none⟩,
    ⟨some 24, .mv (.t 0), none⟩,
    ⟨some 25, .mks 1 8 [(.int .i64 0)] (.t 24) (.t 24), none⟩,
    ⟨some 26, .build [(.int .i64 0), .nils, .nils] [(0, 1, (.t 23)), (2, 1, (.t 25))], none⟩,
    ⟨some 6, .new [(.int .i64 0), .nils, .nils], none⟩,
    ⟨none, .store 3 (.t 6) (.t 26), none⟩])
  (.seq (.seq (.reg [⟨some 7, .mv (.k (.int .i64 0)), none⟩])
  (.block 0 (.loop (.seq (.seq (.reg [⟨some 27, .mv (.t 7), none⟩,
      ⟨some 28, .mv (.t 1), none⟩,
      ⟨some 29, .bin .lss (.t 27) (.t 28), none⟩])
    (.cond (.t 29) (.skip)
      (.exit 0)))
    (.seq (.block 1 (.reg [⟨some 32, .faddr 1 (.t 6), none⟩,
       ⟨some 33, .load false 1 (.t 32), none⟩,
       ⟨some 34, .bslice 1 1 [.nils] [(0, 1, (.k .nils))], none⟩,
       ⟨some 35, .append 1 24 (.t 33) (.t 34), none⟩,
       ⟨some 36, .faddr 1 (.t 6), none⟩,
       ⟨none, .store 1 (.t 36) (.t 35), none⟩]))
    (.reg [⟨some 30, .mv (.t 7), none⟩,
      ⟨some 31, .bin .add (.t 30) (.k (.int .i64 1)), none⟩,
      ⟨some 7, .mv (.t 31), none⟩]))))))
  (.seq (.reg [⟨some 37, .load true 3 (.t 6), none⟩,
    ⟨none, .store 3 (.t 4) (.t 37), none⟩,
    ⟨some 5, .mv (.k (.int .i64 0)), none⟩])
  (.ret)))))
theorem b43 : Body Try.prog 43 c43 [.cell 4 true 3, .tmp 5] 38 := ⟨by kernel_rfl, _, _, Try.func43, rfl, by kernel_rfl, by kernel_rfl, rfl⟩
def c44 : ACode :=
  .seq (.reg [⟨some 4, .mv (.k (.int .i64 0)), none⟩,
    ⟨some 5, .mv (.k (.int .i64 0)), none⟩])
  (.seq (.seq (.reg [⟨some 7, .mv (.t 0), none⟩,
    ⟨some 8, .mv (.t 1), none⟩,
    ⟨some 9, .call (.k (.fn 53 [] [])) [(.t 7), (.t 8)], none⟩,
    ⟨some 6, .mv (.t 9), none⟩])
  (.seq (.reg [⟨some 10, .mv (.t 6), none⟩,
    ⟨some 11, .bin .neq (.t 10) (.k (.int .i64 0)), none⟩])
  (.cond (.t 11) (.seq (.reg [⟨some 12, .mv (.t 4), none⟩,
      ⟨some 13, .mv (.t 6), none⟩,
      ⟨some 4, .mv (.t 12), none⟩,
      ⟨some 5, .mv (.t 13), none⟩])
    (.ret))
    (.skip))))
  (.seq (.reg [⟨some 14, .mv (.t 0), none⟩,
    ⟨some 15, .nchk (.t 14), none⟩,
    ⟨some 16, .faddr 0 (.t 15), none⟩,
    ⟨some 17, .load false 1 (.t 16), none⟩,
    ⟨some 18, .mv (.t 1), none⟩,
    ⟨some 19, .iaddrS 4 (.t 17) (.t 18), none⟩,
    ⟨some 20, .faddr 0 (.t 19), none⟩,
    ⟨some 21, .load false 1 (.t 20), none⟩,
    ⟨some 4, .mv (.t 21), none⟩,
    ⟨some 5, .mv (.k (.int .i64 0)), none⟩])
  (.ret)))
theorem b44 : Body Try.prog 44 c44 [.tmp 4, .tmp 5] 22 := ⟨by kernel_rfl, _, _, Try.func44, rfl, by kernel_rfl, by kernel_rfl, rfl⟩
def c45 : ACode :=
  .seq (.reg [⟨some 6, .mv (.k (.int .i64 0)), none⟩])
  (.seq (.seq (.reg [⟨some 8, .mv (.t 0), none⟩,
    ⟨some 9, .mv (.t 1), none⟩,
    ⟨some 10, .call (.k (.fn 53 [] [])) [(.t 8), (.t 9)], none⟩,
    ⟨some 7, .mv (.t 10), none⟩])
  (.seq (.reg [⟨some 11, .mv (.t 7), none⟩,
    ⟨some 12, .bin .neq (.t 11) (.k (.int .i64 0)), none⟩])
  (.cond (.t 12) (.seq (.reg [⟨some 13, .mv (.t 7), none⟩,
      ⟨some 6, .mv (.t 13), none⟩])
    (.ret))
    (.skip))))
  (.seq (.reg [⟨some 14, .mv (.t 0), none⟩,
    ⟨some 15, .nchk (.t 14), none⟩,
    ⟨some 16, .faddr 0 (.t 15), none⟩,
    ⟨some 17, .load false 1 (.t 16), none⟩,
    ⟨some 18, .mv (.t 1), none⟩,
    ⟨some 19, .mv (.t 2), none⟩,
    ⟨some 20, .iaddrS 4 (.t 17) (.t 18), none⟩,
    ⟨some 21, .faddr 0 (.t 20), none⟩,
    ⟨none, .store 1 (.t 21) (.t 19), none⟩])
  (.seq (.reg [⟨some 6, .mv (.k (.int .i64 0)), none⟩])
  (.ret))))
theorem b45 : Body Try.prog 45 c45 [.tmp 6] 22 := ⟨by kernel_rfl, _, _, Try.func45, rfl, by kernel_rfl, by kernel_rfl, rfl⟩
def c46 : ACode :=
  .seq (.reg [⟨some 5, .box (.t 2), none⟩,
    ⟨some 6, .mv (.k (.bool false)), none⟩])
  (.seq (.seq (.reg [⟨some 39, .faddr 0 (.t 5), none⟩,
    ⟨some 40, .load false 1 (.t 39), none⟩,
    ⟨some 41, .bin .rem (.t 40) (.k (.int .u8 10)), none⟩])
  (.block 0 (.seq (.reg [⟨some 43, .bin .eql (.t 41) (.k (.int .u8 3)), none⟩,
     ⟨some 42, .mv (.t 43), none⟩])
   (.cond (.t 42) (.seq (.reg [⟨some 45, .mv (.t 0), none⟩,
       ⟨some 46, .faddr 1 (.t 5), none⟩,
       ⟨some 47, .load false 1 (.t 46), none⟩,
       ⟨some 48, .faddr 3 (.t 5), none⟩,
       ⟨some 49, .load false 1 (.t 48), none⟩,
       ⟨some 50, .call (.k (.fn 41 [] [])) [(.t 45), (.t 47), (.t 49)], none⟩,
       ⟨some 44, .mv (.t 50), none⟩,
       ⟨some 51, .ext (.t 44) 0, none⟩,
       ⟨some 52, .ext (.t 44) 1, none⟩,
       ⟨some 7, .mv (.t 51), none⟩,
       ⟨some 8, .mv (.t 52), none⟩])
     (.seq (.reg [⟨some 54, .mv (.t 1), none⟩,
       ⟨some 55, .faddr 1 (.t 5), none⟩,
       ⟨some 56, .load false 1 (.t 55), none⟩,
       ⟨some 57, .faddr 3 (.t 5), none⟩,
       ⟨some 58, .load false 1 (.t 57), none⟩,
       ⟨some 59, .call (.k (.fn 82 [] [])) [(.t 54), (.t 56), (.t 58)], none⟩,
       ⟨some 53, .mv (.t 59), none⟩,
       ⟨some 60, .ext (.t 53) 0, none⟩,
       ⟨some 61, .ext (.t 53) 1, none⟩,
       ⟨some 9, .mv (.t 60), none⟩,
       ⟨some 10, .mv (.t 61), none⟩])
     (.seq (.reg [⟨some 62, .mv (.t 7), none⟩,
       ⟨some 63, .mv (.t 9), none⟩,
       ⟨some 64, .bin .eql (.t 62) (.t 63), none⟩,
       ⟨some 65, .mv (.t 64), none⟩,
       ⟨some 66, .mv (.t 8), some (65, true)⟩,
       ⟨some 67, .mv (.t 10), some (65, true)⟩,
       ⟨some 68, .bin .eql (.t 66) (.t 67), some (65, true)⟩,
       ⟨some 69, .pick (.t 65) (.t 68) (.k (.bool false)), none⟩,
       ⟨some 6, .mv (.t 69), none⟩])
     (.ret))))
     (.seq (.reg [⟨some 71, .bin .eql (.t 41) (.k (.int .u8 4)), none⟩,
       ⟨some 70, .mv (.t 71), none⟩])
     (.cond (.t 70) (.seq (.reg [⟨some 73, .mv (.t 0), none⟩,
         ⟨some 74, .faddr 1 (.t 5), none⟩,
         ⟨some 75, .load false 1 (.t 74), none⟩,
         ⟨some 76, .call (.k (.fn 13 [] [])) [(.t 73), (.t 75)], none⟩,
         ⟨some 72, .mv (.t 76), none⟩,
         ⟨some 77, .ext (.t 72) 0, none⟩,
         ⟨some 78, .ext (.t 72) 1, none⟩,
         ⟨some 11, .mv (.t 77), none⟩,
         ⟨some 12, .mv (.t 78), none⟩])
       (.seq (.reg [⟨some 80, .mv (.t 1), none⟩,
         ⟨some 81, .faddr 1 (.t 5), none⟩,
         ⟨some 82, .load false 1 (.t 81), none⟩,
         ⟨some 83, .call (.k (.fn 49 [] [])) [(.t 80), (.t 82)], none⟩,
         ⟨some 79, .mv (.t 83), none⟩,
         ⟨some 84, .ext (.t 79) 0, none⟩,
         ⟨some 85, .ext (.t 79) 1, none⟩,
         ⟨some 13, .mv (.t 84), none⟩,
         ⟨some 14, .mv (.t 85), none⟩])
       (.seq (.reg [⟨some 86, .mv (.t 11), none⟩,
         ⟨some 87, .mv (.t 13), none⟩,
         ⟨some 88, .bin .eql (.t 86) (.t 87), none⟩,
         ⟨some 89, .mv (.t 88), none⟩,
         ⟨some 90, .mv (.t 12), some (89, true)⟩,
         ⟨some 91, .mv (.t 14), some (89, true)⟩,
         ⟨some 92, .bin .eql (.t 90) (.t 91), some (89, true)⟩,
         ⟨some 93, .pick (.t 89) (.t 92) (.k (.bool false)), none⟩,
         ⟨some 6, .mv (.t 93), none⟩])
       (.ret))))
       (.seq (.reg [⟨some 95, .bin .eql (.t 41) (.k (.int .u8 5)), none⟩,
         ⟨some 94, .mv (.t 95), none⟩])
       (.cond (.t 94) (.seq (.regD [⟨some 96, .mv (.t 0), none⟩,
           ⟨some 97, .faddr 1 (.t 5), none⟩,
           ⟨some 98, .load false 1 (.t 97), none⟩,
           ⟨some 99, .faddr 2 (.t 5), none⟩,
           ⟨some 100, .load false 1 (.t 99), none⟩,
           ⟨some 101, .faddr 4 (.t 5), none⟩,
           ⟨some 102, .load false 1 (.t 101), none⟩,
           ⟨some 103, .call (.k (.fn 50 [] [])) [(.t 96), (.t 98), (.t 100), (.t 102)], none⟩,
           ⟨some 104, .mv (.t 1), none⟩,
           ⟨some 105, .faddr 1 (.t 5), none⟩,
           ⟨some 106, .load false 1 (.t 105), none⟩,
           ⟨some 107, .faddr 2 (.t 5), none⟩,
           ⟨some 108, .load false 1 (.t 107), none⟩,
           ⟨some 109, .faddr 4 (.t 5), none⟩,
           ⟨some 110, .load false 1 (.t 109), none⟩,
           ⟨some 111, .call (.k (.fn 51 [] [])) [(.t 104), (.t 106), (.t 108), (.t 110)], none⟩,
           ⟨some 112, .bin .eql (.t 103) (.t 111), none⟩,
           ⟨some 6, .mv (.t 112), none⟩] [[], [], [1], [], [3], [], [5], [0, 2, 4, 6], [], [], [9], [], [11], [], [13], [8, 10, 12, 14, 7], [7, 15], [16, 15, 0, 1, 2, 3, 4, 5, 6, 7, 8, 9, 10, 11, 12, 13, 14, 15, 16]])
         (.ret))
         (.seq (.reg [⟨some 114, .bin .eql (.t 41) (.k (.int .u8 6)), none⟩,
           ⟨some 113, .mv (.t 114), none⟩])
         (.cond (.t 113) (.seq (.regD [⟨some 115, .mv (.t 0), none⟩,
             ⟨some 116, .faddr 1 (.t 5), none⟩,
             ⟨some 117, .load false 1 (.t 116), none⟩,
             ⟨some 118, .faddr 3 (.t 5), none⟩,
             ⟨some 119, .load false 1 (.t 118), none⟩,
             ⟨some 120, .call (.k (.fn 45 [] [])) [(.t 115), (.t 117), (.t 119)], none⟩,
             ⟨some 121, .mv (.t 1), none⟩,
             ⟨some 122, .faddr 1 (.t 5), none⟩,
             ⟨some 123, .load false 1 (.t 122), none⟩,
             ⟨some 124, .faddr 3 (.t 5), none⟩,
             ⟨some 125, .load false 1 (.t 124), none⟩,
             ⟨some 126, .call (.k (.fn 83 [] [])) [(.t 121), (.t 123), (.t 125)], none⟩,
             ⟨some 127, .bin .eql (.t 120) (.t 126), none⟩,
             ⟨some 6, .mv (.t 127), none⟩] [[], [], [1], [], [3], [0, 2, 4], [], [], [7], [], [9], [6, 8, 10, 5], [5, 11], [12, 11, 0, 1, 2, 3, 4, 5, 6, 7, 8, 9, 10, 11, 12]])
           (.ret))
           (.seq (.reg [⟨some 129, .bin .eql (.t 41) (.k (.int .u8 7)), none⟩,
             ⟨some 128, .mv (.t 129), none⟩])
           (.cond (.t 128) (.seq (.reg [⟨some 131, .mv (.t 0), none⟩,
               ⟨some 132, .faddr 1 (.t 5), none⟩,
               ⟨some 133, .load false 1 (.t 132), none⟩,
               ⟨some 134, .call (.k (.fn 44 [] [])) [(.t 131), (.t 133)], none⟩,
               ⟨some 130, .mv (.t 134), none⟩,
               ⟨some 135, .ext (.t 130) 0, none⟩,
               ⟨some 136, .ext (.t 130) 1, none⟩,
               ⟨some 15, .mv (.t 135), none⟩,
               ⟨some 16, .mv (.t 136), none⟩])
             (.seq (.reg [⟨some 138, .mv (.t 1), none⟩,
               ⟨some 139, .faddr 1 (.t 5), none⟩,
               ⟨some 140, .load false 1 (.t 139), none⟩,
               ⟨some 141, .call (.k (.fn 48 [] [])) [(.t 138), (.t 140)], none⟩,
               ⟨some 137, .mv (.t 141), none⟩,
               ⟨some 142, .ext (.t 137) 0, none⟩,
               ⟨some 143, .ext (.t 137) 1, none⟩,
               ⟨some 17, .mv (.t 142), none⟩,
               ⟨some 18, .mv (.t 143), none⟩])
             (.seq (.reg [⟨some 145, .mv (.t 0), none⟩,
               ⟨some 146, .faddr 1 (.t 5), none⟩,
               ⟨some 147, .load false 1 (.t 146), none⟩,
               ⟨some 148, .call (.k (.fn 16 [] [])) [(.t 145), (.t 147)], none⟩,
               ⟨some 144, .mv (.t 148), none⟩,
               ⟨some 149, .ext (.t 144) 0, none⟩,
               ⟨some 150, .ext (.t 144) 1, none⟩,
               ⟨some 19, .mv (.t 149), none⟩,
               ⟨some 20, .mv (.t 150), none⟩])
             (.seq (.reg [⟨some 152, .mv (.t 1), none⟩,
               ⟨some 153, .faddr 1 (.t 5), none⟩,
               ⟨some 154, .load false 1 (.t 153), none⟩,
               ⟨some 155, .call (.k (.fn 84 [] [])) [(.t 152), (.t 154)], none⟩,
               ⟨some 151, .mv (.t 155), none⟩,
               ⟨some 156, .ext (.t 151) 0, none⟩,
               ⟨some 157, .ext (.t 151) 1, none⟩,
               ⟨some 21, .mv (.t 156), none⟩,
               ⟨some 22, .mv (.t 157), none⟩])
             (.seq (.reg [⟨some 158, .mv (.t 15), none⟩,
               ⟨some 159, .mv (.t 17), none⟩,
               ⟨some 160, .bin .eql (.t 158) (.t 159), none⟩,
               ⟨some 161, .mv (.t 160), none⟩,
               ⟨some 162, .mv (.t 16), some (161, true)⟩,
               ⟨some 163, .mv (.t 18), some (161, true)⟩,
               ⟨some 164, .bin .eql (.t 162) (.t 163), some (161, true)⟩,
               ⟨some 165, .pick (.t 161) (.t 164) (.k (.bool false)), none⟩,
               ⟨some 166, .mv (.t 165), none⟩,
               ⟨some 167, .mv (.t 19), some (166, true)⟩,
               ⟨some 168, .mv (.t 21), some (166, true)⟩,
               ⟨some 169, .bin .eql (.t 167) (.t 168), some (166, true)⟩,
               ⟨some 170, .pick (.t 166) (.t 169) (.k (.bool false)), none⟩,
               ⟨some 171, .mv (.t 170), none⟩,
               ⟨some 172, .mv (.t 20), some (171, true)⟩,
               ⟨some 173, .mv (.t 22), some (171, true)⟩,
               ⟨some 174, .bin .eql (.t 172) (.t 173), some (171, true)⟩,
               ⟨some 175, .pick (.t 171) (.t 174) (.k (.bool false)), none⟩,
               ⟨some 6, .mv (.t 175), none⟩])
             (.ret))))))
             (.seq (.reg [⟨some 177, .bin .eql (.t 41) (.k (.int .u8 8)), none⟩,
               ⟨some 176, .mv (.t 177), none⟩])
             (.cond (.t 176) (.seq (.reg [⟨some 179, .mv (.t 0), none⟩,
                 ⟨some 180, .faddr 1 (.t 5), none⟩,
                 ⟨some 181, .load false 1 (.t 180), none⟩,
                 ⟨some 182, .faddr 4 (.t 5), none⟩,
                 ⟨some 183, .load false 1 (.t 182), none⟩,
                 ⟨some 184, .call (.k (.fn 15 [] [])) [(.t 179), (.t 181), (.t 183)], none⟩,
                 ⟨some 178, .mv (.t 184), none⟩,
                 ⟨some 185, .ext (.t 178) 0, none⟩,
                 ⟨some 186, .ext (.t 178) 1, none⟩,
                 ⟨some 23, .mv (.t 185), none⟩,
                 ⟨some 24, .mv (.t 186), none⟩])
               (.seq (.reg [⟨some 188, .mv (.t 1), none⟩,
                 ⟨some 189, .faddr 1 (.t 5), none⟩,
                 ⟨some 190, .load false 1 (.t 189), none⟩,
                 ⟨some 191, .faddr 4 (.t 5), none⟩,
                 ⟨some 192, .load false 1 (.t 191), none⟩,
                 ⟨some 193, .call (.k (.fn 85 [] [])) [(.t 188), (.t 190), (.t 192)], none⟩,
                 ⟨some 187, .mv (.t 193), none⟩,
                 ⟨some 194, .ext (.t 187) 0, none⟩,
                 ⟨some 195, .ext (.t 187) 1, none⟩,
                 ⟨some 25, .mv (.t 194), none⟩,
                 ⟨some 26, .mv (.t 195), none⟩])
               (.seq (.reg [⟨some 196, .mv (.t 23), none⟩,
                 ⟨some 197, .mv (.t 25), none⟩,
                 ⟨some 198, .bin .eql (.t 196) (.t 197), none⟩,
                 ⟨some 199, .mv (.t 198), none⟩,
                 ⟨some 200, .mv (.t 24), some (199, true)⟩,
                 ⟨some 201, .mv (.t 26), some (199, true)⟩,
                 ⟨some 202, .bin .eql (.t 200) (.t 201), some (199, true)⟩,
                 ⟨some 203, .pick (.t 199) (.t 202) (.k (.bool false)), none⟩,
                 ⟨some 6, .mv (.t 203), none⟩])
               (.ret))))
               (.seq (.reg [⟨some 205, .bin .eql (.t 41) (.k (.int .u8 9)), none⟩,
                 ⟨some 204, .mv (.t 205), none⟩])
               (.cond (.t 204) (.seq (.reg [⟨some 207, .mv (.t 0), none⟩,
                   ⟨some 208, .faddr 2 (.t 5), none⟩,
                   ⟨some 209, .load false 1 (.t 208), none⟩,
                   ⟨some 210, .faddr 4 (.t 5), none⟩,
                   ⟨some 211, .load false 1 (.t 210), none⟩,
                   ⟨some 212, .call (.k (.fn 86 [] [])) [(.t 207), (.t 209), (.t 211)], none⟩,
                   ⟨some 206, .mv (.t 212), none⟩,
                   ⟨some 213, .ext (.t 206) 0, none⟩,
                   ⟨some 214, .ext (.t 206) 1, none⟩,
                   ⟨some 27, .mv (.t 213), none⟩,
                   ⟨some 28, .mv (.t 214), none⟩])
                 (.seq (.reg [⟨some 216, .mv (.t 1), none⟩,
                   ⟨some 217, .faddr 2 (.t 5), none⟩,
                   ⟨some 218, .load false 1 (.t 217), none⟩,
                   ⟨some 219, .faddr 4 (.t 5), none⟩,
                   ⟨some 220, .load false 1 (.t 219), none⟩,
                   ⟨some 221, .call (.k (.fn 87 [] [])) [(.t 216), (.t 218), (.t 220)], none⟩,
                   ⟨some 215, .mv (.t 221), none⟩,
                   ⟨some 222, .ext (.t 215) 0, none⟩,
                   ⟨some 223, .ext (.t 215) 1, none⟩,
                   ⟨some 29, .mv (.t 222), none⟩,
                   ⟨some 30, .mv (.t 223), none⟩])
                 (.seq (.reg [⟨some 225, .mv (.t 0), none⟩,
                   ⟨some 226, .faddr 2 (.t 5), none⟩,
                   ⟨some 227, .load false 1 (.t 226), none⟩,
                   ⟨some 228, .call (.k (.fn 17 [] [])) [(.t 225), (.t 227)], none⟩,
                   ⟨some 224, .mv (.t 228), none⟩,
                   ⟨some 229, .ext (.t 224) 0, none⟩,
                   ⟨some 230, .ext (.t 224) 1, none⟩,
                   ⟨some 31, .mv (.t 229), none⟩,
                   ⟨some 32, .mv (.t 230), none⟩])
                 (.seq (.reg [⟨some 232, .mv (.t 1), none⟩,
                   ⟨some 233, .faddr 2 (.t 5), none⟩,
                   ⟨some 234, .load false 1 (.t 233), none⟩,
                   ⟨some 235, .call (.k (.fn 88 [] [])) [(.t 232), (.t 234)], none⟩,
                   ⟨some 231, .mv (.t 235), none⟩,
                   ⟨some 236, .ext (.t 231) 0, none⟩,
                   ⟨some 237, .ext (.t 231) 1, none⟩,
                   ⟨some 33, .mv (.t 236), none⟩,
                   ⟨some 34, .mv (.t 237), none⟩])
                 (.seq (.reg [⟨some 238, .mv (.t 27), none⟩,
                   ⟨some 239, .mv (.t 29), none⟩,
                   ⟨some 240, .bin .eql (.t 238) (.t 239), none⟩,
                   ⟨some 241, .mv (.t 240), none⟩,
                   ⟨some 242, .mv (.t 28), some (241, true)⟩,
                   ⟨some 243, .mv (.t 30), some (241, true)⟩,
                   ⟨some 244, .bin .eql (.t 242) (.t 243), some (241, true)⟩,
                   ⟨some 245, .pick (.t 241) (.t 244) (.k (.bool false)), none⟩,
                   ⟨some 246, .mv (.t 245), none⟩,
                   ⟨some 247, .mv (.t 31), some (246, true)⟩,
                   ⟨some 248, .mv (.t 33), some (246, true)⟩,
                   ⟨some 249, .bin .eql (.t 247) (.t 248), some (246, true)⟩,
                   ⟨some 250, .pick (.t 246) (.t 249) (.k (.bool false)), none⟩,
                   ⟨some 251, .mv (.t 250), none⟩,
                   ⟨some 252, .mv (.t 32), some (251, true)⟩,
                   ⟨some 253, .mv (.t 34), some (251, true)⟩,
                   ⟨some 254, .bin .eql (.t 252) (.t 253), some (251, true)⟩,
                   ⟨some 255, .pick (.t 251) (.t 254) (.k (.bool false)), none⟩,
                   ⟨some 6, .mv (.t 255), none⟩])
                 (.ret))))))
                 (.skip)))))))))))))))))
  (.seq (.reg [⟨some 257, .mv (.t 0), none⟩,
    ⟨some 258, .faddr 2 (.t 5), none⟩,
    ⟨some 259, .load false 1 (.t 258), none⟩,
    ⟨some 260, .faddr 3 (.t 5), none⟩,
    ⟨some 261, .load false 1 (.t 260), none⟩,
    ⟨some 262, .faddr 4 (.t 5), none⟩,
    ⟨some 263, .load false 1 (.t 262), none⟩,
    ⟨some 264, .call (.k (.fn 14 [] [])) [(.t 257), (.t 259), (.t 261), (.t 263)], none⟩,
    ⟨some 256, .mv (.t 264), none⟩,
    ⟨some 265, .ext (.t 256) 0, none⟩,
    ⟨some 266, .ext (.t 256) 1, none⟩,
    ⟨some 35, .mv (.t 265), none⟩,
    ⟨some 36, .mv (.t 266), none⟩])
  (.seq (.reg [⟨some 268, .mv (.t 1), none⟩,
    ⟨some 269, .faddr 2 (.t 5), none⟩,
    ⟨some 270, .load false 1 (.t 269), none⟩,
    ⟨some 271, .faddr 3 (.t 5), none⟩,
    ⟨some 272, .load false 1 (.t 271), none⟩,
    ⟨some 273, .faddr 4 (.t 5), none⟩,
    ⟨some 274, .load false 1 (.t 273), none⟩,
    ⟨some 275, .call (.k (.fn 89 [] [])) [(.t 268), (.t 270), (.t 272), (.t 274)], none⟩,
    ⟨some 267, .mv (.t 275), none⟩,
    ⟨some 276, .ext (.t 267) 0, none⟩,
    ⟨some 277, .ext (.t 267) 1, none⟩,
    ⟨some 37, .mv (.t 276), none⟩,
    ⟨some 38, .mv (.t 277), none⟩])
  (.seq (.reg [⟨some 278, .mv (.t 35), none⟩,
    ⟨some 279, .mv (.t 37), none⟩,
    ⟨some 280, .bin .eql (.t 278) (.t 279), none⟩,
    ⟨some 281, .mv (.t 280), none⟩,
    ⟨some 282, .mv (.t 36), some (281, true)⟩,
    ⟨some 283, .mv (.t 38), some (281, true)⟩,
    ⟨some 284, .bin .eql (.t 282) (.t 283), some (281, true)⟩,
    ⟨some 285, .pick (.t 281) (.t 284) (.k (.bool false)), none⟩,
    ⟨some 6, .mv (.t 285), none⟩])
  (.ret)))))
theorem b46 : Body Try.prog 46 c46 [.tmp 6] 286 := ⟨by kernel_rfl, _, _, Try.func46, rfl, by kernel_rfl, by kernel_rfl, rfl⟩
def c47 : ACode :=
  .seq (.reg [⟨some 3, .box (.t 0), none⟩,
    ⟨some 4, .box (.t 1), none⟩,
    ⟨some 5, .box (.t 2), none⟩,
    ⟨some 6, .mv (.k .nilf), none⟩])
  (.seq (.reg [⟨some 7, .mkfn 90 [] [(.t 3), (.t 4), (.t 5)], none⟩,
    ⟨some 6, .mv (.t 7), none⟩])
  (.ret))
theorem b47 : Body Try.prog 47 c47 [.tmp 6] 8 := ⟨by kernel_rfl, _, _, Try.func47, rfl, by kernel_rfl, by kernel_rfl, rfl⟩
def c48 : ACode :=
  .seq (.reg [⟨some 4, .mv (.k (.int .i64 0)), none⟩,
    ⟨some 5, .mv (.k (.int .i64 0)), none⟩])
  (.seq (.reg [⟨some 9, .mv (.t 0), none⟩,
    ⟨some 10, .mv (.t 1), none⟩,
    ⟨some 11, .call (.k (.fn 91 [] [])) [(.t 9), (.t 10)], none⟩,
    ⟨some 8, .mv (.t 11), none⟩,
    ⟨some 12, .ext (.t 8) 0, none⟩,
    ⟨some 13, .ext (.t 8) 1, none⟩,
    ⟨some 6, .mv (.t 12), none⟩,
    ⟨some 7, .mv (.t 13), none⟩])
  (.seq (.seq (.reg [⟨some 14, .mv (.t 6), none⟩,
    ⟨some 15, .bin .lss (.t 14) (.k (.int .i64 0)), none⟩])
  (.cond (.t 15) (.seq (.reg [⟨some 4, .mv (.k (.int .i64 0)), none⟩,
      ⟨some 5, .mv (.k (.int .i64 4)), none⟩])
    (.ret))
    (.skip)))
  (.seq (.reg [⟨some 16, .mv (.t 0), none⟩,
    ⟨some 17, .nchk (.t 16), none⟩,
    ⟨some 18, .faddr 2 (.t 17), none⟩,
    ⟨some 19, .load false 1 (.t 18), none⟩,
    ⟨some 20, .mv (.t 1), none⟩,
    ⟨some 21, .iaddrS 1 (.t 19) (.t 20), none⟩,
    ⟨some 22, .load false 1 (.t 21), none⟩,
    ⟨some 4, .mv (.t 22), none⟩,
    ⟨some 5, .mv (.k (.int .i64 0)), none⟩])
  (.ret))))
theorem b48 : Body Try.prog 48 c48 [.tmp 4, .tmp 5] 23 := ⟨by kernel_rfl, _, _, Try.func48, rfl, by kernel_rfl, by kernel_rfl, rfl⟩
def c49 : ACode :=
  .seq (.reg [⟨some 4, .mv (.k (.int .i64 0)), none⟩,
    ⟨some 5, .mv (.k (.int .i64 0)), none⟩])
  (.seq (.reg [⟨some 10, .mv (.t 0), none⟩,
    ⟨some 11, .mv (.t 1), none⟩,
    ⟨some 12, .call (.k (.fn 91 [] [])) [(.t 10), (.t 11)], none⟩,
    ⟨some 9, .mv (.t 12), none⟩,
    ⟨some 13, .ext (.t 9) 0, none⟩,
    ⟨some 14, .ext (.t 9) 1, none⟩,
    ⟨some 6, .mv (.t 13), none⟩,
    ⟨some 7, .mv (.t 14), none⟩])
  (.seq (.seq (.reg [⟨some 15, .mv (.t 6), none⟩,
    ⟨some 16, .bin .lss (.t 15) (.k (.int .i64 0)), none⟩])
  (.cond (.t 16) (.seq (.reg [⟨some 4, .mv (.k (.int .i64 0)), none⟩,
      ⟨some 5, .mv (.k (.int .i64 4)), none⟩])
    (.ret))
    (.skip)))
  (.seq (.reg [⟨some 17, .mv (.t 0), none⟩,
    ⟨some 18, .mv (.t 6), none⟩,
    ⟨some 19, .mv (.t 7), none⟩,
    ⟨some 20, .call (.k (.fn 92 [] [])) [(.t 17), (.t 18), (.t 19)], none⟩])
  (.seq (.reg [⟨some 21, .mv (.t 0), none⟩,
    ⟨some 22, .nchk (.t 21), none⟩,
    ⟨some 23, .faddr 2 (.t 22), none⟩,
    ⟨some 24, .load false 1 (.t 23), none⟩,
    ⟨some 25, .mv (.t 1), none⟩,
    ⟨some 26, .iaddrS 1 (.t 24) (.t 25), none⟩,
    ⟨some 27, .load false 1 (.t 26), none⟩,
    ⟨some 8, .mv (.t 27), none⟩])
  (.seq (.reg [⟨some 28, .mv (.t 0), none⟩,
    ⟨some 29, .nchk (.t 28), none⟩,
    ⟨some 30, .faddr 2 (.t 29), none⟩,
    ⟨some 31, .load false 1 (.t 30), none⟩,
    ⟨some 32, .mv (.t 1), none⟩,
    ⟨some 33, .iaddrS 1 (.t 31) (.t 32), none⟩,
    ⟨none, .store 1 (.t 33) (.k (.int .i64 0)), none⟩])
  (.seq (.reg [⟨some 34, .mv (.t 8), none⟩,
    ⟨some 4, .mv (.t 34), none⟩,
    ⟨some 5, .mv (.k (.int .i64 0)), none⟩])
  (.ret)))))))
theorem b49 : Body Try.prog 49 c49 [.tmp 4, .tmp 5] 35 := ⟨by kernel_rfl, _, _, Try.func49, rfl, by kernel_rfl, by kernel_rfl, rfl⟩
def c50 : ACode :=
  .seq (.reg [⟨some 8, .mv (.k (.int .i64 0)), none⟩])
  (.seq (.seq (.reg [⟨some 11, .mv (.t 0), none⟩,
    ⟨some 12, .mv (.t 1), none⟩,
    ⟨some 13, .call (.k (.fn 53 [] [])) [(.t 11), (.t 12)], none⟩,
    ⟨some 9, .mv (.t 13), none⟩])
  (.seq (.reg [⟨some 14, .mv (.t 9), none⟩,
    ⟨some 15, .bin .neq (.t 14) (.k (.int .i64 0)), none⟩])
  (.cond (.t 15) (.seq (.reg [⟨some 16, .mv (.t 9), none⟩,
      ⟨some 8, .mv (.t 16), none⟩])
    (.ret))
    (.skip))))
  (.seq (.seq (.reg [⟨some 17, .mv (.t 0), none⟩,
    ⟨some 18, .mv (.t 2), none⟩,
    ⟨some 19, .call (.k (.fn 55 [] [])) [(.t 17), (.t 18)], none⟩,
    ⟨some 10, .mv (.t 19), none⟩])
  (.seq (.reg [⟨some 20, .mv (.t 10), none⟩,
    ⟨some 21, .bin .neq (.t 20) (.k (.int .i64 0)), none⟩])
  (.cond (.t 21) (.seq (.reg [⟨some 22, .mv (.t 10), none⟩,
      ⟨some 8, .mv (.t 22), none⟩])
    (.ret))
    (.skip))))
  (.seq (.reg [⟨some 23, .mv (.t 0), none⟩,
    ⟨some 24, .mv (.t 1), none⟩,
    ⟨some 25, .call (.k (.fn 54 [] [])) [(.t 23), (.t 24)], none⟩])
  (.seq (.reg [⟨some 26, .mv (.t 0), none⟩,
    ⟨some 27, .mv (.t 1), none⟩,
    ⟨some 28, .mv (.t 2), none⟩,
    ⟨some 29, .mv (.t 3), none⟩,
    ⟨some 30, .call (.k (.fn 57 [] [])) [(.t 26), (.t 27), (.t 28), (.t 29)], none⟩])
  (.seq (.reg [⟨some 8, .mv (.k (.int .i64 0)), none⟩])
  (.ret))))))
theorem b50 : Body Try.prog 50 c50 [.tmp 8] 31 := ⟨by kernel_rfl, _, _, Try.func50, rfl, by kernel_rfl, by kernel_rfl, rfl⟩
def c51 : ACode :=
  .seq (.reg [⟨some 8, .mv (.k (.int .i64 0)), none⟩])
  (.seq (.reg [⟨some 12, .mv (.t 0), none⟩,
    ⟨some 13, .mv (.t 1), none⟩,
    ⟨some 14, .call (.k (.fn 91 [] [])) [(.t 12), (.t 13)], none⟩,
    ⟨some 11, .mv (.t 14), none⟩,
    ⟨some 15, .ext (.t 11) 0, none⟩,
    ⟨some 16, .ext (.t 11) 1, none⟩,
    ⟨some 9, .mv (.t 15), none⟩,
    ⟨some 10, .mv (.t 16), none⟩])
  (.seq (.seq (.reg [⟨some 17, .mv (.t 9), none⟩,
    ⟨some 18, .bin .lss (.t 17) (.k (.int .i64 0)), none⟩])
  (.cond (.t 18) (.seq (.reg [⟨some 8, .mv (.k (.int .i64 4)), none⟩])
    (.ret))
    (.skip)))
  (.seq (.seq (.reg [⟨some 19, .mv (.t 2), none⟩,
    ⟨some 20, .bin .lss (.t 19) (.k (.int .i64 0)), none⟩,
    ⟨some 21, .mv (.t 20), none⟩,
    ⟨some 22, .mv (.t 2), some (21, false)⟩,
    ⟨some 23, .mv (.t 0), some (21, false)⟩,
    ⟨some 24, .nchk (.t 23), some (21, false)⟩,
    ⟨some 25, .faddr 1 (.t 24), some (21, false)⟩,
    ⟨some 26, .load false 1 (.t 25), some (21, false)⟩,
    ⟨some 27, .len (.t 26), some (21, false)⟩,
    ⟨some 28, .bin .geq (.t 22) (.t 27), some (21, false)⟩,
    ⟨some 29, .pick (.t 21) (.k (.bool true)) (.t 28), none⟩])
  (.cond (.t 29) (.seq (.reg [⟨some 8, .mv (.k (.int .i64 7)), none⟩])
    (.ret))
    (.skip)))
  (.seq (.reg [⟨some 30, .mv (.t 0), none⟩,
    ⟨some 31, .mv (.t 9), none⟩,
    ⟨some 32, .mv (.t 10), none⟩,
    ⟨some 33, .call (.k (.fn 92 [] [])) [(.t 30), (.t 31), (.t 32)], none⟩])
  (.seq (.reg [⟨some 34, .mv (.t 0), none⟩,
    ⟨some 35, .mv (.t 2), none⟩,
    ⟨some 36, .mv (.t 0), none⟩,
    ⟨some 37, .mv (.t 2), none⟩,
    ⟨some 38, .mv (.t 3), none⟩,
    ⟨some 39, .call (.k (.fn 94 [] [])) [(.t 36), (.t 37), (.t 38)], none⟩,
    ⟨some 40, .mv (.t 1), none⟩,
    ⟨some 41, .call (.k (.fn 93 [] [])) [(.t 34), (.t 35), (.t 39), (.t 40)], none⟩])
  (.seq (.reg [⟨some 8, .mv (.k (.int .i64 0)), none⟩])
  (.ret)))))))
theorem b51 : Body Try.prog 51 c51 [.tmp 8] 42 := ⟨by kernel_rfl, _, _, Try.func51, rfl, by kernel_rfl, by kernel_rfl, rfl⟩
def c52 : ACode :=
  .seq (.reg [⟨some 4, .mv (.k .nilp), none⟩])
  (.seq (.regD [⟨some 7, .mv (.t 0), none⟩,
    ⟨some 8, .nchk (.t 7), none⟩,
    ⟨some 9, .faddr 1 (.t 8), none⟩,
    ⟨some 10, .load false 1 (.t 9), none⟩,
    ⟨some 11, .mv (.t 0), none⟩,
    ⟨some 12, .nchk (.t 11), none⟩,
    ⟨some 13, .faddr 2 (.t 12), none⟩,
    ⟨some 14, .load false 1 (.t 13), none⟩,
    ⟨some 15, .mv (.t 0), none⟩,
    ⟨some 16, .nchk (.t 15), none⟩,
    ⟨some 17, .faddr 3 (.t 16), none⟩,
    ⟨some 18, .load false 1 (.t 17), none⟩,
    ⟨some 19, .mv (.t 0), none⟩,
    ⟨some 20, .nchk (.t 19), none⟩,
    ⟨some 21, .faddr 4 (.t 20), none⟩,
    ⟨some 22, .load false 1 (.t 21), none⟩,
    ⟨some 23, .mv (.t 0), none⟩,
    ⟨some 24, .nchk (.t 23), none⟩,
    ⟨some 25, .faddr 5 (.t 24), none⟩,
    ⟨some 26, .load false 1 (.t 25), none⟩,
    ⟨some 27, .bslice 1 5 [.nils, .nils, .nils, .nils, .nils] [(0, 1, (.t 10)), (1, 1, (.t 14)), (2, 1, (.t 18)), (3, 1, (.t 22)), (4, 1, (.t 26))], none⟩,
    ⟨some 5, .mv (.t 27), none⟩] [[], [0], [1], [2], [], [4], [5], [6], [], [8], [9], [10], [], [12], [13], [14], [], [16], [17], [18], [3, 7, 11, 15, 19], [20, 0, 1, 2, 3, 4, 5, 6, 7, 8, 9, 10, 11, 12, 13, 14, 15, 16, 17, 18, 19, 20]])
  (.seq (.seq (.reg [⟨some 6, .mv (.k (.int .i64 0)), none⟩])
  (.block 0 (.loop (.seq (.seq (.reg [⟨some 28, .mv (.t 6), none⟩,
      ⟨some 29, .mv (.t 5), none⟩,
      ⟨some 30, .len (.t 29), none⟩,
      ⟨some 31, .bin .lss (.t 28) (.t 30), none⟩])
    (.cond (.t 31) (.skip)
      (.exit 0)))
    (.seq (.block 1 (.seq (.seq (.reg [⟨some 34, .mv (.t 1), none⟩,
       ⟨some 35, .mv (.t 5), none⟩,
       ⟨some 36, .mv (.t 6), none⟩,
       ⟨some 37, .iaddrS 1 (.t 35) (.t 36), none⟩,
       ⟨some 38, .load false 1 (.t 37), none⟩,
       ⟨some 39, .len (.t 38), none⟩,
       ⟨some 40, .bin .lss (.t 34) (.t 39), none⟩])
     (.cond (.t 40) (.seq (.reg [⟨some 41, .mv (.t 5), none⟩,
         ⟨some 42, .mv (.t 6), none⟩,
         ⟨some 43, .iaddrS 1 (.t 41) (.t 42), none⟩,
         ⟨some 44, .load false 1 (.t 43), none⟩,
         ⟨some 45, .mv (.t 1), none⟩,
         ⟨some 46, .iaddrS 1 (.t 44) (.t 45), none⟩,
         ⟨some 4, .mv (.t 46), none⟩])
       (.ret))
       (.skip)))
     (.reg [⟨some 47, .mv (.t 1), none⟩,
       ⟨some 48, .mv (.t 5), none⟩,
       ⟨some 49, .mv (.t 6), none⟩,
       ⟨some 50, .iaddrS 1 (.t 48) (.t 49), none⟩,
       ⟨some 51, .load false 1 (.t 50), none⟩,
       ⟨some 52, .len (.t 51), none⟩,
       ⟨some 53, .bin .sub (.t 47) (.t 52), none⟩,
       ⟨some 1, .mv (.t 53), none⟩])))
    (.reg [⟨some 32, .mv (.t 6), none⟩,
      ⟨some 33, .bin .add (.t 32) (.k (.int .i64 1)), none⟩,
      ⟨some 6, .mv (.t 33), none⟩]))))))
  (.seq (.reg [⟨some 4, .mv (.k .nilp), none⟩])
  (.ret))))
theorem b52 : Body Try.prog 52 c52 [.tmp 4] 54 := ⟨by kernel_rfl, _, _, Try.func52, rfl, by kernel_rfl, by kernel_rfl, rfl⟩
def c53 : ACode :=
  .seq (.reg [⟨some 4, .mv (.k (.int .i64 0)), none⟩])
  (.seq (.block 0 (.seq (.reg [⟨some 6, .mv (.t 0), none⟩,
     ⟨some 7, .call (.k (.fn 64 [] [])) [(.t 6)], none⟩,
     ⟨some 8, .un .not (.t 7), none⟩,
     ⟨some 5, .mv (.t 8), none⟩])
   (.cond (.t 5) (.seq (.reg [⟨some 4, .mv (.k (.int .i64 1)), none⟩])
     (.ret))
     (.seq (.reg [⟨some 10, .mv (.t 1), none⟩,
       ⟨some 11, .bin .lss (.t 10) (.k (.int .i64 0)), none⟩,
       ⟨some 12, .mv (.t 11), none⟩,
       ⟨some 13, .mv (.t 1), some (12, false)⟩,
       ⟨some 14, .mv (.t 0), some (12, false)⟩,
       ⟨some 15, .nchk (.t 14), some (12, false)⟩,
       ⟨some 16, .faddr 0 (.t 15), some (12, false)⟩,
       ⟨some 17, .load false 1 (.t 16), some (12, false)⟩,
       ⟨some 18, .len (.t 17), some (12, false)⟩,
       ⟨some 19, .bin .geq (.t 13) (.t 18), some (12, false)⟩,
       ⟨some 20, .pick (.t 12) (.k (.bool true)) (.t 19), none⟩,
       ⟨some 21, .mv (.t 20), none⟩,
       ⟨some 22, .mv (.t 0), some (21, false)⟩,
       ⟨some 23, .nchk (.t 22), some (21, false)⟩,
       ⟨some 24, .faddr 0 (.t 23), some (21, false)⟩,
       ⟨some 25, .load false 1 (.t 24), some (21, false)⟩,
       ⟨some 26, .mv (.t 1), some (21, false)⟩,
       ⟨some 27, .iaddrS 4 (.t 25) (.t 26), some (21, false)⟩,
       ⟨some 28, .faddr 1 (.t 27), some (21, false)⟩,
       ⟨some 29, .load false 1 (.t 28), some (21, false)⟩,
       ⟨some 30, .bin .eql (.t 29) (.k (.int .i64 (-1))), some (21, false)⟩,
       ⟨some 31, .pick (.t 21) (.k (.bool true)) (.t 30), none⟩,
       ⟨some 9, .mv (.t 31), none⟩])
     (.cond (.t 9) (.seq (.reg [⟨some 4, .mv (.k (.int .i64 4)), none⟩])
       (.ret))
       (.skip))))))
  (.seq (.reg [⟨some 4, .mv (.k (.int .i64 0)), none⟩])
  (.ret)))
theorem b53 : Body Try.prog 53 c53 [.tmp 4] 32 := ⟨by kernel_rfl, _, _, Try.func53, rfl, by kernel_rfl, by kernel_rfl, rfl⟩
def c54 : ACode :=
  .seq (.reg [⟨some 6, .mv (.t 0), none⟩,
    ⟨some 7, .nchk (.t 6), none⟩,
    ⟨some 8, .faddr 0 (.t 7), none⟩,
    ⟨some 9, .load false 1 (.t 8), none⟩,
    ⟨some 10, .mv (.t 1), none⟩,
    ⟨some 11, .iaddrS 4 (.t 9) (.t 10), none⟩,
    ⟨some 4, .mv (.t 11), none⟩])
  (.seq (.regD [⟨some 12, .mv (.t 0), none⟩,
    ⟨some 13, .nchk (.t 12), none⟩,
    ⟨some 14, .faddr 1 (.t 13), none⟩,
    ⟨some 15, .load false 1 (.t 14), none⟩,
    ⟨some 16, .mv (.t 4), none⟩,
    ⟨some 17, .nchk (.t 16), none⟩,
    ⟨some 18, .faddr 1 (.t 17), none⟩,
    ⟨some 19, .load false 1 (.t 18), none⟩,
    ⟨some 20, .iaddrS 3 (.t 15) (.t 19), none⟩,
    ⟨some 5, .mv (.t 20), none⟩] [[], [0], [1], [2], [], [4], [5], [6], [3, 7], [8, 0, 1, 2, 3, 4, 5, 6, 7, 8]])
  (.seq (.seq (.reg [⟨some 21, .mv (.t 4), none⟩,
    ⟨some 22, .nchk (.t 21), none⟩,
    ⟨some 23, .faddr 3 (.t 22), none⟩,
    ⟨some 24, .load false 1 (.t 23), none⟩,
    ⟨some 25, .bin .eql (.t 24) (.k (.int .i64 (-1))), none⟩])
  (.cond (.t 25) (.reg [⟨some 26, .mv (.t 5), none⟩,
      ⟨some 27, .mv (.t 4), none⟩,
      ⟨some 28, .nchk (.t 27), none⟩,
      ⟨some 29, .faddr 2 (.t 28), none⟩,
      ⟨some 30, .load false 1 (.t 29), none⟩,
      ⟨some 31, .nchk (.t 26), none⟩,
      ⟨some 32, .faddr 0 (.t 31), none⟩,
      ⟨none, .store 1 (.t 32) (.t 30), none⟩])
    (.regD [⟨some 33, .mv (.t 0), none⟩,
      ⟨some 34, .nchk (.t 33), none⟩,
      ⟨some 35, .faddr 0 (.t 34), none⟩,
      ⟨some 36, .load false 1 (.t 35), none⟩,
      ⟨some 37, .mv (.t 4), none⟩,
      ⟨some 38, .nchk (.t 37), none⟩,
      ⟨some 39, .faddr 3 (.t 38), none⟩,
      ⟨some 40, .load false 1 (.t 39), none⟩,
      ⟨some 41, .mv (.t 4), none⟩,
      ⟨some 42, .nchk (.t 41), none⟩,
      ⟨some 43, .faddr 2 (.t 42), none⟩,
      ⟨some 44, .load false 1 (.t 43), none⟩,
      ⟨some 45, .iaddrS 4 (.t 36) (.t 40), none⟩,
      ⟨some 46, .faddr 2 (.t 45), none⟩,
      ⟨none, .store 1 (.t 46) (.t 44), none⟩] [[], [0], [1], [2], [], [4], [5], [6], [], [8], [9], [10], [3, 7, 0, 1, 2, 3, 4, 5, 6, 7, 8, 9, 10, 11], [12, 0, 1, 2, 3, 4, 5, 6, 7, 8, 9, 10, 11], [13, 11, 0, 1, 2, 3, 4, 5, 6, 7, 8, 9, 10, 11]])))
  (.seq (.seq (.reg [⟨some 47, .mv (.t 4), none⟩,
    ⟨some 48, .nchk (.t 47), none⟩,
    ⟨some 49, .faddr 2 (.t 48), none⟩,
    ⟨some 50, .load false 1 (.t 49), none⟩,
    ⟨some 51, .bin .eql (.t 50) (.k (.int .i64 (-1))), none⟩])
  (.cond (.t 51) (.reg [⟨some 52, .mv (.t 5), none⟩,
      ⟨some 53, .mv (.t 4), none⟩,
      ⟨some 54, .nchk (.t 53), none⟩,
      ⟨some 55, .faddr 3 (.t 54), none⟩,
      ⟨some 56, .load false 1 (.t 55), none⟩,
      ⟨some 57, .nchk (.t 52), none⟩,
      ⟨some 58, .faddr 1 (.t 57), none⟩,
      ⟨none, .store 1 (.t 58) (.t 56), none⟩])
    (.regD [⟨some 59, .mv (.t 0), none⟩,
      ⟨some 60, .nchk (.t 59), none⟩,
      ⟨some 61, .faddr 0 (.t 60), none⟩,
      ⟨some 62, .load false 1 (.t 61), none⟩,
      ⟨some 63, .mv (.t 4), none⟩,
      ⟨some 64, .nchk (.t 63), none⟩,
      ⟨some 65, .faddr 2 (.t 64), none⟩,
      ⟨some 66, .load false 1 (.t 65), none⟩,
      ⟨some 67, .mv (.t 4), none⟩,
      ⟨some 68, .nchk (.t 67), none⟩,
      ⟨some 69, .faddr 3 (.t 68), none⟩,
      ⟨some 70, .load false 1 (.t 69), none⟩,
      ⟨some 71, .iaddrS 4 (.t 62) (.t 66), none⟩,
      ⟨some 72, .faddr 3 (.t 71), none⟩,
      ⟨none, .store 1 (.t 72) (.t 70), none⟩] [[], [0], [1], [2], [], [4], [5], [6], [], [8], [9], [10], [3, 7, 0, 1, 2, 3, 4, 5, 6, 7, 8, 9, 10, 11], [12, 0, 1, 2, 3, 4, 5, 6, 7, 8, 9, 10, 11], [13, 11, 0, 1, 2, 3, 4, 5, 6, 7, 8, 9, 10, 11]])))
  (.seq (.reg [⟨some 73, .mv (.t 5), none⟩,
    ⟨some 74, .nchk (.t 73), none⟩,
    ⟨some 75, .faddr 2 (.t 74), none⟩,
    ⟨some 76, .load false 1 (.t 75), none⟩,
    ⟨some 77, .bin .sub (.t 76) (.k (.int .i64 1)), none⟩,
    ⟨some 78, .nchk (.t 73), none⟩,
    ⟨some 79, .faddr 2 (.t 78), none⟩,
    ⟨none, .store 1 (.t 79) (.t 77), none⟩])
  (.reg [⟨some 80, .mv (.t 4), none⟩,
    ⟨some 81, .mv (.t 4), none⟩,
    ⟨some 82, .mv (.t 4), none⟩,
    ⟨some 83, .nchk (.t 80), none⟩,
    ⟨some 84, .faddr 1 (.t 83), none⟩,
    ⟨none, .store 1 (.t 84) (.k (.int .i64 (-1))), none⟩,
    ⟨some 85, .nchk (.t 81), none⟩,
    ⟨some 86, .faddr 3 (.t 85), none⟩,
    ⟨none, .store 1 (.t 86) (.k (.int .i64 (-1))), none⟩,
    ⟨some 87, .nchk (.t 82), none⟩,
    ⟨some 88, .faddr 2 (.t 87), none⟩,
    ⟨none, .store 1 (.t 88) (.k (.int .i64 (-1))), none⟩])))))
theorem b54 : Body Try.prog 54 c54 [] 89 := ⟨by kernel_rfl, _, _, Try.func54, rfl, by kernel_rfl, by kernel_rfl, rfl⟩
def c55 : ACode :=
  .seq (.reg [⟨some 4, .mv (.k (.int .i64 0)), none⟩])
  (.seq (.block 0 (.seq (.reg [⟨some 6, .mv (.t 0), none⟩,
     ⟨some 7, .call (.k (.fn 64 [] [])) [(.t 6)], none⟩,
     ⟨some 8, .un .not (.t 7), none⟩,
     ⟨some 5, .mv (.t 8), none⟩])
   (.cond (.t 5) (.seq (.reg [⟨some 4, .mv (.k (.int .i64 1)), none⟩])
     (.ret))
     (.seq (.reg [⟨some 10, .mv (.t 1), none⟩,
       ⟨some 11, .bin .lss (.t 10) (.k (.int .i64 0)), none⟩,
       ⟨some 12, .mv (.t 11), none⟩,
       ⟨some 13, .mv (.t 1), some (12, false)⟩,
       ⟨some 14, .mv (.t 0), some (12, false)⟩,
       ⟨some 15, .nchk (.t 14), some (12, false)⟩,
       ⟨some 16, .faddr 1 (.t 15), some (12, false)⟩,
       ⟨some 17, .load false 1 (.t 16), some (12, false)⟩,
       ⟨some 18, .len (.t 17), some (12, false)⟩,
       ⟨some 19, .bin .geq (.t 13) (.t 18), some (12, false)⟩,
       ⟨some 20, .pick (.t 12) (.k (.bool true)) (.t 19), none⟩,
       ⟨some 9, .mv (.t 20), none⟩])
     (.cond (.t 9) (.seq (.reg [⟨some 4, .mv (.k (.int .i64 7)), none⟩])
       (.ret))
       (.skip))))))
  (.seq (.reg [⟨some 4, .mv (.k (.int .i64 0)), none⟩])
  (.ret)))
theorem b55 : Body Try.prog 55 c55 [.tmp 4] 21 := ⟨by kernel_rfl, _, _, Try.func55, rfl, by kernel_rfl, by kernel_rfl, rfl⟩
def c56 : ACode :=
  .seq (.reg [⟨some 2, .mv (.k (.int .i64 0)), none⟩])
  (.seq (.block 0 (.loop (.seq (.seq (.regD [⟨some 3, .mv (.t 0), none⟩,
      ⟨some 4, .nchk (.t 3), none⟩,
      ⟨some 5, .faddr 2 (.t 4), none⟩,
      ⟨some 6, .load false 1 (.t 5), none⟩,
      ⟨some 7, .mv (.t 0), none⟩,
      ⟨some 8, .nchk (.t 7), none⟩,
      ⟨some 9, .faddr 0 (.t 8), none⟩,
      ⟨some 10, .load false 1 (.t 9), none⟩,
      ⟨some 11, .len (.t 10), none⟩,
      ⟨some 12, .bin .lss (.t 6) (.t 11), none⟩] [[], [0], [1], [2], [], [4], [5], [6], [7], [3, 8]])
    (.cond (.t 12) (.skip)
      (.exit 0)))
    (.seq (.block 1 (.seq (.regD [⟨some 20, .mv (.t 0), none⟩,
       ⟨some 21, .nchk (.t 20), none⟩,
       ⟨some 22, .faddr 0 (.t 21), none⟩,
       ⟨some 23, .load false 1 (.t 22), none⟩,
       ⟨some 24, .mv (.t 0), none⟩,
       ⟨some 25, .nchk (.t 24), none⟩,
       ⟨some 26, .faddr 2 (.t 25), none⟩,
       ⟨some 27, .load false 1 (.t 26), none⟩,
       ⟨some 28, .iaddrS 4 (.t 23) (.t 27), none⟩,
       ⟨some 29, .faddr 1 (.t 28), none⟩,
       ⟨some 30, .load false 1 (.t 29), none⟩,
       ⟨some 31, .bin .eql (.t 30) (.k (.int .i64 (-1))), none⟩] [[], [0], [1], [2], [], [4], [5], [6], [3, 7], [8], [9], [10]])
     (.cond (.t 31) (.seq (.reg [⟨some 32, .mv (.t 0), none⟩,
         ⟨some 33, .nchk (.t 32), none⟩,
         ⟨some 34, .faddr 2 (.t 33), none⟩,
         ⟨some 35, .load false 1 (.t 34), none⟩,
         ⟨some 2, .mv (.t 35), none⟩])
       (.ret))
       (.skip))))
    (.reg [⟨some 13, .mv (.t 0), none⟩,
      ⟨some 14, .nchk (.t 13), none⟩,
      ⟨some 15, .faddr 2 (.t 14), none⟩,
      ⟨some 16, .load false 1 (.t 15), none⟩,
      ⟨some 17, .bin .add (.t 16) (.k (.int .i64 1)), none⟩,
      ⟨some 18, .nchk (.t 13), none⟩,
      ⟨some 19, .faddr 2 (.t 18), none⟩,
      ⟨none, .store 1 (.t 19) (.t 17), none⟩])))))
  (.seq (.reg [⟨some 2, .mv (.k (.int .i64 (-1))), none⟩])
  (.ret)))
theorem b56 : Body Try.prog 56 c56 [.tmp 2] 36 := ⟨by kernel_rfl, _, _, Try.func56, rfl, by kernel_rfl, by kernel_rfl, rfl⟩
def c57 : ACode :=
  .seq (.reg [⟨some 8, .mv (.t 3), none⟩])
  (.cond (.t 8) (.reg [⟨some 9, .mv (.t 0), none⟩,
      ⟨some 10, .mv (.t 1), none⟩,
      ⟨some 11, .mv (.t 2), none⟩,
      ⟨some 12, .mv (.t 0), none⟩,
      ⟨some 13, .nchk (.t 12), none⟩,
      ⟨some 14, .faddr 1 (.t 13), none⟩,
      ⟨some 15, .load false 1 (.t 14), none⟩,
      ⟨some 16, .mv (.t 2), none⟩,
      ⟨some 17, .iaddrS 3 (.t 15) (.t 16), none⟩,
      ⟨some 18, .faddr 0 (.t 17), none⟩,
      ⟨some 19, .load false 1 (.t 18), none⟩,
      ⟨some 20, .call (.k (.fn 81 [] [])) [(.t 9), (.t 10), (.t 11), (.k (.int .i64 (-1))), (.t 19)], none⟩])
    (.reg [⟨some 21, .mv (.t 0), none⟩,
      ⟨some 22, .mv (.t 1), none⟩,
      ⟨some 23, .mv (.t 2), none⟩,
      ⟨some 24, .mv (.t 0), none⟩,
      ⟨some 25, .nchk (.t 24), none⟩,
      ⟨some 26, .faddr 1 (.t 25), none⟩,
      ⟨some 27, .load false 1 (.t 26), none⟩,
      ⟨some 28, .mv (.t 2), none⟩,
      ⟨some 29, .iaddrS 3 (.t 27) (.t 28), none⟩,
      ⟨some 30, .faddr 1 (.t 29), none⟩,
      ⟨some 31, .load false 1 (.t 30), none⟩,
      ⟨some 32, .call (.k (.fn 81 [] [])) [(.t 21), (.t 22), (.t 23), (.t 31), (.k (.int .i64 (-1)))], none⟩]))
theorem b57 : Body Try.prog 57 c57 [] 33 := ⟨by kernel_rfl, _, _, Try.func57, rfl, by kernel_rfl, by kernel_rfl, rfl⟩
def c58 : ACode :=
  .seq (.reg [⟨some 6, .mv (.k (.int .i64 0)), none⟩])
  (.seq (.seq (.reg [⟨some 7, .mv (.t 2), none⟩])
  (.cond (.t 7) (.seq (.reg [⟨some 8, .mv (.t 0), none⟩,
      ⟨some 9, .nchk (.t 8), none⟩,
      ⟨some 10, .faddr 0 (.t 9), none⟩,
      ⟨some 11, .load false 1 (.t 10), none⟩,
      ⟨some 12, .mv (.t 1), none⟩,
      ⟨some 13, .iaddrS 4 (.t 11) (.t 12), none⟩,
      ⟨some 14, .faddr 3 (.t 13), none⟩,
      ⟨some 15, .load false 1 (.t 14), none⟩,
      ⟨some 6, .mv (.t 15), none⟩])
    (.ret))
    (.skip)))
  (.seq (.reg [⟨some 16, .mv (.t 0), none⟩,
    ⟨some 17, .nchk (.t 16), none⟩,
    ⟨some 18, .faddr 0 (.t 17), none⟩,
    ⟨some 19, .load false 1 (.t 18), none⟩,
    ⟨some 20, .mv (.t 1), none⟩,
    ⟨some 21, .iaddrS 4 (.t 19) (.t 20), none⟩,
    ⟨some 22, .faddr 2 (.t 21), none⟩,
    ⟨some 23, .load false 1 (.t 22), none⟩,
    ⟨some 6, .mv (.t 23), none⟩])
  (.ret)))
theorem b58 : Body Try.prog 58 c58 [.tmp 6] 24 := ⟨by kernel_rfl, _, _, Try.func58, rfl, by kernel_rfl, by kernel_rfl, rfl⟩
def c59 : ACode :=
  .seq (.reg [⟨some 2, .mv (.k (.bool false)), none⟩])
  (.seq (.regD [⟨some 5, .mv (.t 0), none⟩,
    ⟨some 6, .nchk (.t 5), none⟩,
    ⟨some 7, .faddr 1 (.t 6), none⟩,
    ⟨some 8, .load false 1 (.t 7), none⟩,
    ⟨some 9, .len (.t 8), none⟩,
    ⟨some 10, .mv (.t 0), none⟩,
    ⟨some 11, .nchk (.t 10), none⟩,
    ⟨some 12, .faddr 4 (.t 11), none⟩,
    ⟨some 13, .load false 1 (.t 12), none⟩,
    ⟨some 14, .len (.t 13), none⟩,
    ⟨some 3, .mv (.t 9), none⟩,
    ⟨some 4, .mv (.t 14), none⟩] [[], [0], [1], [2], [3], [], [5], [6], [7], [8], [4, 0, 1, 2, 3, 4], [9, 10, 0, 1, 2, 3, 4, 5, 6, 7, 8, 9, 10]])
  (.seq (.seq (.reg [⟨some 15, .mv (.t 3), none⟩,
    ⟨some 16, .bin .lss (.t 15) (.k (.int .i64 1)), none⟩,
    ⟨some 17, .mv (.t 16), none⟩,
    ⟨some 18, .mv (.t 3), some (17, false)⟩,
    ⟨some 19, .bin .gtr (.t 18) (.k (.int .i64 2000)), some (17, false)⟩,
    ⟨some 20, .pick (.t 17) (.k (.bool true)) (.t 19), none⟩,
    ⟨some 21, .mv (.t 20), none⟩,
    ⟨some 22, .mv (.t 4), some (21, false)⟩,
    ⟨some 23, .bin .lss (.t 22) (.k (.int .i64 1)), some (21, false)⟩,
    ⟨some 24, .pick (.t 21) (.k (.bool true)) (.t 23), none⟩,
    ⟨some 25, .mv (.t 24), none⟩,
    ⟨some 26, .mv (.t 4), some (25, false)⟩,
    ⟨some 27, .bin .gtr (.t 26) (.k (.int .i64 64)), some (25, false)⟩,
    ⟨some 28, .pick (.t 25) (.k (.bool true)) (.t 27), none⟩])
  (.cond (.t 28) (.seq (.reg [⟨some 2, .mv (.k (.bool false)), none⟩])
    (.ret))
    (.skip)))
  (.seq (.reg [⟨some 29, .mv (.t 0), none⟩,
    ⟨some 30, .nchk (.t 29), none⟩,
    ⟨some 31, .faddr 0 (.t 30), none⟩,
    ⟨some 32, .load false 1 (.t 31), none⟩,
    ⟨some 33, .len (.t 32), none⟩,
    ⟨some 34, .mv (.t 3), none⟩,
    ⟨some 35, .bin .eql (.t 33) (.t 34), none⟩,
    ⟨some 36, .mv (.t 35), none⟩,
    ⟨some 37, .mv (.t 0), some (36, true)⟩,
    ⟨some 38, .nchk (.t 37), some (36, true)⟩,
    ⟨some 39, .faddr 2 (.t 38), some (36, true)⟩,
    ⟨some 40, .load false 1 (.t 39), some (36, true)⟩,
    ⟨some 41, .len (.t 40), some (36, true)⟩,
    ⟨some 42, .mv (.t 3), some (36, true)⟩,
    ⟨some 43, .bin .eql (.t 41) (.t 42), some (36, true)⟩,
    ⟨some 44, .pick (.t 36) (.t 43) (.k (.bool false)), none⟩,
    ⟨some 45, .mv (.t 44), none⟩,
    ⟨some 46, .mv (.t 0), some (45, true)⟩,
    ⟨some 47, .nchk (.t 46), some (45, true)⟩,
    ⟨some 48, .faddr 3 (.t 47), some (45, true)⟩,
    ⟨some 49, .load false 1 (.t 48), some (45, true)⟩,
    ⟨some 50, .len (.t 49), some (45, true)⟩,
    ⟨some 51, .mv (.t 3), some (45, true)⟩,
    ⟨some 52, .bin .eql (.t 50) (.t 51), some (45, true)⟩,
    ⟨some 53, .pick (.t 45) (.t 52) (.k (.bool false)), none⟩,
    ⟨some 54, .mv (.t 53), none⟩,
    ⟨some 55, .mv (.t 0), some (54, true)⟩,
    ⟨some 56, .nchk (.t 55), some (54, true)⟩,
    ⟨some 57, .faddr 5 (.t 56), some (54, true)⟩,
    ⟨some 58, .load false 1 (.t 57), some (54, true)⟩,
    ⟨some 59, .len (.t 58), some (54, true)⟩,
    ⟨some 60, .mv (.t 4), some (54, true)⟩,
    ⟨some 61, .bin .eql (.t 59) (.t 60), some (54, true)⟩,
    ⟨some 62, .pick (.t 54) (.t 61) (.k (.bool false)), none⟩,
    ⟨some 2, .mv (.t 62), none⟩])
  (.ret))))
theorem b59 : Body Try.prog 59 c59 [.tmp 2] 63 := ⟨by kernel_rfl, _, _, Try.func59, rfl, by kernel_rfl, by kernel_rfl, rfl⟩
def c60 : ACode :=
  .seq (.reg [⟨some 4, .mv (.k (.bool false)), none⟩])
  (.seq (.reg [⟨some 8, .mv (.t 0), none⟩,
    ⟨some 9, .nchk (.t 8), none⟩,
    ⟨some 10, .faddr 1 (.t 9), none⟩,
    ⟨some 11, .load false 1 (.t 10), none⟩,
    ⟨some 12, .len (.t 11), none⟩,
    ⟨some 5, .mv (.t 12), none⟩])
  (.seq (.seq (.regD [⟨some 13, .mv (.t 0), none⟩,
    ⟨some 14, .nchk (.t 13), none⟩,
    ⟨some 15, .faddr 2 (.t 14), none⟩,
    ⟨some 16, .load false 1 (.t 15), none⟩,
    ⟨some 17, .mv (.t 1), none⟩,
    ⟨some 18, .iaddrS 1 (.t 16) (.t 17), none⟩,
    ⟨some 19, .load false 1 (.t 18), none⟩,
    ⟨some 20, .mv (.t 0), none⟩,
    ⟨some 21, .nchk (.t 20), none⟩,
    ⟨some 22, .faddr 3 (.t 21), none⟩,
    ⟨some 23, .load false 1 (.t 22), none⟩,
    ⟨some 24, .mv (.t 1), none⟩,
    ⟨some 25, .iaddrS 1 (.t 23) (.t 24), none⟩,
    ⟨some 26, .load false 1 (.t 25), none⟩,
    ⟨some 27, .bslice 1 2 [(.int .i64 0), (.int .i64 0)] [(0, 1, (.t 19)), (1, 1, (.t 26))], none⟩,
    ⟨some 28, .len (.t 27), none⟩,
    ⟨some 29, .mv (.k (.int .i64 0)), none⟩] [[], [0], [1], [2], [], [3, 4], [5], [], [7], [8], [9], [], [10, 11], [12], [6, 13], [14], []])
  (.block 0 (.loop (.seq (.reg [⟨some 30, .bin .lss (.t 29) (.t 28), none⟩])
    (.seq (.cond (.t 30) (.skip)
      (.exit 0))
    (.seq (.block 1 (.seq (.reg [⟨some 31, .iaddrS 1 (.t 27) (.t 29), none⟩,
       ⟨some 32, .load false 1 (.t 31), none⟩,
       ⟨some 7, .mv (.t 32), none⟩])
     (.seq (.reg [⟨some 33, .mv (.t 7), none⟩,
       ⟨some 34, .bin .lss (.t 33) (.k (.int .i64 (-1))), none⟩,
       ⟨some 35, .mv (.t 34), none⟩,
       ⟨some 36, .mv (.t 7), some (35, false)⟩,
       ⟨some 37, .mv (.t 5), some (35, false)⟩,
       ⟨some 38, .bin .geq (.t 36) (.t 37), some (35, false)⟩,
       ⟨some 39, .pick (.t 35) (.k (.bool true)) (.t 38), none⟩,
       ⟨some 40, .mv (.t 39), none⟩,
       ⟨some 41, .mv (.t 0), some (40, false)⟩,
       ⟨some 42, .nchk (.t 41), some (40, false)⟩,
       ⟨some 43, .faddr 1 (.t 42), some (40, false)⟩,
       ⟨some 44, .load false 1 (.t 43), some (40, false)⟩,
       ⟨some 45, .mv (.t 1), some (40, false)⟩,
       ⟨some 46, .iaddrS 1 (.t 44) (.t 45), some (40, false)⟩,
       ⟨some 47, .load false 1 (.t 46), some (40, false)⟩,
       ⟨some 48, .bin .eql (.t 47) (.k (.int .i64 (-1))), some (40, false)⟩,
       ⟨some 49, .mv (.t 48), some (40, false)⟩,
       ⟨some 50, .mv (.t 7), some (49, true)⟩,
       ⟨some 51, .bin .neq (.t 50) (.k (.int .i64 (-1))), some (49, true)⟩,
       ⟨some 52, .pick (.t 49) (.t 51) (.k (.bool false)), some (40, false)⟩,
       ⟨some 53, .pick (.t 40) (.k (.bool true)) (.t 52), none⟩])
     (.cond (.t 53) (.seq (.reg [⟨some 4, .mv (.k (.bool true)), none⟩])
       (.ret))
       (.skip)))))
    (.reg [⟨some 54, .bin .add (.t 29) (.k (.int .i64 1)), none⟩,
      ⟨some 29, .mv (.t 54), none⟩])))))))
  (.seq (.regD [⟨some 55, .mv (.t 0), none⟩,
    ⟨some 56, .nchk (.t 55), none⟩,
    ⟨some 57, .faddr 1 (.t 56), none⟩,
    ⟨some 58, .load false 1 (.t 57), none⟩,
    ⟨some 59, .mv (.t 1), none⟩,
    ⟨some 60, .iaddrS 1 (.t 58) (.t 59), none⟩,
    ⟨some 61, .load false 1 (.t 60), none⟩,
    ⟨some 62, .bin .lss (.t 61) (.k (.int .i64 (-1))), none⟩,
    ⟨some 63, .mv (.t 62), none⟩,
    ⟨some 64, .mv (.t 0), some (63, false)⟩,
    ⟨some 65, .nchk (.t 64), some (63, false)⟩,
    ⟨some 66, .faddr 1 (.t 65), some (63, false)⟩,
    ⟨some 67, .load false 1 (.t 66), some (63, false)⟩,
    ⟨some 68, .mv (.t 1), some (63, false)⟩,
    ⟨some 69, .iaddrS 1 (.t 67) (.t 68), some (63, false)⟩,
    ⟨some 70, .load false 1 (.t 69), some (63, false)⟩,
    ⟨some 71, .mv (.t 0), some (63, false)⟩,
    ⟨some 72, .nchk (.t 71), some (63, false)⟩,
    ⟨some 73, .faddr 4 (.t 72), some (63, false)⟩,
    ⟨some 74, .load false 1 (.t 73), some (63, false)⟩,
    ⟨some 75, .len (.t 74), some (63, false)⟩,
    ⟨some 76, .bin .geq (.t 70) (.t 75), some (63, false)⟩,
    ⟨some 77, .pick (.t 63) (.k (.bool true)) (.t 76), none⟩,
    ⟨some 4, .mv (.t 77), none⟩] [[], [0], [1], [2], [], [3, 4], [5], [6], [7], [8], [9, 8], [10, 8], [11, 8], [8], [12, 13, 8], [14, 8], [8], [16, 8], [17, 8], [18, 8], [19, 8], [15, 20, 8], [8, 21], [22, 8, 0, 1, 2, 3, 4, 5, 6, 7, 8, 9, 10, 11, 12, 13, 14, 15, 16, 17, 18, 19, 20, 21, 22]])
  (.ret))))
theorem b60 : Body Try.prog 60 c60 [.tmp 4] 78 := ⟨by kernel_rfl, _, _, Try.func60, rfl, by kernel_rfl, by kernel_rfl, rfl⟩
def c61 : ACode :=
  .seq (.reg [⟨some 1, .box (.t 0), none⟩,
    ⟨some 2, .mv (.k (.bool false)), none⟩])
  (.seq (.regD [⟨some 5, .faddr 1 (.t 1), none⟩,
    ⟨some 6, .load false 1 (.t 5), none⟩,
    ⟨some 7, .len (.t 6), none⟩,
    ⟨some 8, .faddr 4 (.t 1), none⟩,
    ⟨some 9, .load false 1 (.t 8), none⟩,
    ⟨some 10, .len (.t 9), none⟩,
    ⟨some 3, .mv (.t 7), none⟩,
    ⟨some 4, .mv (.t 10), none⟩] [[], [0], [1], [], [3], [4], [2, 0, 1, 2], [5, 6, 0, 1, 2, 3, 4, 5, 6]])
  (.seq (.reg [⟨some 11, .mv (.t 3), none⟩,
    ⟨some 12, .bin .geq (.t 11) (.k (.int .i64 1)), none⟩,
    ⟨some 13, .mv (.t 12), none⟩,
    ⟨some 14, .mv (.t 3), some (13, true)⟩,
    ⟨some 15, .bin .leq (.t 14) (.k (.int .i64 2000)), some (13, true)⟩,
    ⟨some 16, .pick (.t 13) (.t 15) (.k (.bool false)), none⟩,
    ⟨some 17, .mv (.t 16), none⟩,
    ⟨some 18, .faddr 0 (.t 1), some (17, true)⟩,
    ⟨some 19, .load false 1 (.t 18), some (17, true)⟩,
    ⟨some 20, .len (.t 19), some (17, true)⟩,
    ⟨some 21, .mv (.t 3), some (17, true)⟩,
    ⟨some 22, .bin .eql (.t 20) (.t 21), some (17, true)⟩,
    ⟨some 23, .pick (.t 17) (.t 22) (.k (.bool false)), none⟩,
    ⟨some 24, .mv (.t 23), none⟩,
    ⟨some 25, .faddr 2 (.t 1), some (24, true)⟩,
    ⟨some 26, .load false 1 (.t 25), some (24, true)⟩,
    ⟨some 27, .len (.t 26), some (24, true)⟩,
    ⟨some 28, .mv (.t 3), some (24, true)⟩,
    ⟨some 29, .bin .eql (.t 27) (.t 28), some (24, true)⟩,
    ⟨some 30, .pick (.t 24) (.t 29) (.k (.bool false)), none⟩,
    ⟨some 31, .mv (.t 30), none⟩,
    ⟨some 32, .faddr 3 (.t 1), some (31, true)⟩,
    ⟨some 33, .load false 1 (.t 32), some (31, true)⟩,
    ⟨some 34, .len (.t 33), some (31, true)⟩,
    ⟨some 35, .mv (.t 3), some (31, true)⟩,
    ⟨some 36, .bin .eql (.t 34) (.t 35), some (31, true)⟩,
    ⟨some 37, .pick (.t 31) (.t 36) (.k (.bool false)), none⟩,
    ⟨some 38, .mv (.t 37), none⟩,
    ⟨some 39, .mv (.t 4), some (38, true)⟩,
    ⟨some 40, .bin .geq (.t 39) (.k (.int .i64 1)), some (38, true)⟩,
    ⟨some 41, .pick (.t 38) (.t 40) (.k (.bool false)), none⟩,
    ⟨some 42, .mv (.t 41), none⟩,
    ⟨some 43, .mv (.t 4), some (42, true)⟩,
    ⟨some 44, .bin .leq (.t 43) (.k (.int .i64 64)), some (42, true)⟩,
    ⟨some 45, .pick (.t 42) (.t 44) (.k (.bool false)), none⟩,
    ⟨some 46, .mv (.t 45), none⟩,
    ⟨some 47, .faddr 5 (.t 1), some (46, true)⟩,
    ⟨some 48, .load false 1 (.t 47), some (46, true)⟩,
    ⟨some 49, .len (.t 48), some (46, true)⟩,
    ⟨some 50, .mv (.t 4), some (46, true)⟩,
    ⟨some 51, .bin .eql (.t 49) (.t 50), some (46, true)⟩,
    ⟨some 52, .pick (.t 46) (.t 51) (.k (.bool false)), none⟩,
    ⟨some 2, .mv (.t 52), none⟩])
  (.ret)))
theorem b61 : Body Try.prog 61 c61 [.tmp 2] 53 := ⟨by kernel_rfl, _, _, Try.func61, rfl, by kernel_rfl, by kernel_rfl, rfl⟩
def c62 : ACode :=
  .seq (.reg [⟨some 3, .box (.t 0), none⟩,
    ⟨some 6, .mv (.k (.bool false)), none⟩])
  (.seq (.regD [⟨some 10, .faddr 4 (.t 3), none⟩,
    ⟨some 11, .load false 1 (.t 10), none⟩,
    ⟨some 12, .mv (.t 1), none⟩,
    ⟨some 13, .iaddrS 1 (.t 11) (.t 12), none⟩,
    ⟨some 14, .load false 1 (.t 13), none⟩,
    ⟨some 7, .mv (.k (.int .i64 (-1))), none⟩,
    ⟨some 8, .mv (.t 14), none⟩] [[], [0], [], [1, 2], [3], [], [4, 5, 0, 1, 2, 3, 4, 5]])
  (.seq (.seq (.reg [⟨some 9, .mv (.k (.int .i64 0)), none⟩])
  (.block 0 (.loop (.seq (.seq (.reg [⟨some 15, .mv (.t 8), none⟩,
      ⟨some 16, .bin .neq (.t 15) (.k (.int .i64 (-1))), none⟩])
    (.cond (.t 16) (.skip)
      (.exit 0)))
    (.seq (.block 1 (.seq (.seq (.reg [⟨some 19, .mv (.t 9), none⟩,
       ⟨some 20, .faddr 1 (.t 3), none⟩,
       ⟨some 21, .load false 1 (.t 20), none⟩,
       ⟨some 22, .len (.t 21), none⟩,
       ⟨some 23, .bin .eql (.t 19) (.t 22), none⟩,
       ⟨some 24, .mv (.t 23), none⟩,
       ⟨some 25, .mv (.t 8), some (24, false)⟩,
       ⟨some 26, .bin .lss (.t 25) (.k (.int .i64 0)), some (24, false)⟩,
       ⟨some 27, .pick (.t 24) (.k (.bool true)) (.t 26), none⟩,
       ⟨some 28, .mv (.t 27), none⟩,
       ⟨some 29, .mv (.t 8), some (28, false)⟩,
       ⟨some 30, .faddr 1 (.t 3), some (28, false)⟩,
       ⟨some 31, .load false 1 (.t 30), some (28, false)⟩,
       ⟨some 32, .len (.t 31), some (28, false)⟩,
       ⟨some 33, .bin .geq (.t 29) (.t 32), some (28, false)⟩,
       ⟨some 34, .pick (.t 28) (.k (.bool true)) (.t 33), none⟩,
       ⟨some 35, .mv (.t 34), none⟩,
       ⟨some 36, .faddr 1 (.t 3), some (35, false)⟩,
       ⟨some 37, .load false 1 (.t 36), some (35, false)⟩,
       ⟨some 38, .mv (.t 8), some (35, false)⟩,
       ⟨some 39, .iaddrS 1 (.t 37) (.t 38), some (35, false)⟩,
       ⟨some 40, .load false 1 (.t 39), some (35, false)⟩,
       ⟨some 41, .mv (.t 1), some (35, false)⟩,
       ⟨some 42, .bin .neq (.t 40) (.t 41), some (35, false)⟩,
       ⟨some 43, .pick (.t 35) (.k (.bool true)) (.t 42), none⟩,
       ⟨some 44, .mv (.t 43), none⟩,
       ⟨some 45, .faddr 3 (.t 3), some (44, false)⟩,
       ⟨some 46, .load false 1 (.t 45), some (44, false)⟩,
       ⟨some 47, .mv (.t 8), some (44, false)⟩,
       ⟨some 48, .iaddrS 1 (.t 46) (.t 47), some (44, false)⟩,
       ⟨some 49, .load false 1 (.t 48), some (44, false)⟩,
       ⟨some 50, .mv (.t 7), some (44, false)⟩,
       ⟨some 51, .bin .neq (.t 49) (.t 50), some (44, false)⟩,
       ⟨some 52, .pick (.t 44) (.k (.bool true)) (.t 51), none⟩])
     (.cond (.t 52) (.seq (.reg [⟨some 6, .mv (.k (.bool false)), none⟩])
       (.ret))
       (.skip)))
     (.seq (.reg [⟨some 53, .mv (.t 2), none⟩,
       ⟨some 54, .mv (.t 8), none⟩,
       ⟨some 55, .iaddrS 1 (.t 53) (.t 54), none⟩,
       ⟨none, .store 1 (.t 55) (.k (.bool true)), none⟩])
     (.regD [⟨some 56, .mv (.t 8), none⟩,
       ⟨some 57, .faddr 2 (.t 3), none⟩,
       ⟨some 58, .load false 1 (.t 57), none⟩,
       ⟨some 59, .mv (.t 8), none⟩,
       ⟨some 60, .iaddrS 1 (.t 58) (.t 59), none⟩,
       ⟨some 61, .load false 1 (.t 60), none⟩,
       ⟨some 7, .mv (.t 56), none⟩,
       ⟨some 8, .mv (.t 61), none⟩] [[], [], [1], [], [2, 3], [4], [0, 0], [5, 6, 0, 1, 2, 3, 4, 5, 6]]))))
    (.reg [⟨some 17, .mv (.t 9), none⟩,
      ⟨some 18, .bin .add (.t 17) (.k (.int .i64 1)), none⟩,
      ⟨some 9, .mv (.t 18), none⟩]))))))
  (.seq (.reg [⟨some 62, .faddr 5 (.t 3), none⟩,
    ⟨some 63, .load false 1 (.t 62), none⟩,
    ⟨some 64, .mv (.t 1), none⟩,
    ⟨some 65, .iaddrS 1 (.t 63) (.t 64), none⟩,
    ⟨some 66, .load false 1 (.t 65), none⟩,
    ⟨some 67, .mv (.t 7), none⟩,
    ⟨some 68, .bin .eql (.t 66) (.t 67), none⟩,
    ⟨some 6, .mv (.t 68), none⟩])
  (.ret))))
theorem b62 : Body Try.prog 62 c62 [.tmp 6] 69 := ⟨by kernel_rfl, _, _, Try.func62, rfl, by kernel_rfl, by kernel_rfl, rfl⟩
def c63 : ACode :=
  .seq (.reg [⟨some 4, .mv (.k .nilp), none⟩])
  (.seq (.regD [⟨some 8, .mv (.t 0), none⟩,
    ⟨some 9, .mks 4 32 [(.int .i64 0), (.int .i64 0), (.int .i64 0), (.int .i64 0)] (.t 8) (.t 8), none⟩,
    ⟨some 10, .mv (.t 1), none⟩,
    ⟨some 11, .mks 3 24 [(.int .i64 0), (.int .i64 0), (.int .i64 0)] (.t 10) (.t 10), none⟩,
    ⟨some 12, .build [.nils, .nils, (.int .i64 0)] [(0, 1, (.t 9)), (1, 1, (.t 11))], none⟩,
    ⟨some 13, .box (.t 12), none⟩,
    ⟨some 5, .mv (.t 13), none⟩] [[], [0, 0], [], [2, 2], [1, 3], [4], [5, 0, 1, 2, 3, 4, 5]])
  (.seq (.seq (.reg [⟨some 14, .mv (.t 5), none⟩,
    ⟨some 15, .nchk (.t 14), none⟩,
    ⟨some 16, .faddr 0 (.t 15), none⟩,
    ⟨some 17, .load false 1 (.t 16), none⟩,
    ⟨some 18, .len (.t 17), none⟩,
    ⟨some 19, .mv (.k (.int .i64 0)), none⟩])
  (.block 0 (.loop (.seq (.reg [⟨some 20, .bin .lss (.t 19) (.t 18), none⟩])
    (.seq (.cond (.t 20) (.skip)
      (.exit 0))
    (.seq (.block 1 (.seq (.reg [⟨some 21, .mv (.t 19), none⟩,
       ⟨some 6, .mv (.t 21), none⟩])
     (.reg [⟨some 22, .mv (.t 5), none⟩,
       ⟨some 23, .nchk (.t 22), none⟩,
       ⟨some 24, .faddr 0 (.t 23), none⟩,
       ⟨some 25, .load false 1 (.t 24), none⟩,
       ⟨some 26, .mv (.t 6), none⟩,
       ⟨some 27, .build [(.int .i64 0), (.int .i64 0), (.int .i64 0), (.int .i64 0)] [(1, 1, (.k (.int .i64 (-1)))), (2, 1, (.k (.int .i64 (-1)))), (3, 1, (.k (.int .i64 (-1))))], none⟩,
       ⟨some 28, .iaddrS 4 (.t 25) (.t 26), none⟩,
       ⟨none, .store 4 (.t 28) (.t 27), none⟩])))
    (.reg [⟨some 29, .bin .add (.t 19) (.k (.int .i64 1)), none⟩,
      ⟨some 19, .mv (.t 29), none⟩])))))))
  (.seq (.seq (.reg [⟨some 30, .mv (.t 5), none⟩,
    ⟨some 31, .nchk (.t 30), none⟩,
    ⟨some 32, .faddr 1 (.t 31), none⟩,
    ⟨some 33, .load false 1 (.t 32), none⟩,
    ⟨some 34, .len (.t 33), none⟩,
    ⟨some 35, .mv (.k (.int .i64 0)), none⟩])
  (.block 2 (.loop (.seq (.reg [⟨some 36, .bin .lss (.t 35) (.t 34), none⟩])
    (.seq (.cond (.t 36) (.skip)
      (.exit 2))
    (.seq (.block 3 (.seq (.reg [⟨some 37, .mv (.t 35), none⟩,
       ⟨some 7, .mv (.t 37), none⟩])
     (.reg [⟨some 38, .mv (.t 5), none⟩,
       ⟨some 39, .nchk (.t 38), none⟩,
       ⟨some 40, .faddr 1 (.t 39), none⟩,
       ⟨some 41, .load false 1 (.t 40), none⟩,
       ⟨some 42, .mv (.t 7), none⟩,
       ⟨some 43, .build [(.int .i64 0), (.int .i64 0), (.int .i64 0)] [(0, 1, (.k (.int .i64 (-1)))), (1, 1, (.k (.int .i64 (-1)))), (2, 1, (.k (.int .i64 0)))], none⟩,
       ⟨some 44, .iaddrS 3 (.t 41) (.t 42), none⟩,
       ⟨none, .store 3 (.t 44) (.t 43), none⟩])))
    (.reg [⟨some 45, .bin .add (.t 35) (.k (.int .i64 1)), none⟩,
      ⟨some 35, .mv (.t 45), none⟩])))))))
  (.seq (.reg [⟨some 46, .mv (.t 5), none⟩,
    ⟨some 4, .mv (.t 46), none⟩])
  (.ret)))))
theorem b63 : Body Try.prog 63 c63 [.tmp 4] 47 := ⟨by kernel_rfl, _, _, Try.func63, rfl, by kernel_rfl, by kernel_rfl, rfl⟩
def c64 : ACode :=
  .seq (.reg [⟨some 2, .mv (.k (.bool false)), none⟩])
  (.seq (.reg [⟨some 3, .mv (.t 0), none⟩,
    ⟨some 4, .eqp true false (.t 3) (.k .nilp), none⟩,
    ⟨some 5, .mv (.t 4), none⟩,
    ⟨some 6, .mv (.t 0), some (5, true)⟩,
    ⟨some 7, .nchk (.t 6), some (5, true)⟩,
    ⟨some 8, .faddr 0 (.t 7), some (5, true)⟩,
    ⟨some 9, .load false 1 (.t 8), some (5, true)⟩,
    ⟨some 10, .len (.t 9), some (5, true)⟩,
    ⟨some 11, .bin .gtr (.t 10) (.k (.int .i64 0)), some (5, true)⟩,
    ⟨some 12, .pick (.t 5) (.t 11) (.k (.bool false)), none⟩,
    ⟨some 2, .mv (.t 12), none⟩])
  (.ret))
theorem b64 : Body Try.prog 64 c64 [.tmp 2] 13 := ⟨by kernel_rfl, _, _, Try.func64, rfl, by kernel_rfl, by kernel_rfl, rfl⟩
def c81 : ACode :=
  .seq (.regD [⟨some 12, .mv (.t 0), none⟩,
    ⟨some 13, .nchk (.t 12), none⟩,
    ⟨some 14, .faddr 0 (.t 13), none⟩,
    ⟨some 15, .load false 1 (.t 14), none⟩,
    ⟨some 16, .mv (.t 1), none⟩,
    ⟨some 17, .iaddrS 4 (.t 15) (.t 16), none⟩,
    ⟨some 18, .mv (.t 0), none⟩,
    ⟨some 19, .nchk (.t 18), none⟩,
    ⟨some 20, .faddr 1 (.t 19), none⟩,
    ⟨some 21, .load false 1 (.t 20), none⟩,
    ⟨some 22, .mv (.t 2), none⟩,
    ⟨some 23, .iaddrS 3 (.t 21) (.t 22), none⟩,
    ⟨some 10, .mv (.t 17), none⟩,
    ⟨some 11, .mv (.t 23), none⟩] [[], [0], [1], [2], [], [3, 4], [], [6], [7], [8], [], [9, 10], [5, 0, 1, 2, 3, 4, 5], [11, 12, 0, 1, 2, 3, 4, 5, 6, 7, 8, 9, 10, 11, 12]])
  (.seq (.reg [⟨some 24, .mv (.t 10), none⟩,
    ⟨some 25, .mv (.t 10), none⟩,
    ⟨some 26, .mv (.t 10), none⟩,
    ⟨some 27, .mv (.t 2), none⟩,
    ⟨some 28, .mv (.t 3), none⟩,
    ⟨some 29, .mv (.t 4), none⟩,
    ⟨some 30, .nchk (.t 24), none⟩,
    ⟨some 31, .faddr 1 (.t 30), none⟩,
    ⟨none, .store 1 (.t 31) (.t 27), none⟩,
    ⟨some 32, .nchk (.t 25), none⟩,
    ⟨some 33, .faddr 3 (.t 32), none⟩,
    ⟨none, .store 1 (.t 33) (.t 28), none⟩,
    ⟨some 34, .nchk (.t 26), none⟩,
    ⟨some 35, .faddr 2 (.t 34), none⟩,
    ⟨none, .store 1 (.t 35) (.t 29), none⟩])
  (.seq (.seq (.reg [⟨some 36, .mv (.t 3), none⟩,
    ⟨some 37, .bin .eql (.t 36) (.k (.int .i64 (-1))), none⟩])
  (.cond (.t 37) (.reg [⟨some 38, .mv (.t 11), none⟩,
      ⟨some 39, .mv (.t 1), none⟩,
      ⟨some 40, .nchk (.t 38), none⟩,
      ⟨some 41, .faddr 0 (.t 40), none⟩,
      ⟨none, .store 1 (.t 41) (.t 39), none⟩])
    (.reg [⟨some 42, .mv (.t 0), none⟩,
      ⟨some 43, .nchk (.t 42), none⟩,
      ⟨some 44, .faddr 0 (.t 43), none⟩,
      ⟨some 45, .load false 1 (.t 44), none⟩,
      ⟨some 46, .mv (.t 3), none⟩,
      ⟨some 47, .mv (.t 1), none⟩,
      ⟨some 48, .iaddrS 4 (.t 45) (.t 46), none⟩,
      ⟨some 49, .faddr 2 (.t 48), none⟩,
      ⟨none, .store 1 (.t 49) (.t 47), none⟩])))
  (.seq (.seq (.reg [⟨some 50, .mv (.t 4), none⟩,
    ⟨some 51, .bin .eql (.t 50) (.k (.int .i64 (-1))), none⟩])
  (.cond (.t 51) (.reg [⟨some 52, .mv (.t 11), none⟩,
      ⟨some 53, .mv (.t 1), none⟩,
      ⟨some 54, .nchk (.t 52), none⟩,
      ⟨some 55, .faddr 1 (.t 54), none⟩,
      ⟨none, .store 1 (.t 55) (.t 53), none⟩])
    (.reg [⟨some 56, .mv (.t 0), none⟩,
      ⟨some 57, .nchk (.t 56), none⟩,
      ⟨some 58, .faddr 0 (.t 57), none⟩,
      ⟨some 59, .load false 1 (.t 58), none⟩,
      ⟨some 60, .mv (.t 4), none⟩,
      ⟨some 61, .mv (.t 1), none⟩,
      ⟨some 62, .iaddrS 4 (.t 59) (.t 60), none⟩,
      ⟨some 63, .faddr 3 (.t 62), none⟩,
      ⟨none, .store 1 (.t 63) (.t 61), none⟩])))
  (.reg [⟨some 64, .mv (.t 11), none⟩,
    ⟨some 65, .nchk (.t 64), none⟩,
    ⟨some 66, .faddr 2 (.t 65), none⟩,
    ⟨some 67, .load false 1 (.t 66), none⟩,
    ⟨some 68, .bin .add (.t 67) (.k (.int .i64 1)), none⟩,
    ⟨some 69, .nchk (.t 64), none⟩,
    ⟨some 70, .faddr 2 (.t 69), none⟩,
    ⟨none, .store 1 (.t 70) (.t 68), none⟩]))))
theorem b81 : Body Try.prog 81 c81 [] 71 := ⟨by kernel_rfl, _, _, Try.func81, rfl, by kernel_rfl, by kernel_rfl, rfl⟩
def c82 : ACode :=
  .seq (.reg [⟨some 6, .mv (.k (.int .i64 0)), none⟩,
    ⟨some 7, .mv (.k (.int .i64 0)), none⟩])
  (.seq (.reg [⟨some 12, .mv (.t 0), none⟩,
    ⟨some 13, .mv (.t 1), none⟩,
    ⟨some 14, .call (.k (.fn 91 [] [])) [(.t 12), (.t 13)], none⟩,
    ⟨some 11, .mv (.t 14), none⟩,
    ⟨some 15, .ext (.t 11) 0, none⟩,
    ⟨some 16, .ext (.t 11) 1, none⟩,
    ⟨some 8, .mv (.t 15), none⟩,
    ⟨some 9, .mv (.t 16), none⟩])
  (.seq (.seq (.reg [⟨some 17, .mv (.t 8), none⟩,
    ⟨some 18, .bin .lss (.t 17) (.k (.int .i64 0)), none⟩])
  (.cond (.t 18) (.seq (.reg [⟨some 6, .mv (.k (.int .i64 0)), none⟩,
      ⟨some 7, .mv (.k (.int .i64 4)), none⟩])
    (.ret))
    (.skip)))
  (.seq (.reg [⟨some 19, .mv (.t 0), none⟩,
    ⟨some 20, .call (.k (.fn 95 [] [])) [(.t 19)], none⟩,
    ⟨some 10, .mv (.t 20), none⟩])
  (.seq (.seq (.reg [⟨some 21, .mv (.t 10), none⟩,
    ⟨some 22, .bin .lss (.t 21) (.k (.int .i64 0)), none⟩])
  (.cond (.t 22) (.seq (.reg [⟨some 6, .mv (.k (.int .i64 0)), none⟩,
      ⟨some 7, .mv (.k (.int .i64 5)), none⟩])
    (.ret))
    (.skip)))
  (.seq (.reg [⟨some 23, .mv (.t 0), none⟩,
    ⟨some 24, .mv (.t 8), none⟩,
    ⟨some 25, .mv (.t 9), none⟩,
    ⟨some 26, .bin .add (.t 25) (.k (.int .i64 1)), none⟩,
    ⟨some 27, .mv (.t 10), none⟩,
    ⟨some 28, .call (.k (.fn 93 [] [])) [(.t 23), (.t 24), (.t 26), (.t 27)], none⟩])
  (.seq (.reg [⟨some 29, .mv (.t 0), none⟩,
    ⟨some 30, .nchk (.t 29), none⟩,
    ⟨some 31, .faddr 2 (.t 30), none⟩,
    ⟨some 32, .load false 1 (.t 31), none⟩,
    ⟨some 33, .mv (.t 10), none⟩,
    ⟨some 34, .mv (.t 2), none⟩,
    ⟨some 35, .iaddrS 1 (.t 32) (.t 33), none⟩,
    ⟨none, .store 1 (.t 35) (.t 34), none⟩])
  (.seq (.reg [⟨some 36, .mv (.t 10), none⟩,
    ⟨some 6, .mv (.t 36), none⟩,
    ⟨some 7, .mv (.k (.int .i64 0)), none⟩])
  (.ret))))))))
theorem b82 : Body Try.prog 82 c82 [.tmp 6, .tmp 7] 37 := ⟨by kernel_rfl, _, _, Try.func82, rfl, by kernel_rfl, by kernel_rfl, rfl⟩
def c83 : ACode :=
  .seq (.reg [⟨some 6, .mv (.k (.int .i64 0)), none⟩])
  (.seq (.reg [⟨some 10, .mv (.t 0), none⟩,
    ⟨some 11, .mv (.t 1), none⟩,
    ⟨some 12, .call (.k (.fn 91 [] [])) [(.t 10), (.t 11)], none⟩,
    ⟨some 9, .mv (.t 12), none⟩,
    ⟨some 13, .ext (.t 9) 0, none⟩,
    ⟨some 14, .ext (.t 9) 1, none⟩,
    ⟨some 7, .mv (.t 13), none⟩,
    ⟨some 8, .mv (.t 14), none⟩])
  (.seq (.seq (.reg [⟨some 15, .mv (.t 7), none⟩,
    ⟨some 16, .bin .lss (.t 15) (.k (.int .i64 0)), none⟩])
  (.cond (.t 16) (.seq (.reg [⟨some 6, .mv (.k (.int .i64 4)), none⟩])
    (.ret))
    (.skip)))
  (.seq (.reg [⟨some 17, .mv (.t 0), none⟩,
    ⟨some 18, .nchk (.t 17), none⟩,
    ⟨some 19, .faddr 2 (.t 18), none⟩,
    ⟨some 20, .load false 1 (.t 19), none⟩,
    ⟨some 21, .mv (.t 1), none⟩,
    ⟨some 22, .mv (.t 2), none⟩,
    ⟨some 23, .iaddrS 1 (.t 20) (.t 21), none⟩,
    ⟨none, .store 1 (.t 23) (.t 22), none⟩])
  (.seq (.reg [⟨some 6, .mv (.k (.int .i64 0)), none⟩])
  (.ret)))))
theorem b83 : Body Try.prog 83 c83 [.tmp 6] 24 := ⟨by kernel_rfl, _, _, Try.func83, rfl, by kernel_rfl, by kernel_rfl, rfl⟩
def c84 : ACode :=
  .seq (.reg [⟨some 4, .mv (.k (.int .i64 0)), none⟩,
    ⟨some 5, .mv (.k (.int .i64 0)), none⟩])
  (.seq (.reg [⟨some 9, .mv (.t 0), none⟩,
    ⟨some 10, .mv (.t 1), none⟩,
    ⟨some 11, .call (.k (.fn 91 [] [])) [(.t 9), (.t 10)], none⟩,
    ⟨some 8, .mv (.t 11), none⟩,
    ⟨some 12, .ext (.t 8) 0, none⟩,
    ⟨some 13, .ext (.t 8) 1, none⟩,
    ⟨some 6, .mv (.t 12), none⟩,
    ⟨some 7, .mv (.t 13), none⟩])
  (.seq (.seq (.reg [⟨some 14, .mv (.t 6), none⟩,
    ⟨some 15, .bin .lss (.t 14) (.k (.int .i64 0)), none⟩])
  (.cond (.t 15) (.seq (.reg [⟨some 4, .mv (.k (.int .i64 0)), none⟩,
      ⟨some 5, .mv (.k (.int .i64 4)), none⟩])
    (.ret))
    (.skip)))
  (.seq (.reg [⟨some 16, .mv (.t 6), none⟩,
    ⟨some 4, .mv (.t 16), none⟩,
    ⟨some 5, .mv (.k (.int .i64 0)), none⟩])
  (.ret))))
theorem b84 : Body Try.prog 84 c84 [.tmp 4, .tmp 5] 17 := ⟨by kernel_rfl, _, _, Try.func84, rfl, by kernel_rfl, by kernel_rfl, rfl⟩
def c85 : ACode :=
  .seq (.reg [⟨some 6, .mv (.k (.int .i64 0)), none⟩,
    ⟨some 7, .mv (.k (.int .i64 0)), none⟩])
  (.seq (.reg [⟨some 11, .mv (.t 0), none⟩,
    ⟨some 12, .mv (.t 1), none⟩,
    ⟨some 13, .call (.k (.fn 91 [] [])) [(.t 11), (.t 12)], none⟩,
    ⟨some 10, .mv (.t 13), none⟩,
    ⟨some 14, .ext (.t 10) 0, none⟩,
    ⟨some 15, .ext (.t 10) 1, none⟩,
    ⟨some 8, .mv (.t 14), none⟩,
    ⟨some 9, .mv (.t 15), none⟩])
  (.seq (.seq (.reg [⟨some 16, .mv (.t 8), none⟩,
    ⟨some 17, .bin .lss (.t 16) (.k (.int .i64 0)), none⟩])
  (.cond (.t 17) (.seq (.reg [⟨some 6, .mv (.k (.int .i64 0)), none⟩,
      ⟨some 7, .mv (.k (.int .i64 4)), none⟩])
    (.ret))
    (.skip)))
  (.seq (.reg [⟨some 18, .mv (.t 9), none⟩,
    ⟨some 19, .bin .add (.t 18) (.k (.int .i64 1)), none⟩,
    ⟨some 9, .mv (.t 19), none⟩])
  (.seq (.seq (.reg [⟨some 20, .mv (.t 2), none⟩])
  (.cond (.t 20) (.reg [⟨some 21, .mv (.t 9), none⟩,
      ⟨some 22, .bin .sub (.t 21) (.k (.int .i64 2)), none⟩,
      ⟨some 9, .mv (.t 22), none⟩])
    (.skip)))
  (.seq (.seq (.reg [⟨some 23, .mv (.t 9), none⟩,
    ⟨some 24, .bin .lss (.t 23) (.k (.int .i64 0)), none⟩,
    ⟨some 25, .mv (.t 24), none⟩,
    ⟨some 26, .mv (.t 9), some (25, false)⟩,
    ⟨some 27, .mv (.t 0), some (25, false)⟩,
    ⟨some 28, .nchk (.t 27), some (25, false)⟩,
    ⟨some 29, .faddr 1 (.t 28), some (25, false)⟩,
    ⟨some 30, .load false 1 (.t 29), some (25, false)⟩,
    ⟨some 31, .mv (.t 8), some (25, false)⟩,
    ⟨some 32, .iaddrS 1 (.t 30) (.t 31), some (25, false)⟩,
    ⟨some 33, .load false 1 (.t 32), some (25, false)⟩,
    ⟨some 34, .len (.t 33), some (25, false)⟩,
    ⟨some 35, .bin .geq (.t 26) (.t 34), some (25, false)⟩,
    ⟨some 36, .pick (.t 25) (.k (.bool true)) (.t 35), none⟩])
  (.cond (.t 36) (.seq (.reg [⟨some 6, .mv (.k (.int .i64 0)), none⟩,
      ⟨some 7, .mv (.k (.int .i64 9)), none⟩])
    (.ret))
    (.skip)))
  (.seq (.reg [⟨some 37, .mv (.t 0), none⟩,
    ⟨some 38, .nchk (.t 37), none⟩,
    ⟨some 39, .faddr 1 (.t 38), none⟩,
    ⟨some 40, .load false 1 (.t 39), none⟩,
    ⟨some 41, .mv (.t 8), none⟩,
    ⟨some 42, .iaddrS 1 (.t 40) (.t 41), none⟩,
    ⟨some 43, .load false 1 (.t 42), none⟩,
    ⟨some 44, .mv (.t 9), none⟩,
    ⟨some 45, .iaddrS 1 (.t 43) (.t 44), none⟩,
    ⟨some 46, .load false 1 (.t 45), none⟩,
    ⟨some 6, .mv (.t 46), none⟩,
    ⟨some 7, .mv (.k (.int .i64 0)), none⟩])
  (.ret)))))))
theorem b85 : Body Try.prog 85 c85 [.tmp 6, .tmp 7] 47 := ⟨by kernel_rfl, _, _, Try.func85, rfl, by kernel_rfl, by kernel_rfl, rfl⟩
def c86 : ACode :=
  .seq (.reg [⟨some 6, .mv (.k (.int .i64 0)), none⟩,
    ⟨some 7, .mv (.k (.int .i64 0)), none⟩])
  (.seq (.seq (.reg [⟨some 9, .mv (.t 0), none⟩,
    ⟨some 10, .mv (.t 1), none⟩,
    ⟨some 11, .call (.k (.fn 55 [] [])) [(.t 9), (.t 10)], none⟩,
    ⟨some 8, .mv (.t 11), none⟩])
  (.seq (.reg [⟨some 12, .mv (.t 8), none⟩,
    ⟨some 13, .bin .neq (.t 12) (.k (.int .i64 0)), none⟩])
  (.cond (.t 13) (.seq (.reg [⟨some 14, .mv (.t 8), none⟩,
      ⟨some 6, .mv (.k (.int .i64 0)), none⟩,
      ⟨some 7, .mv (.t 14), none⟩])
    (.ret))
    (.skip))))
  (.seq (.reg [⟨some 15, .mv (.t 0), none⟩,
    ⟨some 16, .nchk (.t 15), none⟩,
    ⟨some 17, .faddr 1 (.t 16), none⟩,
    ⟨some 18, .load false 1 (.t 17), none⟩,
    ⟨some 19, .mv (.t 1), none⟩,
    ⟨some 20, .iaddrS 3 (.t 18) (.t 19), none⟩,
    ⟨some 21, .faddr 1 (.t 20), none⟩,
    ⟨some 22, .load false 1 (.t 21), none⟩,
    ⟨some 6, .mv (.t 22), none⟩])
  (.seq (.seq (.reg [⟨some 23, .mv (.t 2), none⟩])
  (.cond (.t 23) (.reg [⟨some 24, .mv (.t 0), none⟩,
      ⟨some 25, .nchk (.t 24), none⟩,
      ⟨some 26, .faddr 1 (.t 25), none⟩,
      ⟨some 27, .load false 1 (.t 26), none⟩,
      ⟨some 28, .mv (.t 1), none⟩,
      ⟨some 29, .iaddrS 3 (.t 27) (.t 28), none⟩,
      ⟨some 30, .faddr 0 (.t 29), none⟩,
      ⟨some 31, .load false 1 (.t 30), none⟩,
      ⟨some 6, .mv (.t 31), none⟩])
    (.skip)))
  (.seq (.seq (.reg [⟨some 32, .mv (.t 6), none⟩,
    ⟨some 33, .bin .eql (.t 32) (.k (.int .i64 (-1))), none⟩])
  (.cond (.t 33) (.seq (.reg [⟨some 6, .mv (.k (.int .i64 0)), none⟩,
      ⟨some 7, .mv (.k (.int .i64 4)), none⟩])
    (.ret))
    (.skip)))
  (.seq (.reg [⟨some 34, .mv (.t 6), none⟩,
    ⟨some 6, .mv (.t 34), none⟩,
    ⟨some 7, .mv (.k (.int .i64 0)), none⟩])
  (.ret))))))
theorem b86 : Body Try.prog 86 c86 [.tmp 6, .tmp 7] 35 := ⟨by kernel_rfl, _, _, Try.func86, rfl, by kernel_rfl, by kernel_rfl, rfl⟩
def c87 : ACode :=
  .seq (.reg [⟨some 6, .mv (.k (.int .i64 0)), none⟩,
    ⟨some 7, .mv (.k (.int .i64 0)), none⟩])
  (.seq (.seq (.reg [⟨some 9, .mv (.t 1), none⟩,
    ⟨some 10, .bin .lss (.t 9) (.k (.int .i64 0)), none⟩,
    ⟨some 11, .mv (.t 10), none⟩,
    ⟨some 12, .mv (.t 1), some (11, false)⟩,
    ⟨some 13, .mv (.t 0), some (11, false)⟩,
    ⟨some 14, .nchk (.t 13), some (11, false)⟩,
    ⟨some 15, .faddr 1 (.t 14), some (11, false)⟩,
    ⟨some 16, .load false 1 (.t 15), some (11, false)⟩,
    ⟨some 17, .len (.t 16), some (11, false)⟩,
    ⟨some 18, .bin .geq (.t 12) (.t 17), some (11, false)⟩,
    ⟨some 19, .pick (.t 11) (.k (.bool true)) (.t 18), none⟩])
  (.cond (.t 19) (.seq (.reg [⟨some 6, .mv (.k (.int .i64 0)), none⟩,
      ⟨some 7, .mv (.k (.int .i64 7)), none⟩])
    (.ret))
    (.skip)))
  (.seq (.reg [⟨some 20, .mv (.t 0), none⟩,
    ⟨some 21, .nchk (.t 20), none⟩,
    ⟨some 22, .faddr 1 (.t 21), none⟩,
    ⟨some 23, .load false 1 (.t 22), none⟩,
    ⟨some 24, .mv (.t 1), none⟩,
    ⟨some 25, .iaddrS 1 (.t 23) (.t 24), none⟩,
    ⟨some 26, .load false 1 (.t 25), none⟩,
    ⟨some 27, .len (.t 26), none⟩,
    ⟨some 8, .mv (.t 27), none⟩])
  (.seq (.seq (.reg [⟨some 28, .mv (.t 8), none⟩,
    ⟨some 29, .bin .eql (.t 28) (.k (.int .i64 0)), none⟩])
  (.cond (.t 29) (.seq (.reg [⟨some 6, .mv (.k (.int .i64 0)), none⟩,
      ⟨some 7, .mv (.k (.int .i64 4)), none⟩])
    (.ret))
    (.skip)))
  (.seq (.seq (.reg [⟨some 30, .mv (.t 2), none⟩])
  (.cond (.t 30) (.seq (.reg [⟨some 31, .mv (.t 0), none⟩,
      ⟨some 32, .nchk (.t 31), none⟩,
      ⟨some 33, .faddr 1 (.t 32), none⟩,
      ⟨some 34, .load false 1 (.t 33), none⟩,
      ⟨some 35, .mv (.t 1), none⟩,
      ⟨some 36, .iaddrS 1 (.t 34) (.t 35), none⟩,
      ⟨some 37, .load false 1 (.t 36), none⟩,
      ⟨some 38, .iaddrS 1 (.t 37) (.k (.int .i64 0)), none⟩,
      ⟨some 39, .load false 1 (.t 38), none⟩,
      ⟨some 6, .mv (.t 39), none⟩,
      ⟨some 7, .mv (.k (.int .i64 0)), none⟩])
    (.ret))
    (.skip)))
  (.seq (.reg [⟨some 40, .mv (.t 0), none⟩,
    ⟨some 41, .nchk (.t 40), none⟩,
    ⟨some 42, .faddr 1 (.t 41), none⟩,
    ⟨some 43, .load false 1 (.t 42), none⟩,
    ⟨some 44, .mv (.t 1), none⟩,
    ⟨some 45, .iaddrS 1 (.t 43) (.t 44), none⟩,
    ⟨some 46, .load false 1 (.t 45), none⟩,
    ⟨some 47, .mv (.t 8), none⟩,
    ⟨some 48, .bin .sub (.t 47) (.k (.int .i64 1)), none⟩,
    ⟨some 49, .iaddrS 1 (.t 46) (.t 48), none⟩,
    ⟨some 50, .load false 1 (.t 49), none⟩,
    ⟨some 6, .mv (.t 50), none⟩,
    ⟨some 7, .mv (.k (.int .i64 0)), none⟩])
  (.ret))))))
theorem b87 : Body Try.prog 87 c87 [.tmp 6, .tmp 7] 51 := ⟨by kernel_rfl, _, _, Try.func87, rfl, by kernel_rfl, by kernel_rfl, rfl⟩
def c88 : ACode :=
  .seq (.reg [⟨some 4, .mv (.k (.int .i64 0)), none⟩,
    ⟨some 5, .mv (.k (.int .i64 0)), none⟩])
  (.seq (.seq (.reg [⟨some 6, .mv (.t 1), none⟩,
    ⟨some 7, .bin .lss (.t 6) (.k (.int .i64 0)), none⟩,
    ⟨some 8, .mv (.t 7), none⟩,
    ⟨some 9, .mv (.t 1), some (8, false)⟩,
    ⟨some 10, .mv (.t 0), some (8, false)⟩,
    ⟨some 11, .nchk (.t 10), some (8, false)⟩,
    ⟨some 12, .faddr 1 (.t 11), some (8, false)⟩,
    ⟨some 13, .load false 1 (.t 12), some (8, false)⟩,
    ⟨some 14, .len (.t 13), some (8, false)⟩,
    ⟨some 15, .bin .geq (.t 9) (.t 14), some (8, false)⟩,
    ⟨some 16, .pick (.t 8) (.k (.bool true)) (.t 15), none⟩])
  (.cond (.t 16) (.seq (.reg [⟨some 4, .mv (.k (.int .i64 0)), none⟩,
      ⟨some 5, .mv (.k (.int .i64 7)), none⟩])
    (.ret))
    (.skip)))
  (.seq (.reg [⟨some 17, .mv (.t 0), none⟩,
    ⟨some 18, .nchk (.t 17), none⟩,
    ⟨some 19, .faddr 1 (.t 18), none⟩,
    ⟨some 20, .load false 1 (.t 19), none⟩,
    ⟨some 21, .mv (.t 1), none⟩,
    ⟨some 22, .iaddrS 1 (.t 20) (.t 21), none⟩,
    ⟨some 23, .load false 1 (.t 22), none⟩,
    ⟨some 24, .len (.t 23), none⟩,
    ⟨some 4, .mv (.t 24), none⟩,
    ⟨some 5, .mv (.k (.int .i64 0)), none⟩])
  (.ret)))
theorem b88 : Body Try.prog 88 c88 [.tmp 4, .tmp 5] 25 := ⟨by kernel_rfl, _, _, Try.func88, rfl, by kernel_rfl, by kernel_rfl, rfl⟩
def c89 : ACode :=
  .seq (.reg [⟨some 8, .mv (.k (.int .i64 0)), none⟩,
    ⟨some 9, .mv (.k (.int .i64 0)), none⟩])
  (.seq (.seq (.reg [⟨some 11, .mv (.t 1), none⟩,
    ⟨some 12, .bin .lss (.t 11) (.k (.int .i64 0)), none⟩,
    ⟨some 13, .mv (.t 12), none⟩,
    ⟨some 14, .mv (.t 1), some (13, false)⟩,
    ⟨some 15, .mv (.t 0), some (13, false)⟩,
    ⟨some 16, .nchk (.t 15), some (13, false)⟩,
    ⟨some 17, .faddr 1 (.t 16), some (13, false)⟩,
    ⟨some 18, .load false 1 (.t 17), some (13, false)⟩,
    ⟨some 19, .len (.t 18), some (13, false)⟩,
    ⟨some 20, .bin .geq (.t 14) (.t 19), some (13, false)⟩,
    ⟨some 21, .pick (.t 13) (.k (.bool true)) (.t 20), none⟩])
  (.cond (.t 21) (.seq (.reg [⟨some 8, .mv (.k (.int .i64 0)), none⟩,
      ⟨some 9, .mv (.k (.int .i64 7)), none⟩])
    (.ret))
    (.skip)))
  (.seq (.reg [⟨some 22, .mv (.t 0), none⟩,
    ⟨some 23, .call (.k (.fn 95 [] [])) [(.t 22)], none⟩,
    ⟨some 10, .mv (.t 23), none⟩])
  (.seq (.seq (.reg [⟨some 24, .mv (.t 10), none⟩,
    ⟨some 25, .bin .lss (.t 24) (.k (.int .i64 0)), none⟩])
  (.cond (.t 25) (.seq (.reg [⟨some 8, .mv (.k (.int .i64 0)), none⟩,
      ⟨some 9, .mv (.k (.int .i64 5)), none⟩])
    (.ret))
    (.skip)))
  (.seq (.reg [⟨some 26, .mv (.t 0), none⟩,
    ⟨some 27, .mv (.t 1), none⟩,
    ⟨some 28, .mv (.t 0), none⟩,
    ⟨some 29, .mv (.t 1), none⟩,
    ⟨some 30, .mv (.t 3), none⟩,
    ⟨some 31, .call (.k (.fn 94 [] [])) [(.t 28), (.t 29), (.t 30)], none⟩,
    ⟨some 32, .mv (.t 10), none⟩,
    ⟨some 33, .call (.k (.fn 93 [] [])) [(.t 26), (.t 27), (.t 31), (.t 32)], none⟩])
  (.seq (.reg [⟨some 34, .mv (.t 0), none⟩,
    ⟨some 35, .nchk (.t 34), none⟩,
    ⟨some 36, .faddr 2 (.t 35), none⟩,
    ⟨some 37, .load false 1 (.t 36), none⟩,
    ⟨some 38, .mv (.t 10), none⟩,
    ⟨some 39, .mv (.t 2), none⟩,
    ⟨some 40, .iaddrS 1 (.t 37) (.t 38), none⟩,
    ⟨none, .store 1 (.t 40) (.t 39), none⟩])
  (.seq (.reg [⟨some 41, .mv (.t 10), none⟩,
    ⟨some 8, .mv (.t 41), none⟩,
    ⟨some 9, .mv (.k (.int .i64 0)), none⟩])
  (.ret)))))))
theorem b89 : Body Try.prog 89 c89 [.tmp 8, .tmp 9] 42 := ⟨by kernel_rfl, _, _, Try.func89, rfl, by kernel_rfl, by kernel_rfl, rfl⟩
def c90 : ACode :=
  .seq (.reg [⟨some 9, .load false 1 (.t 1), none⟩,
    ⟨some 10, .load false 1 (.t 2), none⟩,
    ⟨some 11, .load false 1 (.t 3), none⟩,
    ⟨some 12, .un .not (.t 11), none⟩,
    ⟨some 13, .call (.k (.fn 86 [] [])) [(.t 9), (.t 10), (.t 12)], none⟩,
    ⟨some 8, .mv (.t 13), none⟩,
    ⟨some 14, .ext (.t 8) 0, none⟩,
    ⟨some 15, .ext (.t 8) 1, none⟩,
    ⟨some 5, .mv (.t 14), none⟩,
    ⟨some 6, .mv (.t 15), none⟩])
  (.block 0 (.loop (.seq (.seq (.reg [⟨some 16, .mv (.t 6), none⟩,
      ⟨some 17, .bin .eql (.t 16) (.k (.int .i64 0)), none⟩,
      ⟨some 18, .mv (.t 17), none⟩,
      ⟨some 19, .mv (.t 5), some (18, true)⟩,
      ⟨some 20, .bin .neq (.t 19) (.k (.int .i64 (-1))), some (18, true)⟩,
      ⟨some 21, .pick (.t 18) (.t 20) (.k (.bool false)), none⟩])
    (.cond (.t 21) (.skip)
      (.exit 0)))
    (.block 1 (.seq (.reg [⟨some 22, .load false 1 (.t 1), none⟩,
       ⟨some 23, .mv (.t 5), none⟩,
       ⟨some 24, .load false 1 (.t 3), none⟩,
       ⟨some 25, .call (.k (.fn 58 [] [])) [(.t 22), (.t 23), (.t 24)], none⟩,
       ⟨some 7, .mv (.t 25), none⟩])
     (.seq (.seq (.reg [⟨some 26, .mv (.t 0), none⟩,
       ⟨some 27, .mv (.t 5), none⟩,
       ⟨some 28, .load false 1 (.t 1), none⟩,
       ⟨some 29, .nchk (.t 28), none⟩,
       ⟨some 30, .faddr 0 (.t 29), none⟩,
       ⟨some 31, .load false 1 (.t 30), none⟩,
       ⟨some 32, .mv (.t 5), none⟩,
       ⟨some 33, .iaddrS 4 (.t 31) (.t 32), none⟩,
       ⟨some 34, .faddr 0 (.t 33), none⟩,
       ⟨some 35, .load false 1 (.t 34), none⟩,
       ⟨some 36, .call (.t 26) [(.t 27), (.t 35)], none⟩,
       ⟨some 37, .un .not (.t 36), none⟩])
     (.cond (.t 37) (.ret)
       (.skip)))
     (.reg [⟨some 38, .mv (.t 7), none⟩,
       ⟨some 5, .mv (.t 38), none⟩])))))))
theorem b90 : Body Try.prog 90 c90 [] 39 := ⟨by kernel_rfl, _, _, Try.func90, rfl, by kernel_rfl, by kernel_rfl, rfl⟩
def c91 : ACode :=
  .seq (.reg [⟨some 4, .mv (.k (.int .i64 0)), none⟩,
    ⟨some 5, .mv (.k (.int .i64 0)), none⟩])
  (.seq (.seq (.reg [⟨some 6, .mv (.k (.int .i64 0)), none⟩])
  (.block 0 (.loop (.seq (.seq (.reg [⟨some 8, .mv (.t 6), none⟩,
      ⟨some 9, .mv (.t 0), none⟩,
      ⟨some 10, .nchk (.t 9), none⟩,
      ⟨some 11, .faddr 1 (.t 10), none⟩,
      ⟨some 12, .load false 1 (.t 11), none⟩,
      ⟨some 13, .len (.t 12), none⟩,
      ⟨some 14, .bin .lss (.t 8) (.t 13), none⟩])
    (.cond (.t 14) (.skip)
      (.exit 0)))
    (.seq (.block 1 (.seq (.reg [⟨some 7, .mv (.k (.int .i64 0)), none⟩])
     (.block 2 (.loop (.seq (.seq (.reg [⟨some 17, .mv (.t 7), none⟩,
         ⟨some 18, .mv (.t 0), none⟩,
         ⟨some 19, .nchk (.t 18), none⟩,
         ⟨some 20, .faddr 1 (.t 19), none⟩,
         ⟨some 21, .load false 1 (.t 20), none⟩,
         ⟨some 22, .mv (.t 6), none⟩,
         ⟨some 23, .iaddrS 1 (.t 21) (.t 22), none⟩,
         ⟨some 24, .load false 1 (.t 23), none⟩,
         ⟨some 25, .len (.t 24), none⟩,
         ⟨some 26, .bin .lss (.t 17) (.t 25), none⟩])
       (.cond (.t 26) (.skip)
         (.exit 2)))
       (.seq (.block 3 (.seq (.reg [⟨some 29, .mv (.t 0), none⟩,
          ⟨some 30, .nchk (.t 29), none⟩,
          ⟨some 31, .faddr 1 (.t 30), none⟩,
          ⟨some 32, .load false 1 (.t 31), none⟩,
          ⟨some 33, .mv (.t 6), none⟩,
          ⟨some 34, .iaddrS 1 (.t 32) (.t 33), none⟩,
          ⟨some 35, .load false 1 (.t 34), none⟩,
          ⟨some 36, .mv (.t 7), none⟩,
          ⟨some 37, .iaddrS 1 (.t 35) (.t 36), none⟩,
          ⟨some 38, .load false 1 (.t 37), none⟩,
          ⟨some 39, .mv (.t 1), none⟩,
          ⟨some 40, .bin .eql (.t 38) (.t 39), none⟩])
        (.cond (.t 40) (.seq (.reg [⟨some 41, .mv (.t 6), none⟩,
            ⟨some 42, .mv (.t 7), none⟩,
            ⟨some 4, .mv (.t 41), none⟩,
            ⟨some 5, .mv (.t 42), none⟩])
          (.ret))
          (.skip))))
       (.reg [⟨some 27, .mv (.t 7), none⟩,
         ⟨some 28, .bin .add (.t 27) (.k (.int .i64 1)), none⟩,
         ⟨some 7, .mv (.t 28), none⟩])))))))
    (.reg [⟨some 15, .mv (.t 6), none⟩,
      ⟨some 16, .bin .add (.t 15) (.k (.int .i64 1)), none⟩,
      ⟨some 6, .mv (.t 16), none⟩]))))))
  (.seq (.reg [⟨some 4, .mv (.k (.int .i64 (-1))), none⟩,
    ⟨some 5, .mv (.k (.int .i64 (-1))), none⟩])
  (.ret)))
theorem b91 : Body Try.prog 91 c91 [.tmp 4, .tmp 5] 43 := ⟨by kernel_rfl, _, _, Try.func91, rfl, by kernel_rfl, by kernel_rfl, rfl⟩
def c92 : ACode :=
  .seq (.reg [⟨some 7, .mv (.t 0), none⟩,
    ⟨some 8, .nchk (.t 7), none⟩,
    ⟨some 9, .faddr 1 (.t 8), none⟩,
    ⟨some 10, .load false 1 (.t 9), none⟩,
    ⟨some 11, .mv (.t 1), none⟩,
    ⟨some 12, .iaddrS 1 (.t 10) (.t 11), none⟩,
    ⟨some 13, .load false 1 (.t 12), none⟩,
    ⟨some 6, .mv (.t 13), none⟩])
  (.regD [⟨some 14, .mv (.t 0), none⟩,
    ⟨some 15, .nchk (.t 14), none⟩,
    ⟨some 16, .faddr 1 (.t 15), none⟩,
    ⟨some 17, .load false 1 (.t 16), none⟩,
    ⟨some 18, .mv (.t 1), none⟩,
    ⟨some 19, .bslice 1 0 [] [], none⟩,
    ⟨some 20, .mv (.t 6), none⟩,
    ⟨some 21, .mv (.t 2), none⟩,
    ⟨some 22, .slS 1 (.t 20) none (some (.t 21)) none, none⟩,
    ⟨some 23, .append 1 8 (.t 19) (.t 22), none⟩,
    ⟨some 24, .mv (.t 6), none⟩,
    ⟨some 25, .mv (.t 2), none⟩,
    ⟨some 26, .bin .add (.t 25) (.k (.int .i64 1)), none⟩,
    ⟨some 27, .slS 1 (.t 24) (some (.t 26)) none none, none⟩,
    ⟨some 28, .append 1 8 (.t 23) (.t 27), none⟩,
    ⟨some 29, .iaddrS 1 (.t 17) (.t 18), none⟩,
    ⟨none, .store 1 (.t 29) (.t 28), none⟩] [[], [0], [1], [2], [], [], [], [], [6, 7], [5, 8], [], [], [11], [10, 12], [9, 13, 9], [3, 4, 0, 1, 2, 3, 4, 5, 6, 7, 8, 9, 10, 11, 12, 13, 14], [15, 14, 14, 0, 1, 2, 3, 4, 5, 6, 7, 8, 9, 10, 11, 12, 13, 14]])
theorem b92 : Body Try.prog 92 c92 [] 30 := ⟨by kernel_rfl, _, _, Try.func92, rfl, by kernel_rfl, by kernel_rfl, rfl⟩
def c93 : ACode :=
  .seq (.reg [⟨some 9, .mv (.t 0), none⟩,
    ⟨some 10, .nchk (.t 9), none⟩,
    ⟨some 11, .faddr 1 (.t 10), none⟩,
    ⟨some 12, .load false 1 (.t 11), none⟩,
    ⟨some 13, .mv (.t 1), none⟩,
    ⟨some 14, .iaddrS 1 (.t 12) (.t 13), none⟩,
    ⟨some 15, .load false 1 (.t 14), none⟩,
    ⟨some 8, .mv (.t 15), none⟩])
  (.regD [⟨some 16, .mv (.t 0), none⟩,
    ⟨some 17, .nchk (.t 16), none⟩,
    ⟨some 18, .faddr 1 (.t 17), none⟩,
    ⟨some 19, .load false 1 (.t 18), none⟩,
    ⟨some 20, .mv (.t 1), none⟩,
    ⟨some 21, .bslice 1 0 [] [], none⟩,
    ⟨some 22, .mv (.t 8), none⟩,
    ⟨some 23, .mv (.t 2), none⟩,
    ⟨some 24, .slS 1 (.t 22) none (some (.t 23)) none, none⟩,
    ⟨some 25, .append 1 8 (.t 21) (.t 24), none⟩,
    ⟨some 26, .mv (.t 3), none⟩,
    ⟨some 27, .bslice 1 1 [(.int .i64 0)] [(0, 1, (.t 26))], none⟩,
    ⟨some 28, .append 1 8 (.t 25) (.t 27), none⟩,
    ⟨some 29, .mv (.t 8), none⟩,
    ⟨some 30, .mv (.t 2), none⟩,
    ⟨some 31, .slS 1 (.t 29) (some (.t 30)) none none, none⟩,
    ⟨some 32, .append 1 8 (.t 28) (.t 31), none⟩,
    ⟨some 33, .iaddrS 1 (.t 19) (.t 20), none⟩,
    ⟨none, .store 1 (.t 33) (.t 32), none⟩] [[], [0], [1], [2], [], [], [], [], [6, 7], [5, 8], [], [10], [9, 11, 9], [], [], [13, 14], [12, 15, 12], [3, 4, 0, 1, 2, 3, 4, 5, 6, 7, 8, 9, 10, 11, 12, 13, 14, 15, 16], [17, 16, 16, 0, 1, 2, 3, 4, 5, 6, 7, 8, 9, 10, 11, 12, 13, 14, 15, 16]])
theorem b93 : Body Try.prog 93 c93 [] 34 := ⟨by kernel_rfl, _, _, Try.func93, rfl, by kernel_rfl, by kernel_rfl, rfl⟩
def c94 : ACode :=
  .seq (.reg [⟨some 6, .mv (.k (.int .i64 0)), none⟩])
  (.seq (.seq (.reg [⟨some 7, .mv (.t 2), none⟩])
  (.cond (.t 7) (.seq (.reg [⟨some 6, .mv (.k (.int .i64 0)), none⟩])
    (.ret))
    (.skip)))
  (.seq (.reg [⟨some 8, .mv (.t 0), none⟩,
    ⟨some 9, .nchk (.t 8), none⟩,
    ⟨some 10, .faddr 1 (.t 9), none⟩,
    ⟨some 11, .load false 1 (.t 10), none⟩,
    ⟨some 12, .mv (.t 1), none⟩,
    ⟨some 13, .iaddrS 1 (.t 11) (.t 12), none⟩,
    ⟨some 14, .load false 1 (.t 13), none⟩,
    ⟨some 15, .len (.t 14), none⟩,
    ⟨some 6, .mv (.t 15), none⟩])
  (.ret)))
theorem b94 : Body Try.prog 94 c94 [.tmp 6] 16 := ⟨by kernel_rfl, _, _, Try.func94, rfl, by kernel_rfl, by kernel_rfl, rfl⟩
def c95 : ACode :=
  .seq (.reg [⟨some 2, .mv (.k (.int .i64 0)), none⟩])
  (.seq (.seq (.reg [⟨some 3, .mv (.k (.int .i64 0)), none⟩])
  (.block 0 (.loop (.seq (.seq (.reg [⟨some 6, .mv (.t 3), none⟩,
      ⟨some 7, .mv (.t 0), none⟩,
      ⟨some 8, .nchk (.t 7), none⟩,
      ⟨some 9, .faddr 0 (.t 8), none⟩,
      ⟨some 10, .load false 1 (.t 9), none⟩,
      ⟨some 11, .bin .lss (.t 6) (.t 10), none⟩])
    (.cond (.t 11) (.skip)
      (.exit 0)))
    (.seq (.block 1 (.seq (.reg [⟨some 15, .mv (.t 0), none⟩,
       ⟨some 16, .mv (.t 3), none⟩,
       ⟨some 17, .call (.k (.fn 91 [] [])) [(.t 15), (.t 16)], none⟩,
       ⟨some 14, .mv (.t 17), none⟩,
       ⟨some 18, .ext (.t 14) 0, none⟩,
       ⟨some 19, .ext (.t 14) 1, none⟩,
       ⟨some 4, .mv (.t 18), none⟩,
       ⟨some 5, .mv (.t 19), none⟩])
     (.seq (.reg [⟨some 20, .mv (.t 4), none⟩,
       ⟨some 21, .bin .lss (.t 20) (.k (.int .i64 0)), none⟩])
     (.cond (.t 21) (.seq (.reg [⟨some 22, .mv (.t 3), none⟩,
         ⟨some 2, .mv (.t 22), none⟩])
       (.ret))
       (.skip)))))
    (.reg [⟨some 12, .mv (.t 3), none⟩,
      ⟨some 13, .bin .add (.t 12) (.k (.int .i64 1)), none⟩,
      ⟨some 3, .mv (.t 13), none⟩]))))))
  (.seq (.reg [⟨some 2, .mv (.k (.int .i64 (-1))), none⟩])
  (.ret)))
theorem b95 : Body Try.prog 95 c95 [.tmp 2] 23 := ⟨by kernel_rfl, _, _, Try.func95, rfl, by kernel_rfl, by kernel_rfl, rfl⟩
end Go.Proofs.Ytnddcnnangjgeaa
