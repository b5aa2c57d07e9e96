/-
  Abstract code of functions, printed by a program, and that it is theirs.
-/
import Derived.Test.YtjhmknnokloneaaDoorProg
import Derived.Test.YtjhmknnokloneaaDoorAmRow
set_option linter.unusedSimpArgs false
set_option linter.unusedVariables false
namespace Go.Proofs.YtjhmknnokloneaaDoor
open Go.Am
def c4 : ACode :=
  .seq (.reg [⟨some 4, .mv (.k (.bool false)), none⟩])
  (.seq (.seq (.reg [⟨some 20, .mv (.t 1), none⟩,
    ⟨some 21, .len (.t 20), none⟩,
    ⟨some 22, .bin .gtr (.t 21) (.k (.int .i64 12)), none⟩])
  (.cond (.t 22) (.seq (.reg [⟨some 23, .call (.k (.fn 10 [] [])) [], none⟩,
      ⟨some 4, .mv (.t 23), none⟩])
    (.ret))
    (.skip)))
  (.seq (.reg [⟨some 24, .mv (.t 0), none⟩,
    ⟨some 25, .bin .rem (.t 24) (.k (.int .u16 1024)), none⟩,
    ⟨some 26, .conv .i64 (.t 25), none⟩,
    ⟨some 5, .mv (.t 26), none⟩])
  (.seq (.reg [⟨some 6, .new (List.replicate 64 (.bool false)), none⟩])
  (.seq (.reg [⟨some 7, .new [.nils], none⟩])
  (.seq (.reg [⟨some 8, .mv (.k (.bool false)), none⟩])
  (.seq (.seq (.reg [⟨some 9, .mv (.k (.int .i64 0)), none⟩])
  (.block 0 (.loop (.seq (.seq (.reg [⟨some 27, .mv (.t 9), none⟩,
      ⟨some 28, .mv (.t 1), none⟩,
      ⟨some 29, .len (.t 28), none⟩,
      ⟨some 30, .bin .lss (.t 27) (.t 29), none⟩])
    (.cond (.t 30) (.skip)
      (.exit 0)))
    (.seq (.block 1 (.seq (.reg [⟨some 33, .mv (.t 1), none⟩,
       ⟨some 34, .mv (.t 9), none⟩,
       ⟨some 35, .iaddrS 2 (.t 33) (.t 34), none⟩,
       ⟨some 36, .faddr 0 (.t 35), none⟩,
       ⟨some 37, .load false 1 (.t 36), none⟩,
       ⟨some 38, .conv .u64 (.t 37), none⟩,
       ⟨some 39, .bin .rem (.t 38) (.k (.int .u64 64)), none⟩,
       ⟨some 40, .conv .i64 (.t 39), none⟩,
       ⟨some 10, .mv (.t 40), none⟩])
     (.seq (.reg [⟨some 41, .mv (.t 1), none⟩,
       ⟨some 42, .mv (.t 9), none⟩,
       ⟨some 43, .iaddrS 2 (.t 41) (.t 42), none⟩,
       ⟨some 44, .faddr 1 (.t 43), none⟩,
       ⟨some 45, .load false 1 (.t 44), none⟩,
       ⟨some 46, .conv .u64 (.t 45), none⟩,
       ⟨some 47, .bin .rem (.t 46) (.k (.int .u64 64)), none⟩,
       ⟨some 48, .conv .i64 (.t 47), none⟩,
       ⟨some 49, .bin .add (.k (.int .i64 1)) (.t 48), none⟩,
       ⟨some 50, .mv (.t 10), none⟩,
       ⟨some 51, .bin .sub (.k (.int .i64 64)) (.t 50), none⟩,
       ⟨some 52, .minmax false (.t 49) [(.t 51)], none⟩,
       ⟨some 11, .mv (.t 52), none⟩])
     (.seq (.seq (.reg [⟨some 53, .mv (.t 10), none⟩,
       ⟨some 12, .mv (.t 53), none⟩])
     (.block 2 (.loop (.seq (.seq (.reg [⟨some 54, .mv (.t 12), none⟩,
         ⟨some 55, .mv (.t 10), none⟩,
         ⟨some 56, .mv (.t 11), none⟩,
         ⟨some 57, .bin .add (.t 55) (.t 56), none⟩,
         ⟨some 58, .bin .lss (.t 54) (.t 57), none⟩])
       (.cond (.t 58) (.skip)
         (.exit 2)))
       (.seq (.block 3 (.reg [⟨some 61, .mv (.t 12), none⟩,
          ⟨some 62, .iaddrA 64 1 (.t 6) (.t 61), none⟩,
          ⟨none, .store 1 (.t 62) (.k (.bool true)), none⟩]))
       (.reg [⟨some 59, .mv (.t 12), none⟩,
         ⟨some 60, .bin .add (.t 59) (.k (.int .i64 1)), none⟩,
         ⟨some 12, .mv (.t 60), none⟩]))))))
     (.seq (.reg [⟨some 64, .load true 1 (.t 7), none⟩,
       ⟨some 65, .mv (.t 5), none⟩,
       ⟨some 66, .bin .mul (.t 65) (.k (.int .i64 64)), none⟩,
       ⟨some 67, .mv (.t 10), none⟩,
       ⟨some 68, .bin .add (.t 66) (.t 67), none⟩,
       ⟨some 69, .mv (.t 11), none⟩,
       ⟨some 70, .call (.k (.fn 11 [] [])) [(.t 64), (.t 68), (.t 69)], none⟩,
       ⟨some 63, .mv (.t 70), none⟩,
       ⟨some 71, .ext (.t 63) 0, none⟩,
       ⟨some 72, .ext (.t 63) 1, none⟩,
       ⟨some 13, .new [.nils], none⟩,
       ⟨none, .store 1 (.t 13) (.t 71), none⟩,
       ⟨some 14, .mv (.t 72), none⟩])
     (.seq (.reg [⟨some 74, .load true 1 (.t 13), none⟩,
       ⟨some 75, .mv (.t 5), none⟩,
       ⟨some 76, .bin .mul (.t 75) (.k (.int .i64 64)), none⟩,
       ⟨some 77, .call (.k (.fn 16 [] [])) [(.t 74), (.t 76), (.k (.int .i64 64))], none⟩,
       ⟨some 73, .mv (.t 77), none⟩,
       ⟨some 78, .ext (.t 73) 0, none⟩,
       ⟨some 79, .ext (.t 73) 1, none⟩,
       ⟨some 15, .mv (.t 78), none⟩,
       ⟨some 16, .mv (.t 79), none⟩])
     (.seq (.seq (.reg [⟨some 80, .mv (.t 14), none⟩,
       ⟨some 81, .bin .neq (.t 80) (.k (.int .i64 0)), none⟩,
       ⟨some 82, .mv (.t 81), none⟩,
       ⟨some 83, .mv (.t 16), some (82, false)⟩,
       ⟨some 84, .bin .neq (.t 83) (.k (.int .i64 0)), some (82, false)⟩,
       ⟨some 85, .pick (.t 82) (.k (.bool true)) (.t 84), none⟩])
     (.cond (.t 85) (.seq (.reg [⟨some 4, .mv (.k (.bool false)), none⟩])
       (.ret))
       (.skip)))
     (.seq (.reg [⟨some 87, .load true 64 (.t 6), none⟩,
       ⟨some 88, .call (.k (.fn 17 [] [])) [(.t 87)], none⟩,
       ⟨some 86, .mv (.t 88), none⟩,
       ⟨some 89, .ext (.t 86) 0, none⟩,
       ⟨some 90, .ext (.t 86) 1, none⟩,
       ⟨some 91, .ext (.t 86) 2, none⟩,
       ⟨some 17, .mv (.t 89), none⟩,
       ⟨some 18, .mv (.t 90), none⟩,
       ⟨some 19, .mv (.t 91), none⟩])
     (.seq (.seq (.reg [⟨some 92, .mv (.t 17), none⟩,
       ⟨some 93, .bin .gtr (.t 92) (.k (.int .i64 4)), none⟩])
     (.cond (.t 93) (.reg [⟨some 8, .mv (.k (.bool true)), none⟩])
       (.skip)))
     (.seq (.seq (.reg [⟨some 94, .mv (.t 8), none⟩,
       ⟨some 95, .un .not (.t 94), none⟩,
       ⟨some 96, .mv (.t 95), none⟩,
       ⟨some 97, .mv (.t 15), some (96, true)⟩,
       ⟨some 98, .mv (.t 18), some (96, true)⟩,
       ⟨some 99, .bin .neq (.t 97) (.t 98), some (96, true)⟩,
       ⟨some 100, .pick (.t 96) (.t 99) (.k (.bool false)), none⟩,
       ⟨some 101, .mv (.t 100), none⟩,
       ⟨some 102, .mv (.t 17), some (101, false)⟩,
       ⟨some 103, .bin .eql (.t 102) (.k (.int .i64 5)), some (101, false)⟩,
       ⟨some 104, .mv (.t 103), some (101, false)⟩,
       ⟨some 105, .mv (.t 8), some (104, true)⟩,
       ⟨some 106, .pick (.t 104) (.t 105) (.k (.bool false)), some (101, false)⟩,
       ⟨some 107, .mv (.t 106), some (101, false)⟩,
       ⟨some 108, .mv (.t 15), some (107, true)⟩,
       ⟨some 109, .mv (.t 18), some (107, true)⟩,
       ⟨some 110, .mv (.t 19), some (107, true)⟩,
       ⟨some 111, .bin .add (.t 109) (.t 110), some (107, true)⟩,
       ⟨some 112, .bin .neq (.t 108) (.t 111), some (107, true)⟩,
       ⟨some 113, .pick (.t 107) (.t 112) (.k (.bool false)), some (101, false)⟩,
       ⟨some 114, .pick (.t 101) (.k (.bool true)) (.t 113), none⟩])
     (.cond (.t 114) (.seq (.reg [⟨some 4, .mv (.k (.bool false)), none⟩])
       (.ret))
       (.skip)))
     (.seq (.seq (.reg [⟨some 115, .mv (.t 17), none⟩,
       ⟨some 116, .bin .gtr (.t 115) (.k (.int .i64 4)), none⟩])
     (.cond (.t 116) (.seq (.reg [⟨some 117, .call (.k (.fn 10 [] [])) [], none⟩,
         ⟨some 4, .mv (.t 117), none⟩])
       (.ret))
       (.skip)))
     (.reg [⟨some 118, .load true 1 (.t 13), none⟩,
       ⟨none, .store 1 (.t 7) (.t 118), none⟩]))))))))))))
    (.reg [⟨some 31, .mv (.t 9), none⟩,
      ⟨some 32, .bin .add (.t 31) (.k (.int .i64 1)), none⟩,
      ⟨some 9, .mv (.t 32), none⟩]))))))
  (.seq (.reg [⟨some 119, .call (.k (.fn 10 [] [])) [], none⟩,
    ⟨some 4, .mv (.t 119), none⟩])
  (.ret))))))))
theorem b4 : Body Tryd.prog 4 c4 [.tmp 4] 120 := ⟨by kernel_rfl, _, _, Tryd.func4, rfl, by kernel_rfl, by kernel_rfl, rfl⟩
def c7 : ACode :=
  .seq (.reg [⟨some 2, .mv (.k (.bool false)), none⟩])
  (.seq (.seq (.reg [⟨some 14, .mv (.t 0), none⟩,
    ⟨some 15, .len (.t 14), none⟩,
    ⟨some 16, .bin .gtr (.t 15) (.k (.int .i64 60)), none⟩])
  (.cond (.t 16) (.seq (.reg [⟨some 17, .call (.k (.fn 10 [] [])) [], none⟩,
      ⟨some 2, .mv (.t 17), none⟩])
    (.ret))
    (.skip)))
  (.seq (.reg [⟨some 18, .mks 1 1 [(.bool false)] (.k (.int .i64 1024)) (.k (.int .i64 1024)), none⟩,
    ⟨some 3, .mv (.t 18), none⟩])
  (.seq (.reg [⟨some 4, .new [.nils], none⟩])
  (.seq (.seq (.reg [⟨some 5, .mv (.k (.int .i64 0)), none⟩])
  (.block 0 (.loop (.seq (.seq (.reg [⟨some 19, .mv (.t 5), none⟩,
      ⟨some 20, .mv (.t 0), none⟩,
      ⟨some 21, .len (.t 20), none⟩,
      ⟨some 22, .bin .lss (.t 19) (.t 21), none⟩])
    (.cond (.t 22) (.skip)
      (.exit 0)))
    (.seq (.block 1 (.seq (.regD [⟨some 25, .mv (.t 0), none⟩,
       ⟨some 26, .mv (.t 5), none⟩,
       ⟨some 27, .iaddrS 3 (.t 25) (.t 26), none⟩,
       ⟨some 28, .faddr 1 (.t 27), none⟩,
       ⟨some 29, .load false 1 (.t 28), none⟩,
       ⟨some 30, .bin .rem (.t 29) (.k (.int .u16 1024)), none⟩,
       ⟨some 31, .conv .i64 (.t 30), none⟩,
       ⟨some 32, .mv (.t 0), none⟩,
       ⟨some 33, .mv (.t 5), none⟩,
       ⟨some 34, .iaddrS 3 (.t 32) (.t 33), none⟩,
       ⟨some 35, .faddr 2 (.t 34), none⟩,
       ⟨some 36, .load false 1 (.t 35), none⟩,
       ⟨some 37, .bin .rem (.t 36) (.k (.int .u8 100)), none⟩,
       ⟨some 38, .conv .i64 (.t 37), none⟩,
       ⟨some 6, .mv (.t 31), none⟩,
       ⟨some 7, .mv (.t 38), none⟩] [[], [], [0, 1], [2], [3], [4], [5], [], [], [7, 8], [9], [10], [11], [12], [6, 0, 1, 2, 3, 4, 5, 6], [13, 14, 0, 1, 2, 3, 4, 5, 6, 7, 8, 9, 10, 11, 12, 13, 14]])
     (.seq (.reg [⟨some 39, .mv (.t 7), none⟩,
       ⟨some 40, .mv (.t 6), none⟩,
       ⟨some 41, .bin .sub (.k (.int .i64 1024)) (.t 40), none⟩,
       ⟨some 42, .minmax false (.t 39) [(.t 41)], none⟩,
       ⟨some 7, .mv (.t 42), none⟩])
     (.seq (.reg [⟨some 8, .mv (.k (.int .i64 0)), none⟩])
     (.seq (.seq (.reg [⟨some 43, .mv (.t 0), none⟩,
       ⟨some 44, .mv (.t 5), none⟩,
       ⟨some 45, .iaddrS 3 (.t 43) (.t 44), none⟩,
       ⟨some 46, .faddr 0 (.t 45), none⟩,
       ⟨some 47, .load false 1 (.t 46), none⟩,
       ⟨some 48, .bin .rem (.t 47) (.k (.int .u8 4)), none⟩])
     (.block 2 (.seq (.reg [⟨some 68, .bin .eql (.t 48) (.k (.int .u8 2)), none⟩,
        ⟨some 67, .mv (.t 68), none⟩])
      (.cond (.t 67) (.seq (.reg [⟨some 70, .load true 1 (.t 4), none⟩,
          ⟨some 71, .mv (.t 6), none⟩,
          ⟨some 72, .mv (.t 7), none⟩,
          ⟨some 73, .call (.k (.fn 18 [] [])) [(.t 70), (.t 71), (.t 72)], none⟩,
          ⟨some 69, .mv (.t 73), none⟩,
          ⟨some 74, .ext (.t 69) 0, none⟩,
          ⟨some 75, .ext (.t 69) 1, none⟩,
          ⟨some 9, .mv (.t 74), none⟩,
          ⟨some 10, .mv (.t 75), none⟩])
        (.seq (.seq (.reg [⟨some 76, .mv (.t 10), none⟩,
          ⟨some 77, .bin .neq (.t 76) (.k (.int .i64 0)), none⟩,
          ⟨some 78, .mv (.t 77), none⟩,
          ⟨some 79, .mv (.t 3), some (78, false)⟩,
          ⟨some 80, .mv (.t 9), some (78, false)⟩,
          ⟨some 81, .mv (.t 6), some (78, false)⟩,
          ⟨some 82, .mv (.t 7), some (78, false)⟩,
          ⟨some 83, .call (.k (.fn 28 [] [])) [(.t 79), (.t 80), (.t 81), (.t 82)], some (78, false)⟩,
          ⟨some 84, .un .not (.t 83), some (78, false)⟩,
          ⟨some 85, .pick (.t 78) (.k (.bool true)) (.t 84), none⟩])
        (.cond (.t 85) (.seq (.reg [⟨some 2, .mv (.k (.bool false)), none⟩])
          (.ret))
          (.skip)))
        (.reg [⟨some 87, .load true 1 (.t 4), none⟩,
          ⟨some 88, .mv (.t 6), none⟩,
          ⟨some 89, .mv (.t 7), none⟩,
          ⟨some 90, .call (.k (.fn 13 [] [])) [(.t 87), (.t 88), (.t 89)], none⟩,
          ⟨some 86, .mv (.t 90), none⟩,
          ⟨some 91, .ext (.t 86) 0, none⟩,
          ⟨some 92, .ext (.t 86) 1, none⟩,
          ⟨none, .store 1 (.t 4) (.t 91), none⟩,
          ⟨some 8, .mv (.t 92), none⟩])))
        (.seq (.reg [⟨some 94, .bin .eql (.t 48) (.k (.int .u8 3)), none⟩,
          ⟨some 93, .mv (.t 94), none⟩])
        (.cond (.t 93) (.seq (.reg [⟨some 95, .mv (.t 6), none⟩,
            ⟨some 96, .bin .quo (.t 95) (.k (.int .i64 64)), none⟩,
            ⟨some 97, .mv (.t 7), none⟩,
            ⟨some 98, .bin .quo (.t 97) (.k (.int .i64 64)), none⟩,
            ⟨some 99, .bin .add (.k (.int .i64 1)) (.t 98), none⟩,
            ⟨some 100, .build [(.int .i64 0), (.int .i64 0)] [(0, 1, (.t 96)), (1, 1, (.t 99))], none⟩,
            ⟨some 11, .new [(.int .i64 0), (.int .i64 0)], none⟩,
            ⟨none, .store 2 (.t 11) (.t 100), none⟩])
          (.seq (.reg [⟨some 101, .faddr 1 (.t 11), none⟩,
            ⟨some 102, .load false 1 (.t 101), none⟩,
            ⟨some 103, .faddr 0 (.t 11), none⟩,
            ⟨some 104, .load false 1 (.t 103), none⟩,
            ⟨some 105, .bin .sub (.k (.int .i64 16)) (.t 104), none⟩,
            ⟨some 106, .minmax false (.t 102) [(.t 105)], none⟩,
            ⟨some 107, .faddr 1 (.t 11), none⟩,
            ⟨none, .store 1 (.t 107) (.t 106), none⟩])
          (.seq (.seq (.reg [⟨some 108, .faddr 0 (.t 11), none⟩,
            ⟨some 109, .load false 1 (.t 108), none⟩,
            ⟨some 110, .bin .mul (.t 109) (.k (.int .i64 64)), none⟩,
            ⟨some 12, .mv (.t 110), none⟩])
          (.block 5 (.loop (.seq (.seq (.reg [⟨some 111, .mv (.t 12), none⟩,
              ⟨some 112, .faddr 0 (.t 11), none⟩,
              ⟨some 113, .load false 1 (.t 112), none⟩,
              ⟨some 114, .faddr 1 (.t 11), none⟩,
              ⟨some 115, .load false 1 (.t 114), none⟩,
              ⟨some 116, .bin .add (.t 113) (.t 115), none⟩,
              ⟨some 117, .bin .mul (.t 116) (.k (.int .i64 64)), none⟩,
              ⟨some 118, .bin .lss (.t 111) (.t 117), none⟩])
            (.cond (.t 118) (.skip)
              (.exit 5)))
            (.seq (.block 6 (.reg [⟨some 121, .mv (.t 3), none⟩,
               ⟨some 122, .mv (.t 12), none⟩,
               ⟨some 123, .iaddrS 1 (.t 121) (.t 122), none⟩,
               ⟨none, .store 1 (.t 123) (.k (.bool false)), none⟩]))
            (.reg [⟨some 119, .mv (.t 12), none⟩,
              ⟨some 120, .bin .add (.t 119) (.k (.int .i64 1)), none⟩,
              ⟨some 12, .mv (.t 120), none⟩]))))))
          (.reg [⟨some 125, .load true 1 (.t 4), none⟩,
            ⟨some 126, .load true 2 (.t 11), none⟩,
            ⟨some 127, .call (.k (.fn 24 [] [])) [(.t 125), (.t 126)], none⟩,
            ⟨some 124, .mv (.t 127), none⟩,
            ⟨some 128, .ext (.t 124) 0, none⟩,
            ⟨some 129, .ext (.t 124) 1, none⟩,
            ⟨none, .store 1 (.t 4) (.t 128), none⟩,
            ⟨some 8, .mv (.t 129), none⟩]))))
          (.seq (.seq (.reg [⟨some 49, .mv (.t 6), none⟩,
            ⟨some 13, .mv (.t 49), none⟩])
          (.block 3 (.loop (.seq (.seq (.reg [⟨some 50, .mv (.t 13), none⟩,
              ⟨some 51, .mv (.t 6), none⟩,
              ⟨some 52, .mv (.t 7), none⟩,
              ⟨some 53, .bin .add (.t 51) (.t 52), none⟩,
              ⟨some 54, .bin .lss (.t 50) (.t 53), none⟩])
            (.cond (.t 54) (.skip)
              (.exit 3)))
            (.seq (.block 4 (.reg [⟨some 57, .mv (.t 3), none⟩,
               ⟨some 58, .mv (.t 13), none⟩,
               ⟨some 59, .iaddrS 1 (.t 57) (.t 58), none⟩,
               ⟨none, .store 1 (.t 59) (.k (.bool true)), none⟩]))
            (.reg [⟨some 55, .mv (.t 13), none⟩,
              ⟨some 56, .bin .add (.t 55) (.k (.int .i64 1)), none⟩,
              ⟨some 13, .mv (.t 56), none⟩]))))))
          (.reg [⟨some 61, .load true 1 (.t 4), none⟩,
            ⟨some 62, .mv (.t 6), none⟩,
            ⟨some 63, .mv (.t 7), none⟩,
            ⟨some 64, .call (.k (.fn 11 [] [])) [(.t 61), (.t 62), (.t 63)], none⟩,
            ⟨some 60, .mv (.t 64), none⟩,
            ⟨some 65, .ext (.t 60) 0, none⟩,
            ⟨some 66, .ext (.t 60) 1, none⟩,
            ⟨none, .store 1 (.t 4) (.t 65), none⟩,
            ⟨some 8, .mv (.t 66), none⟩]))))))))
     (.seq (.reg [⟨some 130, .mv (.t 8), none⟩,
       ⟨some 131, .bin .neq (.t 130) (.k (.int .i64 0)), none⟩,
       ⟨some 132, .mv (.t 131), none⟩,
       ⟨some 133, .load true 1 (.t 4), some (132, false)⟩,
       ⟨some 134, .call (.k (.fn 29 [] [])) [(.t 133)], some (132, false)⟩,
       ⟨some 135, .un .not (.t 134), some (132, false)⟩,
       ⟨some 136, .pick (.t 132) (.k (.bool true)) (.t 135), none⟩,
       ⟨some 137, .mv (.t 136), none⟩,
       ⟨some 138, .load true 1 (.t 4), some (137, false)⟩,
       ⟨some 139, .mv (.t 3), some (137, false)⟩,
       ⟨some 140, .call (.k (.fn 30 [] [])) [(.t 138), (.t 139)], some (137, false)⟩,
       ⟨some 141, .un .not (.t 140), some (137, false)⟩,
       ⟨some 142, .pick (.t 137) (.k (.bool true)) (.t 141), none⟩])
     (.cond (.t 142) (.seq (.reg [⟨some 2, .mv (.k (.bool false)), none⟩])
       (.ret))
       (.skip))))))))
    (.reg [⟨some 23, .mv (.t 5), none⟩,
      ⟨some 24, .bin .add (.t 23) (.k (.int .i64 1)), none⟩,
      ⟨some 5, .mv (.t 24), none⟩]))))))
  (.seq (.reg [⟨some 143, .call (.k (.fn 10 [] [])) [], none⟩,
    ⟨some 2, .mv (.t 143), none⟩])
  (.ret))))))
theorem b7 : Body Tryd.prog 7 c7 [.tmp 2] 144 := ⟨by kernel_rfl, _, _, Tryd.func7, rfl, by kernel_rfl, by kernel_rfl, rfl⟩
def c8 : ACode :=
  .seq (.reg [⟨some 3, .box (.t 1), none⟩,
    ⟨some 4, .mv (.k (.bool false)), none⟩])
  (.seq (.seq (.reg [⟨some 18, .mv (.t 0), none⟩,
    ⟨some 19, .len (.t 18), none⟩,
    ⟨some 20, .bin .gtr (.t 19) (.k (.int .i64 10)), none⟩,
    ⟨some 21, .mv (.t 20), none⟩,
    ⟨some 22, .mv (.t 0), some (21, false)⟩,
    ⟨some 23, .call (.k (.fn 31 [] [])) [(.t 22)], some (21, false)⟩,
    ⟨some 24, .un .not (.t 23), some (21, false)⟩,
    ⟨some 25, .pick (.t 21) (.k (.bool true)) (.t 24), none⟩])
  (.cond (.t 25) (.seq (.reg [⟨some 26, .call (.k (.fn 10 [] [])) [], none⟩,
      ⟨some 4, .mv (.t 26), none⟩])
    (.ret))
    (.skip)))
  (.seq (.reg [⟨some 5, .new [.nils], none⟩,
    ⟨some 6, .new [.nils], none⟩])
  (.seq (.seq (.reg [⟨some 7, .mv (.k (.int .i64 0)), none⟩])
  (.block 0 (.loop (.seq (.seq (.reg [⟨some 27, .mv (.t 7), none⟩,
      ⟨some 28, .mv (.t 0), none⟩,
      ⟨some 29, .len (.t 28), none⟩,
      ⟨some 30, .bin .lss (.t 27) (.t 29), none⟩])
    (.cond (.t 30) (.skip)
      (.exit 0)))
    (.seq (.block 1 (.seq (.reg [⟨some 33, .mv (.t 0), none⟩,
       ⟨some 34, .mv (.t 7), none⟩,
       ⟨some 35, .iaddrS 3 (.t 33) (.t 34), none⟩,
       ⟨some 36, .faddr 1 (.t 35), none⟩,
       ⟨some 37, .load false 1 (.t 36), none⟩,
       ⟨some 38, .bin .rem (.t 37) (.k (.int .u16 1024)), none⟩,
       ⟨some 39, .conv .i64 (.t 38), none⟩,
       ⟨some 8, .mv (.t 39), none⟩])
     (.seq (.reg [⟨some 40, .mv (.t 0), none⟩,
       ⟨some 41, .mv (.t 0), none⟩,
       ⟨some 42, .len (.t 41), none⟩,
       ⟨some 43, .bin .sub (.t 42) (.k (.int .i64 1)), none⟩,
       ⟨some 44, .mv (.t 7), none⟩,
       ⟨some 45, .bin .sub (.t 43) (.t 44), none⟩,
       ⟨some 46, .iaddrS 3 (.t 40) (.t 45), none⟩,
       ⟨some 47, .faddr 1 (.t 46), none⟩,
       ⟨some 48, .load false 1 (.t 47), none⟩,
       ⟨some 49, .bin .rem (.t 48) (.k (.int .u16 1024)), none⟩,
       ⟨some 50, .conv .i64 (.t 49), none⟩,
       ⟨some 9, .mv (.t 50), none⟩])
     (.seq (.regD [⟨some 52, .load true 1 (.t 5), none⟩,
       ⟨some 53, .mv (.t 8), none⟩,
       ⟨some 54, .mv (.t 0), none⟩,
       ⟨some 55, .mv (.t 7), none⟩,
       ⟨some 56, .iaddrS 3 (.t 54) (.t 55), none⟩,
       ⟨some 57, .faddr 2 (.t 56), none⟩,
       ⟨some 58, .load false 1 (.t 57), none⟩,
       ⟨some 59, .bin .rem (.t 58) (.k (.int .u8 100)), none⟩,
       ⟨some 60, .conv .i64 (.t 59), none⟩,
       ⟨some 61, .mv (.t 8), none⟩,
       ⟨some 62, .bin .sub (.k (.int .i64 1024)) (.t 61), none⟩,
       ⟨some 63, .minmax false (.t 60) [(.t 62)], none⟩,
       ⟨some 64, .call (.k (.fn 11 [] [])) [(.t 52), (.t 53), (.t 63)], none⟩,
       ⟨some 51, .mv (.t 64), none⟩,
       ⟨some 65, .ext (.t 51) 0, none⟩,
       ⟨some 66, .ext (.t 51) 1, none⟩,
       ⟨some 10, .new [.nils], none⟩,
       ⟨none, .store 1 (.t 10) (.t 65), none⟩,
       ⟨some 11, .mv (.t 66), none⟩] [[], [], [], [], [2, 3], [4], [5], [6], [7], [], [9], [8, 10], [0, 1, 11], [12], [13], [13], [], [16, 14, 12, 0, 1, 2, 3, 4, 5, 6, 7, 8, 9, 10, 11, 12, 13, 14, 16], [15, 17, 0, 1, 2, 3, 4, 5, 6, 7, 8, 9, 10, 11, 12, 13, 14, 15, 16, 17]])
     (.seq (.regD [⟨some 68, .load true 1 (.t 6), none⟩,
       ⟨some 69, .mv (.t 9), none⟩,
       ⟨some 70, .mv (.t 0), none⟩,
       ⟨some 71, .mv (.t 0), none⟩,
       ⟨some 72, .len (.t 71), none⟩,
       ⟨some 73, .bin .sub (.t 72) (.k (.int .i64 1)), none⟩,
       ⟨some 74, .mv (.t 7), none⟩,
       ⟨some 75, .bin .sub (.t 73) (.t 74), none⟩,
       ⟨some 76, .iaddrS 3 (.t 70) (.t 75), none⟩,
       ⟨some 77, .faddr 2 (.t 76), none⟩,
       ⟨some 78, .load false 1 (.t 77), none⟩,
       ⟨some 79, .bin .rem (.t 78) (.k (.int .u8 100)), none⟩,
       ⟨some 80, .conv .i64 (.t 79), none⟩,
       ⟨some 81, .mv (.t 9), none⟩,
       ⟨some 82, .bin .sub (.k (.int .i64 1024)) (.t 81), none⟩,
       ⟨some 83, .minmax false (.t 80) [(.t 82)], none⟩,
       ⟨some 84, .call (.k (.fn 11 [] [])) [(.t 68), (.t 69), (.t 83)], none⟩,
       ⟨some 67, .mv (.t 84), none⟩,
       ⟨some 85, .ext (.t 67) 0, none⟩,
       ⟨some 86, .ext (.t 67) 1, none⟩,
       ⟨some 12, .new [.nils], none⟩,
       ⟨none, .store 1 (.t 12) (.t 85), none⟩,
       ⟨some 13, .mv (.t 86), none⟩] [[], [], [], [], [3], [4], [], [5, 6], [2, 7], [8], [9], [10], [11], [], [13], [12, 14], [0, 1, 15], [16], [17], [17], [], [20, 18, 16, 0, 1, 2, 3, 4, 5, 6, 7, 8, 9, 10, 11, 12, 13, 14, 15, 16, 17, 18, 20], [19, 21, 0, 1, 2, 3, 4, 5, 6, 7, 8, 9, 10, 11, 12, 13, 14, 15, 16, 17, 18, 19, 20, 21]])
     (.seq (.seq (.reg [⟨some 87, .mv (.t 11), none⟩,
       ⟨some 88, .bin .neq (.t 87) (.k (.int .i64 0)), none⟩,
       ⟨some 89, .mv (.t 88), none⟩,
       ⟨some 90, .mv (.t 13), some (89, false)⟩,
       ⟨some 91, .bin .neq (.t 90) (.k (.int .i64 0)), some (89, false)⟩,
       ⟨some 92, .pick (.t 89) (.k (.bool true)) (.t 91), none⟩])
     (.cond (.t 92) (.seq (.reg [⟨some 4, .mv (.k (.bool false)), none⟩])
       (.ret))
       (.skip)))
     (.regD [⟨some 93, .load true 1 (.t 10), none⟩,
       ⟨some 94, .load true 1 (.t 12), none⟩,
       ⟨none, .store 1 (.t 5) (.t 93), none⟩,
       ⟨none, .store 1 (.t 6) (.t 94), none⟩] [[], [], [0, 0], [1, 2, 0, 1, 2]])))))))
    (.reg [⟨some 31, .mv (.t 7), none⟩,
      ⟨some 32, .bin .add (.t 31) (.k (.int .i64 1)), none⟩,
      ⟨some 7, .mv (.t 32), none⟩]))))))
  (.seq (.seq (.reg [⟨some 95, .load true 1 (.t 5), none⟩,
    ⟨some 96, .load true 1 (.t 6), none⟩,
    ⟨some 97, .call (.k (.fn 15 [] [])) [(.t 95), (.t 96)], none⟩,
    ⟨some 98, .un .not (.t 97), none⟩])
  (.cond (.t 98) (.seq (.reg [⟨some 4, .mv (.k (.bool false)), none⟩])
    (.ret))
    (.skip)))
  (.seq (.seq (.reg [⟨some 99, .load true 2 (.t 3), none⟩,
    ⟨some 100, .call (.k (.fn 32 [] [])) [(.t 99)], none⟩,
    ⟨some 101, .un .not (.t 100), none⟩])
  (.cond (.t 101) (.seq (.reg [⟨some 102, .call (.k (.fn 10 [] [])) [], none⟩,
      ⟨some 4, .mv (.t 102), none⟩])
    (.ret))
    (.skip)))
  (.seq (.reg [⟨some 104, .load true 1 (.t 5), none⟩,
    ⟨some 105, .load true 2 (.t 3), none⟩,
    ⟨some 106, .call (.k (.fn 24 [] [])) [(.t 104), (.t 105)], none⟩,
    ⟨some 103, .mv (.t 106), none⟩,
    ⟨some 107, .ext (.t 103) 0, none⟩,
    ⟨some 108, .ext (.t 103) 1, none⟩,
    ⟨some 14, .new [.nils], none⟩,
    ⟨none, .store 1 (.t 14) (.t 107), none⟩,
    ⟨some 15, .mv (.t 108), none⟩])
  (.seq (.reg [⟨some 110, .load true 1 (.t 5), none⟩,
    ⟨some 111, .faddr 0 (.t 3), none⟩,
    ⟨some 112, .load false 1 (.t 111), none⟩,
    ⟨some 113, .bin .mul (.t 112) (.k (.int .i64 64)), none⟩,
    ⟨some 114, .faddr 1 (.t 3), none⟩,
    ⟨some 115, .load false 1 (.t 114), none⟩,
    ⟨some 116, .bin .mul (.t 115) (.k (.int .i64 64)), none⟩,
    ⟨some 117, .call (.k (.fn 13 [] [])) [(.t 110), (.t 113), (.t 116)], none⟩,
    ⟨some 109, .mv (.t 117), none⟩,
    ⟨some 118, .ext (.t 109) 0, none⟩,
    ⟨some 119, .ext (.t 109) 1, none⟩,
    ⟨some 16, .new [.nils], none⟩,
    ⟨none, .store 1 (.t 16) (.t 118), none⟩,
    ⟨some 17, .mv (.t 119), none⟩])
  (.seq (.reg [⟨some 120, .mv (.t 15), none⟩,
    ⟨some 121, .bin .eql (.t 120) (.k (.int .i64 0)), none⟩,
    ⟨some 122, .mv (.t 121), none⟩,
    ⟨some 123, .mv (.t 17), some (122, true)⟩,
    ⟨some 124, .bin .eql (.t 123) (.k (.int .i64 0)), some (122, true)⟩,
    ⟨some 125, .pick (.t 122) (.t 124) (.k (.bool false)), none⟩,
    ⟨some 126, .mv (.t 125), none⟩,
    ⟨some 127, .load true 1 (.t 14), some (126, true)⟩,
    ⟨some 128, .load true 1 (.t 16), some (126, true)⟩,
    ⟨some 129, .call (.k (.fn 15 [] [])) [(.t 127), (.t 128)], some (126, true)⟩,
    ⟨some 130, .pick (.t 126) (.t 129) (.k (.bool false)), none⟩,
    ⟨some 131, .mv (.t 130), none⟩,
    ⟨some 132, .call (.k (.fn 10 [] [])) [], some (131, true)⟩,
    ⟨some 133, .pick (.t 131) (.t 132) (.k (.bool false)), none⟩,
    ⟨some 4, .mv (.t 133), none⟩])
  (.ret)))))))))
theorem b8 : Body Tryd.prog 8 c8 [.tmp 4] 134 := ⟨by kernel_rfl, _, _, Tryd.func8, rfl, by kernel_rfl, by kernel_rfl, rfl⟩
def c17 : ACode :=
  .seq (.reg [⟨some 1, .box (.t 0), none⟩,
    ⟨some 2, .mv (.k (.int .i64 0)), none⟩,
    ⟨some 3, .mv (.k (.int .i64 0)), none⟩,
    ⟨some 4, .mv (.k (.int .i64 0)), none⟩])
  (.seq (.reg [⟨some 5, .mv (.k (.int .i64 0)), none⟩,
    ⟨some 6, .mv (.k (.int .i64 0)), none⟩,
    ⟨some 7, .mv (.k (.int .i64 64)), none⟩,
    ⟨some 8, .mv (.k (.int .i64 (-1))), none⟩])
  (.seq (.seq (.reg [⟨some 9, .mv (.k (.int .i64 0)), none⟩])
  (.block 0 (.loop (.seq (.seq (.reg [⟨some 10, .mv (.t 9), none⟩,
      ⟨some 11, .bin .lss (.t 10) (.k (.int .i64 64)), none⟩])
    (.cond (.t 11) (.skip)
      (.exit 0)))
    (.seq (.block 1 (.seq (.seq (.reg [⟨some 14, .mv (.t 9), none⟩,
       ⟨some 15, .iaddrA 64 1 (.t 1) (.t 14), none⟩,
       ⟨some 16, .load false 1 (.t 15), none⟩,
       ⟨some 17, .un .not (.t 16), none⟩])
     (.cond (.t 17) (.exit 1)
       (.skip)))
     (.seq (.reg [⟨some 18, .mv (.t 6), none⟩,
       ⟨some 19, .bin .add (.t 18) (.k (.int .i64 1)), none⟩,
       ⟨some 6, .mv (.t 19), none⟩])
     (.seq (.seq (.reg [⟨some 20, .mv (.t 9), none⟩,
       ⟨some 21, .bin .eql (.t 20) (.k (.int .i64 0)), none⟩,
       ⟨some 22, .mv (.t 21), none⟩,
       ⟨some 23, .mv (.t 9), some (22, false)⟩,
       ⟨some 24, .bin .sub (.t 23) (.k (.int .i64 1)), some (22, false)⟩,
       ⟨some 25, .iaddrA 64 1 (.t 1) (.t 24), some (22, false)⟩,
       ⟨some 26, .load false 1 (.t 25), some (22, false)⟩,
       ⟨some 27, .un .not (.t 26), some (22, false)⟩,
       ⟨some 28, .pick (.t 22) (.k (.bool true)) (.t 27), none⟩])
     (.cond (.t 28) (.seq (.reg [⟨some 29, .mv (.t 5), none⟩,
         ⟨some 30, .bin .add (.t 29) (.k (.int .i64 1)), none⟩,
         ⟨some 5, .mv (.t 30), none⟩])
       (.seq (.reg [⟨some 31, .mv (.t 8), none⟩,
         ⟨some 32, .bin .geq (.t 31) (.k (.int .i64 0)), none⟩])
       (.cond (.t 32) (.reg [⟨some 33, .mv (.t 7), none⟩,
           ⟨some 34, .mv (.t 9), none⟩,
           ⟨some 35, .mv (.t 8), none⟩,
           ⟨some 36, .bin .sub (.t 34) (.t 35), none⟩,
           ⟨some 37, .bin .sub (.t 36) (.k (.int .i64 1)), none⟩,
           ⟨some 38, .minmax false (.t 33) [(.t 37)], none⟩,
           ⟨some 7, .mv (.t 38), none⟩])
         (.skip))))
       (.skip)))
     (.reg [⟨some 39, .mv (.t 9), none⟩,
       ⟨some 8, .mv (.t 39), none⟩])))))
    (.reg [⟨some 12, .mv (.t 9), none⟩,
      ⟨some 13, .bin .add (.t 12) (.k (.int .i64 1)), none⟩,
      ⟨some 9, .mv (.t 13), none⟩]))))))
  (.seq (.reg [⟨some 40, .mv (.t 5), none⟩,
    ⟨some 41, .mv (.t 6), none⟩,
    ⟨some 42, .mv (.t 7), none⟩,
    ⟨some 2, .mv (.t 40), none⟩,
    ⟨some 3, .mv (.t 41), none⟩,
    ⟨some 4, .mv (.t 42), none⟩])
  (.ret))))
theorem b17 : Body Tryd.prog 17 c17 [.tmp 2, .tmp 3, .tmp 4] 43 := ⟨by kernel_rfl, _, _, Tryd.func17, rfl, by kernel_rfl, by kernel_rfl, rfl⟩
def c28 : ACode :=
  .seq (.reg [⟨some 8, .mv (.k (.bool false)), none⟩])
  (.seq (.seq (.reg [⟨some 9, .mv (.k (.int .i64 0)), none⟩])
  (.block 0 (.loop (.seq (.seq (.reg [⟨some 12, .mv (.t 9), none⟩,
      ⟨some 13, .mv (.t 1), none⟩,
      ⟨some 14, .len (.t 13), none⟩,
      ⟨some 15, .bin .lss (.t 12) (.t 14), none⟩])
    (.cond (.t 15) (.skip)
      (.exit 0)))
    (.seq (.block 1 (.seq (.seq (.regD [⟨some 18, .mv (.t 1), none⟩,
       ⟨some 19, .mv (.t 9), none⟩,
       ⟨some 20, .iaddrS 2 (.t 18) (.t 19), none⟩,
       ⟨some 21, .faddr 0 (.t 20), none⟩,
       ⟨some 22, .load false 1 (.t 21), none⟩,
       ⟨some 23, .mv (.t 2), none⟩,
       ⟨some 24, .bin .lss (.t 22) (.t 23), none⟩,
       ⟨some 25, .mv (.t 24), none⟩,
       ⟨some 26, .mv (.t 1), some (25, false)⟩,
       ⟨some 27, .mv (.t 9), some (25, false)⟩,
       ⟨some 28, .iaddrS 2 (.t 26) (.t 27), some (25, false)⟩,
       ⟨some 29, .faddr 1 (.t 28), some (25, false)⟩,
       ⟨some 30, .load false 1 (.t 29), some (25, false)⟩,
       ⟨some 31, .bin .lss (.t 30) (.k (.int .i64 1)), some (25, false)⟩,
       ⟨some 32, .pick (.t 25) (.k (.bool true)) (.t 31), none⟩,
       ⟨some 33, .mv (.t 32), none⟩,
       ⟨some 34, .mv (.t 1), some (33, false)⟩,
       ⟨some 35, .mv (.t 9), some (33, false)⟩,
       ⟨some 36, .iaddrS 2 (.t 34) (.t 35), some (33, false)⟩,
       ⟨some 37, .faddr 1 (.t 36), some (33, false)⟩,
       ⟨some 38, .load false 1 (.t 37), some (33, false)⟩,
       ⟨some 39, .mv (.t 3), some (33, false)⟩,
       ⟨some 40, .bin .gtr (.t 38) (.t 39), some (33, false)⟩,
       ⟨some 41, .pick (.t 33) (.k (.bool true)) (.t 40), none⟩,
       ⟨some 42, .mv (.t 41), none⟩,
       ⟨some 43, .mv (.t 1), some (42, false)⟩,
       ⟨some 44, .mv (.t 9), some (42, false)⟩,
       ⟨some 45, .iaddrS 2 (.t 43) (.t 44), some (42, false)⟩,
       ⟨some 46, .faddr 0 (.t 45), some (42, false)⟩,
       ⟨some 47, .load false 1 (.t 46), some (42, false)⟩,
       ⟨some 48, .mv (.t 2), some (42, false)⟩,
       ⟨some 49, .mv (.t 3), some (42, false)⟩,
       ⟨some 50, .bin .add (.t 48) (.t 49), some (42, false)⟩,
       ⟨some 51, .mv (.t 1), some (42, false)⟩,
       ⟨some 52, .mv (.t 9), some (42, false)⟩,
       ⟨some 53, .iaddrS 2 (.t 51) (.t 52), some (42, false)⟩,
       ⟨some 54, .faddr 1 (.t 53), some (42, false)⟩,
       ⟨some 55, .load false 1 (.t 54), some (42, false)⟩,
       ⟨some 56, .bin .sub (.t 50) (.t 55), some (42, false)⟩,
       ⟨some 57, .bin .gtr (.t 47) (.t 56), some (42, false)⟩,
       ⟨some 58, .pick (.t 42) (.k (.bool true)) (.t 57), none⟩] [[], [], [0, 1], [2], [3], [], [4, 5], [6], [7], [7], [8, 9, 7], [10, 7], [11, 7], [12, 7], [7, 13], [14, 7], [15], [15], [16, 17, 15], [18, 15], [19, 15], [15], [20, 21, 15], [15, 22], [23, 15], [24], [24], [25, 26, 24], [27, 24], [28, 24], [24], [24], [30, 31, 24], [24], [24], [33, 34, 24], [35, 24], [36, 24], [32, 37, 24], [29, 38, 24], [24, 39]])
     (.cond (.t 58) (.seq (.reg [⟨some 8, .mv (.k (.bool false)), none⟩])
       (.ret))
       (.skip)))
     (.seq (.reg [⟨some 59, .mv (.t 1), none⟩,
       ⟨some 60, .mv (.t 9), none⟩,
       ⟨some 61, .iaddrS 2 (.t 59) (.t 60), none⟩,
       ⟨some 62, .faddr 0 (.t 61), none⟩,
       ⟨some 63, .load false 1 (.t 62), none⟩,
       ⟨some 10, .mv (.t 63), none⟩])
     (.block 2 (.loop (.seq (.seq (.regD [⟨some 64, .mv (.t 10), none⟩,
         ⟨some 65, .mv (.t 1), none⟩,
         ⟨some 66, .mv (.t 9), none⟩,
         ⟨some 67, .iaddrS 2 (.t 65) (.t 66), none⟩,
         ⟨some 68, .faddr 0 (.t 67), none⟩,
         ⟨some 69, .load false 1 (.t 68), none⟩,
         ⟨some 70, .mv (.t 1), none⟩,
         ⟨some 71, .mv (.t 9), none⟩,
         ⟨some 72, .iaddrS 2 (.t 70) (.t 71), none⟩,
         ⟨some 73, .faddr 1 (.t 72), none⟩,
         ⟨some 74, .load false 1 (.t 73), none⟩,
         ⟨some 75, .bin .add (.t 69) (.t 74), none⟩,
         ⟨some 76, .bin .lss (.t 64) (.t 75), none⟩] [[], [], [], [1, 2], [3], [4], [], [], [6, 7], [8], [9], [5, 10], [0, 11]])
       (.cond (.t 76) (.skip)
         (.exit 2)))
       (.seq (.block 3 (.reg [⟨some 79, .mv (.t 0), none⟩,
          ⟨some 80, .mv (.t 10), none⟩,
          ⟨some 81, .iaddrS 1 (.t 79) (.t 80), none⟩,
          ⟨none, .store 1 (.t 81) (.k (.bool false)), none⟩]))
       (.reg [⟨some 77, .mv (.t 10), none⟩,
         ⟨some 78, .bin .add (.t 77) (.k (.int .i64 1)), none⟩,
         ⟨some 10, .mv (.t 78), none⟩]))))))))
    (.reg [⟨some 16, .mv (.t 9), none⟩,
      ⟨some 17, .bin .add (.t 16) (.k (.int .i64 1)), none⟩,
      ⟨some 9, .mv (.t 17), none⟩]))))))
  (.seq (.seq (.reg [⟨some 82, .mv (.t 2), none⟩,
    ⟨some 11, .mv (.t 82), none⟩])
  (.block 4 (.loop (.seq (.seq (.reg [⟨some 83, .mv (.t 11), none⟩,
      ⟨some 84, .mv (.t 2), none⟩,
      ⟨some 85, .mv (.t 3), none⟩,
      ⟨some 86, .bin .add (.t 84) (.t 85), none⟩,
      ⟨some 87, .bin .lss (.t 83) (.t 86), none⟩])
    (.cond (.t 87) (.skip)
      (.exit 4)))
    (.seq (.block 5 (.seq (.reg [⟨some 90, .mv (.t 0), none⟩,
       ⟨some 91, .mv (.t 11), none⟩,
       ⟨some 92, .iaddrS 1 (.t 90) (.t 91), none⟩,
       ⟨some 93, .load false 1 (.t 92), none⟩])
     (.cond (.t 93) (.seq (.reg [⟨some 8, .mv (.k (.bool false)), none⟩])
       (.ret))
       (.skip))))
    (.reg [⟨some 88, .mv (.t 11), none⟩,
      ⟨some 89, .bin .add (.t 88) (.k (.int .i64 1)), none⟩,
      ⟨some 11, .mv (.t 89), none⟩]))))))
  (.seq (.reg [⟨some 8, .mv (.k (.bool true)), none⟩])
  (.ret))))
theorem b28 : Body Tryd.prog 28 c28 [.tmp 8] 94 := ⟨by kernel_rfl, _, _, Tryd.func28, rfl, by kernel_rfl, by kernel_rfl, rfl⟩
def c29 : ACode :=
  .seq (.reg [⟨some 1, .box (.t 0), none⟩,
    ⟨some 2, .mv (.k (.bool false)), none⟩])
  (.seq (.seq (.reg [⟨some 4, .load true 1 (.t 1), none⟩,
    ⟨some 5, .call (.k (.fn 27 [] [])) [(.t 4)], none⟩,
    ⟨some 6, .bin .neq (.t 5) (.k (.int .i64 0)), none⟩])
  (.cond (.t 6) (.seq (.reg [⟨some 2, .mv (.k (.bool false)), none⟩])
    (.ret))
    (.skip)))
  (.seq (.seq (.reg [⟨some 3, .mv (.k (.int .i64 0)), none⟩])
  (.block 0 (.loop (.seq (.seq (.reg [⟨some 7, .mv (.t 3), none⟩,
      ⟨some 8, .faddr 0 (.t 1), none⟩,
      ⟨some 9, .load false 1 (.t 8), none⟩,
      ⟨some 10, .len (.t 9), none⟩,
      ⟨some 11, .bin .lss (.t 7) (.t 10), none⟩])
    (.cond (.t 11) (.skip)
      (.exit 0)))
    (.seq (.block 1 (.seq (.reg [⟨some 14, .faddr 0 (.t 1), none⟩,
       ⟨some 15, .load false 1 (.t 14), none⟩,
       ⟨some 16, .mv (.t 3), none⟩,
       ⟨some 17, .iaddrS 2 (.t 15) (.t 16), none⟩,
       ⟨some 18, .faddr 0 (.t 17), none⟩,
       ⟨some 19, .load false 1 (.t 18), none⟩,
       ⟨some 20, .bin .geq (.t 19) (.k (.int .i64 16)), none⟩])
     (.cond (.t 20) (.seq (.reg [⟨some 2, .mv (.k (.bool false)), none⟩])
       (.ret))
       (.skip))))
    (.reg [⟨some 12, .mv (.t 3), none⟩,
      ⟨some 13, .bin .add (.t 12) (.k (.int .i64 1)), none⟩,
      ⟨some 3, .mv (.t 13), none⟩]))))))
  (.seq (.reg [⟨some 2, .mv (.k (.bool true)), none⟩])
  (.ret))))
theorem b29 : Body Tryd.prog 29 c29 [.tmp 2] 21 := ⟨by kernel_rfl, _, _, Tryd.func29, rfl, by kernel_rfl, by kernel_rfl, rfl⟩
def c30 : ACode :=
  .seq (.reg [⟨some 2, .box (.t 0), none⟩,
    ⟨some 4, .mv (.k (.bool false)), none⟩])
  (.seq (.reg [⟨some 5, .new (List.replicate 1024 (.bool false)), none⟩])
  (.seq (.seq (.reg [⟨some 6, .mv (.k (.int .i64 0)), none⟩])
  (.block 0 (.loop (.seq (.seq (.reg [⟨some 11, .mv (.t 6), none⟩,
      ⟨some 12, .faddr 0 (.t 2), none⟩,
      ⟨some 13, .load false 1 (.t 12), none⟩,
      ⟨some 14, .len (.t 13), none⟩,
      ⟨some 15, .bin .lss (.t 11) (.t 14), none⟩])
    (.cond (.t 15) (.skip)
      (.exit 0)))
    (.seq (.block 1 (.seq (.reg [⟨some 18, .faddr 0 (.t 2), none⟩,
       ⟨some 19, .load false 1 (.t 18), none⟩,
       ⟨some 20, .mv (.t 6), none⟩,
       ⟨some 21, .iaddrS 2 (.t 19) (.t 20), none⟩,
       ⟨some 22, .load true 2 (.t 21), none⟩,
       ⟨some 7, .new [(.int .i64 0), .nils], none⟩,
       ⟨none, .store 2 (.t 7) (.t 22), none⟩])
     (.seq (.reg [⟨some 8, .mv (.k (.int .i64 0)), none⟩])
     (.block 2 (.loop (.seq (.seq (.reg [⟨some 23, .mv (.t 8), none⟩,
         ⟨some 24, .faddr 1 (.t 7), none⟩,
         ⟨some 25, .load false 1 (.t 24), none⟩,
         ⟨some 26, .len (.t 25), none⟩,
         ⟨some 27, .bin .lss (.t 23) (.t 26), none⟩])
       (.cond (.t 27) (.skip)
         (.exit 2)))
       (.seq (.block 3 (.seq (.reg [⟨some 9, .mv (.k (.int .i64 0)), none⟩])
        (.block 4 (.loop (.seq (.seq (.reg [⟨some 30, .mv (.t 9), none⟩,
            ⟨some 31, .faddr 1 (.t 7), none⟩,
            ⟨some 32, .load false 1 (.t 31), none⟩,
            ⟨some 33, .mv (.t 8), none⟩,
            ⟨some 34, .iaddrS 2 (.t 32) (.t 33), none⟩,
            ⟨some 35, .faddr 1 (.t 34), none⟩,
            ⟨some 36, .load false 1 (.t 35), none⟩,
            ⟨some 37, .bin .lss (.t 30) (.t 36), none⟩])
          (.cond (.t 37) (.skip)
            (.exit 4)))
          (.seq (.block 5 (.regD [⟨some 40, .faddr 0 (.t 7), none⟩,
             ⟨some 41, .load false 1 (.t 40), none⟩,
             ⟨some 42, .bin .mul (.t 41) (.k (.int .i64 64)), none⟩,
             ⟨some 43, .faddr 1 (.t 7), none⟩,
             ⟨some 44, .load false 1 (.t 43), none⟩,
             ⟨some 45, .mv (.t 8), none⟩,
             ⟨some 46, .iaddrS 2 (.t 44) (.t 45), none⟩,
             ⟨some 47, .faddr 0 (.t 46), none⟩,
             ⟨some 48, .load false 1 (.t 47), none⟩,
             ⟨some 49, .bin .add (.t 42) (.t 48), none⟩,
             ⟨some 50, .mv (.t 9), none⟩,
             ⟨some 51, .bin .add (.t 49) (.t 50), none⟩,
             ⟨some 52, .iaddrA 1024 1 (.t 5) (.t 51), none⟩,
             ⟨none, .store 1 (.t 52) (.k (.bool true)), none⟩] [[], [0], [1], [], [3], [], [4, 5], [6], [7], [2, 8], [], [9, 10], [11, 0, 1, 2, 3, 4, 5, 6, 7, 8, 9, 10, 11], [12, 0, 1, 2, 3, 4, 5, 6, 7, 8, 9, 10, 11]]))
          (.reg [⟨some 38, .mv (.t 9), none⟩,
            ⟨some 39, .bin .add (.t 38) (.k (.int .i64 1)), none⟩,
            ⟨some 9, .mv (.t 39), none⟩])))))))
       (.reg [⟨some 28, .mv (.t 8), none⟩,
         ⟨some 29, .bin .add (.t 28) (.k (.int .i64 1)), none⟩,
         ⟨some 8, .mv (.t 29), none⟩]))))))))
    (.reg [⟨some 16, .mv (.t 6), none⟩,
      ⟨some 17, .bin .add (.t 16) (.k (.int .i64 1)), none⟩,
      ⟨some 6, .mv (.t 17), none⟩]))))))
  (.seq (.seq (.reg [⟨some 10, .mv (.k (.int .i64 0)), none⟩])
  (.block 6 (.loop (.seq (.seq (.reg [⟨some 53, .mv (.t 10), none⟩,
      ⟨some 54, .mv (.t 1), none⟩,
      ⟨some 55, .len (.t 54), none⟩,
      ⟨some 56, .bin .lss (.t 53) (.t 55), none⟩])
    (.cond (.t 56) (.skip)
      (.exit 6)))
    (.seq (.block 7 (.seq (.reg [⟨some 59, .mv (.t 1), none⟩,
       ⟨some 60, .mv (.t 10), none⟩,
       ⟨some 61, .iaddrS 1 (.t 59) (.t 60), none⟩,
       ⟨some 62, .load false 1 (.t 61), none⟩,
       ⟨some 63, .mv (.t 62), none⟩,
       ⟨some 64, .mv (.t 10), some (63, true)⟩,
       ⟨some 65, .iaddrA 1024 1 (.t 5) (.t 64), some (63, true)⟩,
       ⟨some 66, .load false 1 (.t 65), some (63, true)⟩,
       ⟨some 67, .un .not (.t 66), some (63, true)⟩,
       ⟨some 68, .pick (.t 63) (.t 67) (.k (.bool false)), none⟩])
     (.cond (.t 68) (.seq (.reg [⟨some 4, .mv (.k (.bool false)), none⟩])
       (.ret))
       (.skip))))
    (.reg [⟨some 57, .mv (.t 10), none⟩,
      ⟨some 58, .bin .add (.t 57) (.k (.int .i64 1)), none⟩,
      ⟨some 10, .mv (.t 58), none⟩]))))))
  (.seq (.reg [⟨some 4, .mv (.k (.bool true)), none⟩])
  (.ret)))))
theorem b30 : Body Tryd.prog 30 c30 [.tmp 4] 69 := ⟨by kernel_rfl, _, _, Tryd.func30, rfl, by kernel_rfl, by kernel_rfl, rfl⟩
def c31 : ACode :=
  .seq (.reg [⟨some 2, .mv (.k (.bool false)), none⟩])
  (.seq (.seq (.reg [⟨some 3, .mv (.k (.int .i64 0)), none⟩])
  (.block 0 (.loop (.seq (.seq (.reg [⟨some 8, .mv (.t 3), none⟩,
      ⟨some 9, .bin .lss (.t 8) (.k (.int .i64 16)), none⟩])
    (.cond (.t 9) (.skip)
      (.exit 0)))
    (.seq (.block 1 (.seq (.reg [⟨some 4, .mv (.k (.int .i64 0)), none⟩])
     (.seq (.seq (.reg [⟨some 5, .mv (.k (.int .i64 0)), none⟩])
     (.block 2 (.loop (.seq (.seq (.reg [⟨some 12, .mv (.t 5), none⟩,
         ⟨some 13, .mv (.t 0), none⟩,
         ⟨some 14, .len (.t 13), none⟩,
         ⟨some 15, .bin .lss (.t 12) (.t 14), none⟩])
       (.cond (.t 15) (.skip)
         (.exit 2)))
       (.seq (.block 3 (.seq (.reg [⟨some 18, .mv (.t 0), none⟩,
          ⟨some 19, .mv (.t 5), none⟩,
          ⟨some 20, .iaddrS 3 (.t 18) (.t 19), none⟩,
          ⟨some 21, .faddr 1 (.t 20), none⟩,
          ⟨some 22, .load false 1 (.t 21), none⟩,
          ⟨some 23, .bin .rem (.t 22) (.k (.int .u16 1024)), none⟩,
          ⟨some 24, .conv .i64 (.t 23), none⟩,
          ⟨some 6, .mv (.t 24), none⟩])
        (.seq (.reg [⟨some 25, .mv (.t 6), none⟩,
          ⟨some 26, .mv (.t 0), none⟩,
          ⟨some 27, .mv (.t 5), none⟩,
          ⟨some 28, .iaddrS 3 (.t 26) (.t 27), none⟩,
          ⟨some 29, .faddr 2 (.t 28), none⟩,
          ⟨some 30, .load false 1 (.t 29), none⟩,
          ⟨some 31, .bin .rem (.t 30) (.k (.int .u8 100)), none⟩,
          ⟨some 32, .conv .i64 (.t 31), none⟩,
          ⟨some 33, .mv (.t 6), none⟩,
          ⟨some 34, .bin .sub (.k (.int .i64 1024)) (.t 33), none⟩,
          ⟨some 35, .minmax false (.t 32) [(.t 34)], none⟩,
          ⟨some 36, .bin .add (.t 25) (.t 35), none⟩,
          ⟨some 7, .mv (.t 36), none⟩])
        (.seq (.reg [⟨some 37, .mv (.t 6), none⟩,
          ⟨some 38, .mv (.t 3), none⟩,
          ⟨some 39, .bin .add (.t 38) (.k (.int .i64 1)), none⟩,
          ⟨some 40, .bin .mul (.t 39) (.k (.int .i64 64)), none⟩,
          ⟨some 41, .bin .lss (.t 37) (.t 40), none⟩,
          ⟨some 42, .mv (.t 41), none⟩,
          ⟨some 43, .mv (.t 7), some (42, true)⟩,
          ⟨some 44, .mv (.t 3), some (42, true)⟩,
          ⟨some 45, .bin .mul (.t 44) (.k (.int .i64 64)), some (42, true)⟩,
          ⟨some 46, .bin .gtr (.t 43) (.t 45), some (42, true)⟩,
          ⟨some 47, .pick (.t 42) (.t 46) (.k (.bool false)), none⟩])
        (.cond (.t 47) (.reg [⟨some 48, .mv (.t 4), none⟩,
            ⟨some 49, .bin .add (.t 48) (.k (.int .i64 1)), none⟩,
            ⟨some 4, .mv (.t 49), none⟩])
          (.skip))))))
       (.reg [⟨some 16, .mv (.t 5), none⟩,
         ⟨some 17, .bin .add (.t 16) (.k (.int .i64 1)), none⟩,
         ⟨some 5, .mv (.t 17), none⟩]))))))
     (.seq (.reg [⟨some 50, .mv (.t 4), none⟩,
       ⟨some 51, .bin .gtr (.t 50) (.k (.int .i64 4)), none⟩])
     (.cond (.t 51) (.seq (.reg [⟨some 2, .mv (.k (.bool false)), none⟩])
       (.ret))
       (.skip))))))
    (.reg [⟨some 10, .mv (.t 3), none⟩,
      ⟨some 11, .bin .add (.t 10) (.k (.int .i64 1)), none⟩,
      ⟨some 3, .mv (.t 11), none⟩]))))))
  (.seq (.reg [⟨some 2, .mv (.k (.bool true)), none⟩])
  (.ret)))
theorem b31 : Body Tryd.prog 31 c31 [.tmp 2] 52 := ⟨by kernel_rfl, _, _, Tryd.func31, rfl, by kernel_rfl, by kernel_rfl, rfl⟩
def tabLCodeO : List (Nat × ACode × List ARes × Nat) := [(4, c4, [.tmp 4], 120),
  (7, c7, [.tmp 2], 144),
  (8, c8, [.tmp 4], 134),
  (17, c17, [.tmp 2, .tmp 3, .tmp 4], 43),
  (28, c28, [.tmp 8], 94),
  (29, c29, [.tmp 2], 21),
  (30, c30, [.tmp 4], 69),
  (31, c31, [.tmp 2], 52)]
theorem tabOkCodeO : AllT Tryd.prog tabLCodeO := ⟨b4, b7, b8, b17, b28, b29, b30, b31, trivial⟩
end Go.Proofs.YtjhmknnokloneaaDoor
