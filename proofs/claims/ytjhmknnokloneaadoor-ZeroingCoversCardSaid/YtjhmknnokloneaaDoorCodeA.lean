/-
  Abstract code of functions, printed by a program, and that it is theirs.
-/
import Derived.Test.YtjhmknnokloneaaDoorProg
import Derived.Test.YtjhmknnokloneaaDoorAmUp
set_option linter.unusedSimpArgs false
set_option linter.unusedVariables false
namespace Go.Proofs.YtjhmknnokloneaaDoor
open Go.Am
def c7 : ACode :=
  .seq (.reg [⟨some 2, .mv (.k (.bool false)), none⟩])
  (.seq (.seq (.reg [⟨some 14, .mv (.t 0), none⟩,
    ⟨some 15, .len (.t 14), none⟩,
    ⟨some 16, .bin .gtr (.t 15) (.k (.int .i64 60)), none⟩])
  (.cond (.t 16) (.seq (.reg [⟨some 17, .call (.k (.fn 10 [] [])) [], none⟩,
      ⟨some 2, .mv (.t 17), none⟩])
    (.ret))
    (.skip)))
  (.seq (.reg [⟨some 18, .mks 1 1 [(.bool false)] (.k (.int .i64 1024)) (.k (.int .i64 1024)), none⟩,
    ⟨some 3, .mv (.t 18), none⟩])
  (.seq (.reg [⟨some 4, .new [.nils], none⟩])
  (.seq (.seq (.reg [⟨some 5, .mv (.k (.int .i64 0)), none⟩])
  (.block 0 (.loop (.seq (.seq (.reg [⟨some 19, .mv (.t 5), none⟩,
      ⟨some 20, .mv (.t 0), none⟩,
      ⟨some 21, .len (.t 20), none⟩,
      ⟨some 22, .bin .lss (.t 19) (.t 21), none⟩])
    (.cond (.t 22) (.skip)
      (.exit 0)))
    (.seq (.block 1 (.seq (.regD [⟨some 25, .mv (.t 0), none⟩,
       ⟨some 26, .mv (.t 5), none⟩,
       ⟨some 27, .iaddrS 3 (.t 25) (.t 26), none⟩,
       ⟨some 28, .faddr 1 (.t 27), none⟩,
       ⟨some 29, .load false 1 (.t 28), none⟩,
       ⟨some 30, .bin .rem (.t 29) (.k (.int .u16 1024)), none⟩,
       ⟨some 31, .conv .i64 (.t 30), none⟩,
       ⟨some 32, .mv (.t 0), none⟩,
       ⟨some 33, .mv (.t 5), none⟩,
       ⟨some 34, .iaddrS 3 (.t 32) (.t 33), none⟩,
       ⟨some 35, .faddr 2 (.t 34), none⟩,
       ⟨some 36, .load false 1 (.t 35), none⟩,
       ⟨some 37, .bin .rem (.t 36) (.k (.int .u8 100)), none⟩,
       ⟨some 38, .conv .i64 (.t 37), none⟩,
       ⟨some 6, .mv (.t 31), none⟩,
       ⟨some 7, .mv (.t 38), none⟩] [[], [], [0, 1], [2], [3], [4], [5], [], [], [7, 8], [9], [10], [11], [12], [6, 0, 1, 2, 3, 4, 5, 6], [13, 14, 0, 1, 2, 3, 4, 5, 6, 7, 8, 9, 10, 11, 12, 13, 14]])
     (.seq (.reg [⟨some 39, .mv (.t 7), none⟩,
       ⟨some 40, .mv (.t 6), none⟩,
       ⟨some 41, .bin .sub (.k (.int .i64 1024)) (.t 40), none⟩,
       ⟨some 42, .minmax false (.t 39) [(.t 41)], none⟩,
       ⟨some 7, .mv (.t 42), none⟩])
     (.seq (.reg [⟨some 8, .mv (.k (.int .i64 0)), none⟩])
     (.seq (.seq (.reg [⟨some 43, .mv (.t 0), none⟩,
       ⟨some 44, .mv (.t 5), none⟩,
       ⟨some 45, .iaddrS 3 (.t 43) (.t 44), none⟩,
       ⟨some 46, .faddr 0 (.t 45), none⟩,
       ⟨some 47, .load false 1 (.t 46), none⟩,
       ⟨some 48, .bin .rem (.t 47) (.k (.int .u8 4)), none⟩])
     (.block 2 (.seq (.reg [⟨some 68, .bin .eql (.t 48) (.k (.int .u8 2)), none⟩,
        ⟨some 67, .mv (.t 68), none⟩])
      (.cond (.t 67) (.seq (.reg [⟨some 70, .load true 1 (.t 4), none⟩,
          ⟨some 71, .mv (.t 6), none⟩,
          ⟨some 72, .mv (.t 7), none⟩,
          ⟨some 73, .call (.k (.fn 18 [] [])) [(.t 70), (.t 71), (.t 72)], none⟩,
          ⟨some 69, .mv (.t 73), none⟩,
          ⟨some 74, .ext (.t 69) 0, none⟩,
          ⟨some 75, .ext (.t 69) 1, none⟩,
          ⟨some 9, .mv (.t 74), none⟩,
          ⟨some 10, .mv (.t 75), none⟩])
        (.seq (.seq (.reg [⟨some 76, .mv (.t 10), none⟩,
          ⟨some 77, .bin .neq (.t 76) (.k (.int .i64 0)), none⟩,
          ⟨some 78, .mv (.t 77), none⟩,
          ⟨some 79, .mv (.t 3), some (78, false)⟩,
          ⟨some 80, .mv (.t 9), some (78, false)⟩,
          ⟨some 81, .mv (.t 6), some (78, false)⟩,
          ⟨some 82, .mv (.t 7), some (78, false)⟩,
          ⟨some 83, .call (.k (.fn 28 [] [])) [(.t 79), (.t 80), (.t 81), (.t 82)], some (78, false)⟩,
          ⟨some 84, .un .not (.t 83), some (78, false)⟩,
          ⟨some 85, .pick (.t 78) (.k (.bool true)) (.t 84), none⟩])
        (.cond (.t 85) (.seq (.reg [⟨some 2, .mv (.k (.bool false)), none⟩])
          (.ret))
          (.skip)))
        (.reg [⟨some 87, .load true 1 (.t 4), none⟩,
          ⟨some 88, .mv (.t 6), none⟩,
          ⟨some 89, .mv (.t 7), none⟩,
          ⟨some 90, .call (.k (.fn 13 [] [])) [(.t 87), (.t 88), (.t 89)], none⟩,
          ⟨some 86, .mv (.t 90), none⟩,
          ⟨some 91, .ext (.t 86) 0, none⟩,
          ⟨some 92, .ext (.t 86) 1, none⟩,
          ⟨none, .store 1 (.t 4) (.t 91), none⟩,
          ⟨some 8, .mv (.t 92), none⟩])))
        (.seq (.reg [⟨some 94, .bin .eql (.t 48) (.k (.int .u8 3)), none⟩,
          ⟨some 93, .mv (.t 94), none⟩])
        (.cond (.t 93) (.seq (.reg [⟨some 95, .mv (.t 6), none⟩,
            ⟨some 96, .bin .quo (.t 95) (.k (.int .i64 64)), none⟩,
            ⟨some 97, .mv (.t 7), none⟩,
            ⟨some 98, .bin .quo (.t 97) (.k (.int .i64 64)), none⟩,
            ⟨some 99, .bin .add (.k (.int .i64 1)) (.t 98), none⟩,
            ⟨some 100, .build [(.int .i64 0), (.int .i64 0)] [(0, 1, (.t 96)), (1, 1, (.t 99))], none⟩,
            ⟨some 11, .new [(.int .i64 0), (.int .i64 0)], none⟩,
            ⟨none, .store 2 (.t 11) (.t 100), none⟩])
          (.seq (.reg [⟨some 101, .faddr 1 (.t 11), none⟩,
            ⟨some 102, .load false 1 (.t 101), none⟩,
            ⟨some 103, .faddr 0 (.t 11), none⟩,
            ⟨some 104, .load false 1 (.t 103), none⟩,
            ⟨some 105, .bin .sub (.k (.int .i64 16)) (.t 104), none⟩,
            ⟨some 106, .minmax false (.t 102) [(.t 105)], none⟩,
            ⟨some 107, .faddr 1 (.t 11), none⟩,
            ⟨none, .store 1 (.t 107) (.t 106), none⟩])
          (.seq (.seq (.reg [⟨some 108, .faddr 0 (.t 11), none⟩,
            ⟨some 109, .load false 1 (.t 108), none⟩,
            ⟨some 110, .bin .mul (.t 109) (.k (.int .i64 64)), none⟩,
            ⟨some 12, .mv (.t 110), none⟩])
          (.block 5 (.loop (.seq (.seq (.reg [⟨some 111, .mv (.t 12), none⟩,
              ⟨some 112, .faddr 0 (.t 11), none⟩,
              ⟨some 113, .load false 1 (.t 112), none⟩,
              ⟨some 114, .faddr 1 (.t 11), none⟩,
              ⟨some 115, .load false 1 (.t 114), none⟩,
              ⟨some 116, .bin .add (.t 113) (.t 115), none⟩,
              ⟨some 117, .bin .mul (.t 116) (.k (.int .i64 64)), none⟩,
              ⟨some 118, .bin .lss (.t 111) (.t 117), none⟩])
            (.cond (.t 118) (.skip)
              (.exit 5)))
            (.seq (.block 6 (.reg [⟨some 121, .mv (.t 3), none⟩,
               ⟨some 122, .mv (.t 12), none⟩,
               ⟨some 123, .iaddrS 1 (.t 121) (.t 122), none⟩,
               ⟨none, .store 1 (.t 123) (.k (.bool false)), none⟩]))
            (.reg [⟨some 119, .mv (.t 12), none⟩,
              ⟨some 120, .bin .add (.t 119) (.k (.int .i64 1)), none⟩,
              ⟨some 12, .mv (.t 120), none⟩]))))))
          (.reg [⟨some 125, .load true 1 (.t 4), none⟩,
            ⟨some 126, .load true 2 (.t 11), none⟩,
            ⟨some 127, .call (.k (.fn 24 [] [])) [(.t 125), (.t 126)], none⟩,
            ⟨some 124, .mv (.t 127), none⟩,
            ⟨some 128, .ext (.t 124) 0, none⟩,
            ⟨some 129, .ext (.t 124) 1, none⟩,
            ⟨none, .store 1 (.t 4) (.t 128), none⟩,
            ⟨some 8, .mv (.t 129), none⟩]))))
          (.seq (.seq (.reg [⟨some 49, .mv (.t 6), none⟩,
            ⟨some 13, .mv (.t 49), none⟩])
          (.block 3 (.loop (.seq (.seq (.reg [⟨some 50, .mv (.t 13), none⟩,
              ⟨some 51, .mv (.t 6), none⟩,
              ⟨some 52, .mv (.t 7), none⟩,
              ⟨some 53, .bin .add (.t 51) (.t 52), none⟩,
              ⟨some 54, .bin .lss (.t 50) (.t 53), none⟩])
            (.cond (.t 54) (.skip)
              (.exit 3)))
            (.seq (.block 4 (.reg [⟨some 57, .mv (.t 3), none⟩,
               ⟨some 58, .mv (.t 13), none⟩,
               ⟨some 59, .iaddrS 1 (.t 57) (.t 58), none⟩,
               ⟨none, .store 1 (.t 59) (.k (.bool true)), none⟩]))
            (.reg [⟨some 55, .mv (.t 13), none⟩,
              ⟨some 56, .bin .add (.t 55) (.k (.int .i64 1)), none⟩,
              ⟨some 13, .mv (.t 56), none⟩]))))))
          (.reg [⟨some 61, .load true 1 (.t 4), none⟩,
            ⟨some 62, .mv (.t 6), none⟩,
            ⟨some 63, .mv (.t 7), none⟩,
            ⟨some 64, .call (.k (.fn 11 [] [])) [(.t 61), (.t 62), (.t 63)], none⟩,
            ⟨some 60, .mv (.t 64), none⟩,
            ⟨some 65, .ext (.t 60) 0, none⟩,
            ⟨some 66, .ext (.t 60) 1, none⟩,
            ⟨none, .store 1 (.t 4) (.t 65), none⟩,
            ⟨some 8, .mv (.t 66), none⟩]))))))))
     (.seq (.reg [⟨some 130, .mv (.t 8), none⟩,
       ⟨some 131, .bin .neq (.t 130) (.k (.int .i64 0)), none⟩,
       ⟨some 132, .mv (.t 131), none⟩,
       ⟨some 133, .load true 1 (.t 4), some (132, false)⟩,
       ⟨some 134, .call (.k (.fn 29 [] [])) [(.t 133)], some (132, false)⟩,
       ⟨some 135, .un .not (.t 134), some (132, false)⟩,
       ⟨some 136, .pick (.t 132) (.k (.bool true)) (.t 135), none⟩,
       ⟨some 137, .mv (.t 136), none⟩,
       ⟨some 138, .load true 1 (.t 4), some (137, false)⟩,
       ⟨some 139, .mv (.t 3), some (137, false)⟩,
       ⟨some 140, .call (.k (.fn 30 [] [])) [(.t 138), (.t 139)], some (137, false)⟩,
       ⟨some 141, .un .not (.t 140), some (137, false)⟩,
       ⟨some 142, .pick (.t 137) (.k (.bool true)) (.t 141), none⟩])
     (.cond (.t 142) (.seq (.reg [⟨some 2, .mv (.k (.bool false)), none⟩])
       (.ret))
       (.skip))))))))
    (.reg [⟨some 23, .mv (.t 5), none⟩,
      ⟨some 24, .bin .add (.t 23) (.k (.int .i64 1)), none⟩,
      ⟨some 5, .mv (.t 24), none⟩]))))))
  (.seq (.reg [⟨some 143, .call (.k (.fn 10 [] [])) [], none⟩,
    ⟨some 2, .mv (.t 143), none⟩])
  (.ret))))))
theorem b7 : Body Tryd.prog 7 c7 [.tmp 2] 144 := ⟨by kernel_rfl, _, _, Tryd.func7, rfl, by kernel_rfl, by kernel_rfl, rfl⟩
def c10 : ACode :=
  .seq (.reg [⟨some 0, .mv (.k (.bool false)), none⟩])
  (.seq (.reg [⟨some 13, .build [.nils] [], none⟩,
    ⟨some 14, .call (.k (.fn 11 [] [])) [(.t 13), (.k (.int .i64 10)), (.k (.int .i64 4))], none⟩,
    ⟨some 12, .mv (.t 14), none⟩,
    ⟨some 15, .ext (.t 12) 0, none⟩,
    ⟨some 16, .ext (.t 12) 1, none⟩,
    ⟨some 1, .new [.nils], none⟩,
    ⟨none, .store 1 (.t 1) (.t 15), none⟩,
    ⟨some 2, .mv (.t 16), none⟩])
  (.seq (.reg [⟨some 18, .load true 1 (.t 1), none⟩,
    ⟨some 19, .call (.k (.fn 11 [] [])) [(.t 18), (.k (.int .i64 70)), (.k (.int .i64 2))], none⟩,
    ⟨some 17, .mv (.t 19), none⟩,
    ⟨some 20, .ext (.t 17) 0, none⟩,
    ⟨some 21, .ext (.t 17) 1, none⟩,
    ⟨some 3, .new [.nils], none⟩,
    ⟨none, .store 1 (.t 3) (.t 20), none⟩,
    ⟨some 4, .mv (.t 21), none⟩])
  (.seq (.reg [⟨some 23, .load true 1 (.t 3), none⟩,
    ⟨some 24, .call (.k (.fn 11 [] [])) [(.t 23), (.k (.int .i64 12)), (.k (.int .i64 60))], none⟩,
    ⟨some 22, .mv (.t 24), none⟩,
    ⟨some 25, .ext (.t 22) 0, none⟩,
    ⟨some 26, .ext (.t 22) 1, none⟩,
    ⟨some 5, .new [.nils], none⟩,
    ⟨none, .store 1 (.t 5) (.t 25), none⟩,
    ⟨some 6, .mv (.t 26), none⟩])
  (.seq (.reg [⟨some 28, .load true 1 (.t 5), none⟩,
    ⟨some 29, .call (.k (.fn 18 [] [])) [(.t 28), (.k (.int .i64 60)), (.k (.int .i64 8))], none⟩,
    ⟨some 27, .mv (.t 29), none⟩,
    ⟨some 30, .ext (.t 27) 0, none⟩,
    ⟨some 31, .ext (.t 27) 1, none⟩,
    ⟨some 7, .mv (.t 30), none⟩,
    ⟨some 8, .mv (.t 31), none⟩])
  (.seq (.reg [⟨some 33, .load true 1 (.t 5), none⟩,
    ⟨some 34, .call (.k (.fn 13 [] [])) [(.t 33), (.k (.int .i64 20)), (.k (.int .i64 4))], none⟩,
    ⟨some 32, .mv (.t 34), none⟩,
    ⟨some 35, .ext (.t 32) 0, none⟩,
    ⟨some 36, .ext (.t 32) 1, none⟩,
    ⟨some 9, .new [.nils], none⟩,
    ⟨none, .store 1 (.t 9) (.t 35), none⟩,
    ⟨some 10, .mv (.t 36), none⟩])
  (.seq (.seq (.reg [⟨some 37, .mv (.t 2), none⟩,
    ⟨some 38, .bin .neq (.t 37) (.k (.int .i64 0)), none⟩,
    ⟨some 39, .mv (.t 38), none⟩,
    ⟨some 40, .mv (.t 4), some (39, false)⟩,
    ⟨some 41, .bin .neq (.t 40) (.k (.int .i64 0)), some (39, false)⟩,
    ⟨some 42, .pick (.t 39) (.k (.bool true)) (.t 41), none⟩,
    ⟨some 43, .mv (.t 42), none⟩,
    ⟨some 44, .mv (.t 6), some (43, false)⟩,
    ⟨some 45, .bin .neq (.t 44) (.k (.int .i64 0)), some (43, false)⟩,
    ⟨some 46, .pick (.t 43) (.k (.bool true)) (.t 45), none⟩,
    ⟨some 47, .mv (.t 46), none⟩,
    ⟨some 48, .mv (.t 8), some (47, false)⟩,
    ⟨some 49, .bin .neq (.t 48) (.k (.int .i64 0)), some (47, false)⟩,
    ⟨some 50, .pick (.t 47) (.k (.bool true)) (.t 49), none⟩,
    ⟨some 51, .mv (.t 50), none⟩,
    ⟨some 52, .mv (.t 10), some (51, false)⟩,
    ⟨some 53, .bin .neq (.t 52) (.k (.int .i64 0)), some (51, false)⟩,
    ⟨some 54, .pick (.t 51) (.k (.bool true)) (.t 53), none⟩])
  (.cond (.t 54) (.seq (.reg [⟨some 0, .mv (.k (.bool false)), none⟩])
    (.ret))
    (.skip)))
  (.seq (.reg [⟨some 55, .build [(.int .i64 0), (.int .i64 0)] [(1, 1, (.k (.int .i64 8)))], none⟩,
    ⟨some 56, .bslice 2 1 [(.int .i64 0), (.int .i64 0)] [(0, 2, (.t 55))], none⟩,
    ⟨some 57, .call (.k (.fn 33 [] [])) [(.k (.int .i64 1)), (.t 56)], none⟩,
    ⟨some 11, .new [(.int .i64 0), .nils], none⟩,
    ⟨none, .store 2 (.t 11) (.t 57), none⟩])
  (.seq (.regD [⟨some 58, .load true 1 (.t 5), none⟩,
    ⟨some 59, .build [(.int .i64 0), (.int .i64 0)] [(0, 1, (.k (.int .i64 10))), (1, 1, (.k (.int .i64 54)))], none⟩,
    ⟨some 60, .bslice 2 1 [(.int .i64 0), (.int .i64 0)] [(0, 2, (.t 59))], none⟩,
    ⟨some 61, .call (.k (.fn 33 [] [])) [(.k (.int .i64 0)), (.t 60)], none⟩,
    ⟨some 62, .load true 2 (.t 11), none⟩,
    ⟨some 63, .bslice 2 2 [(.int .i64 0), .nils, (.int .i64 0), .nils] [(0, 2, (.t 61)), (2, 2, (.t 62))], none⟩,
    ⟨some 64, .call (.k (.fn 34 [] [])) [(.t 63)], none⟩,
    ⟨some 65, .call (.k (.fn 15 [] [])) [(.t 58), (.t 64)], none⟩,
    ⟨some 66, .mv (.t 65), none⟩,
    ⟨some 67, .mv (.t 7), some (66, true)⟩,
    ⟨some 68, .build [(.int .i64 0), (.int .i64 0)] [(0, 1, (.k (.int .i64 60))), (1, 1, (.k (.int .i64 4)))], some (66, true)⟩,
    ⟨some 69, .build [(.int .i64 0), (.int .i64 0)] [(0, 1, (.k (.int .i64 64))), (1, 1, (.k (.int .i64 4)))], some (66, true)⟩,
    ⟨some 70, .bslice 2 2 [(.int .i64 0), (.int .i64 0), (.int .i64 0), (.int .i64 0)] [(0, 2, (.t 68)), (2, 2, (.t 69))], some (66, true)⟩,
    ⟨some 71, .call (.k (.fn 23 [] [])) [(.t 67), (.t 70)], some (66, true)⟩,
    ⟨some 72, .pick (.t 66) (.t 71) (.k (.bool false)), none⟩,
    ⟨some 73, .mv (.t 72), none⟩,
    ⟨some 74, .load true 1 (.t 9), some (73, true)⟩,
    ⟨some 75, .build [(.int .i64 0), (.int .i64 0)] [(0, 1, (.k (.int .i64 10))), (1, 1, (.k (.int .i64 10)))], some (73, true)⟩,
    ⟨some 76, .build [(.int .i64 0), (.int .i64 0)] [(0, 1, (.k (.int .i64 24))), (1, 1, (.k (.int .i64 40)))], some (73, true)⟩,
    ⟨some 77, .bslice 2 2 [(.int .i64 0), (.int .i64 0), (.int .i64 0), (.int .i64 0)] [(0, 2, (.t 75)), (2, 2, (.t 76))], some (73, true)⟩,
    ⟨some 78, .call (.k (.fn 33 [] [])) [(.k (.int .i64 0)), (.t 77)], some (73, true)⟩,
    ⟨some 79, .load true 2 (.t 11), some (73, true)⟩,
    ⟨some 80, .bslice 2 2 [(.int .i64 0), .nils, (.int .i64 0), .nils] [(0, 2, (.t 78)), (2, 2, (.t 79))], some (73, true)⟩,
    ⟨some 81, .call (.k (.fn 34 [] [])) [(.t 80)], some (73, true)⟩,
    ⟨some 82, .call (.k (.fn 15 [] [])) [(.t 74), (.t 81)], some (73, true)⟩,
    ⟨some 83, .pick (.t 73) (.t 82) (.k (.bool false)), none⟩,
    ⟨some 0, .mv (.t 83), none⟩] [[], [], [1], [2], [], [3, 4], [5, 3], [0, 6, 6], [7, 7], [8], [8], [8], [10, 11, 8], [9, 12, 8, 8], [8, 13], [14, 13], [15], [15], [15], [17, 18, 15], [19, 15, 15], [15], [20, 21, 15], [22, 20, 15], [16, 23, 23, 15], [15, 24], [25, 24, 0, 1, 2, 3, 4, 5, 6, 7, 8, 9, 10, 11, 12, 13, 14, 15, 16, 17, 18, 19, 20, 21, 22, 23, 24, 25]])
  (.ret)))))))))
theorem b10 : Body Tryd.prog 10 c10 [.tmp 0] 84 := ⟨by kernel_rfl, _, _, Tryd.func10, rfl, by kernel_rfl, by kernel_rfl, rfl⟩
def c11 : ACode :=
  .seq (.reg [⟨some 3, .box (.t 0), none⟩,
    ⟨some 6, .new [.nils], none⟩,
    ⟨some 7, .mv (.k (.int .i64 0)), none⟩])
  (.seq (.seq (.reg [⟨some 12, .load true 1 (.t 3), none⟩,
    ⟨some 13, .mv (.t 1), none⟩,
    ⟨some 14, .mv (.t 2), none⟩,
    ⟨some 15, .call (.k (.fn 35 [] [])) [(.t 12), (.t 13), (.t 14)], none⟩,
    ⟨some 8, .mv (.t 15), none⟩])
  (.seq (.reg [⟨some 16, .mv (.t 8), none⟩,
    ⟨some 17, .bin .neq (.t 16) (.k (.int .i64 0)), none⟩])
  (.cond (.t 17) (.seq (.reg [⟨some 18, .build [.nils] [], none⟩,
      ⟨some 19, .mv (.t 8), none⟩,
      ⟨none, .store 1 (.t 6) (.t 18), none⟩,
      ⟨some 7, .mv (.t 19), none⟩])
    (.ret))
    (.skip))))
  (.seq (.reg [⟨some 20, .load true 1 (.t 3), none⟩,
    ⟨some 21, .call (.k (.fn 36 [] [])) [(.t 20)], none⟩,
    ⟨some 9, .new [.nilp], none⟩,
    ⟨none, .store 1 (.t 9) (.t 21), none⟩])
  (.seq (.seq (.reg [⟨some 22, .mv (.t 1), none⟩,
    ⟨some 23, .mv (.t 2), none⟩,
    ⟨some 24, .call (.k (.fn 37 [] [])) [(.t 22), (.t 23)], none⟩])
  (.block 0 (.rangeF (.t 24) [25, 26] (.seq (.reg [⟨some 10, .mv (.t 25), none⟩])
     (.reg [⟨some 11, .mv (.t 26), none⟩]))
     (.block 1 (.regD [⟨some 27, .load false 1 (.t 9), none⟩,
        ⟨some 28, .mv (.t 10), none⟩,
        ⟨some 29, .nchk (.t 27), none⟩,
        ⟨some 30, .iaddrA 1024 1 (.t 29) (.t 28), none⟩,
        ⟨some 31, .load false 1 (.t 30), none⟩,
        ⟨some 32, .mv (.t 11), none⟩,
        ⟨some 33, .bin .or (.t 31) (.t 32), none⟩,
        ⟨some 34, .nchk (.t 27), none⟩,
        ⟨some 35, .iaddrA 1024 1 (.t 34) (.t 28), none⟩,
        ⟨none, .store 1 (.t 35) (.t 33), none⟩] [[], [], [0], [2, 1], [3], [], [4, 5], [0], [7, 1, 0, 1, 2, 3, 4, 5, 6], [8, 6, 0, 1, 2, 3, 4, 5, 6]])))))
  (.seq (.reg [⟨some 36, .load false 1 (.t 9), none⟩,
    ⟨some 37, .call (.k (.fn 38 [] [])) [(.t 36)], none⟩,
    ⟨none, .store 1 (.t 6) (.t 37), none⟩,
    ⟨some 7, .mv (.k (.int .i64 0)), none⟩])
  (.ret)))))
theorem b11 : Body Tryd.prog 11 c11 [.cell 6 true 1, .tmp 7] 38 := ⟨by kernel_rfl, _, _, Tryd.func11, rfl, by kernel_rfl, by kernel_rfl, rfl⟩
def c13 : ACode :=
  .seq (.reg [⟨some 3, .box (.t 0), none⟩,
    ⟨some 6, .new [.nils], none⟩,
    ⟨some 7, .mv (.k (.int .i64 0)), none⟩])
  (.seq (.seq (.reg [⟨some 12, .load true 1 (.t 3), none⟩,
    ⟨some 13, .mv (.t 1), none⟩,
    ⟨some 14, .mv (.t 2), none⟩,
    ⟨some 15, .call (.k (.fn 35 [] [])) [(.t 12), (.t 13), (.t 14)], none⟩,
    ⟨some 8, .mv (.t 15), none⟩])
  (.seq (.reg [⟨some 16, .mv (.t 8), none⟩,
    ⟨some 17, .bin .neq (.t 16) (.k (.int .i64 0)), none⟩])
  (.cond (.t 17) (.seq (.reg [⟨some 18, .build [.nils] [], none⟩,
      ⟨some 19, .mv (.t 8), none⟩,
      ⟨none, .store 1 (.t 6) (.t 18), none⟩,
      ⟨some 7, .mv (.t 19), none⟩])
    (.ret))
    (.skip))))
  (.seq (.reg [⟨some 20, .load true 1 (.t 3), none⟩,
    ⟨some 21, .call (.k (.fn 36 [] [])) [(.t 20)], none⟩,
    ⟨some 9, .new [.nilp], none⟩,
    ⟨none, .store 1 (.t 9) (.t 21), none⟩])
  (.seq (.seq (.reg [⟨some 22, .mv (.t 1), none⟩,
    ⟨some 23, .mv (.t 2), none⟩,
    ⟨some 24, .call (.k (.fn 37 [] [])) [(.t 22), (.t 23)], none⟩])
  (.block 0 (.rangeF (.t 24) [25, 26] (.seq (.reg [⟨some 10, .mv (.t 25), none⟩])
     (.reg [⟨some 11, .mv (.t 26), none⟩]))
     (.block 1 (.regD [⟨some 27, .load false 1 (.t 9), none⟩,
        ⟨some 28, .mv (.t 10), none⟩,
        ⟨some 29, .nchk (.t 27), none⟩,
        ⟨some 30, .iaddrA 1024 1 (.t 29) (.t 28), none⟩,
        ⟨some 31, .load false 1 (.t 30), none⟩,
        ⟨some 32, .mv (.t 11), none⟩,
        ⟨some 33, .bin .andNot (.t 31) (.t 32), none⟩,
        ⟨some 34, .nchk (.t 27), none⟩,
        ⟨some 35, .iaddrA 1024 1 (.t 34) (.t 28), none⟩,
        ⟨none, .store 1 (.t 35) (.t 33), none⟩] [[], [], [0], [2, 1], [3], [], [4, 5], [0], [7, 1, 0, 1, 2, 3, 4, 5, 6], [8, 6, 0, 1, 2, 3, 4, 5, 6]])))))
  (.seq (.reg [⟨some 36, .load false 1 (.t 9), none⟩,
    ⟨some 37, .call (.k (.fn 38 [] [])) [(.t 36)], none⟩,
    ⟨none, .store 1 (.t 6) (.t 37), none⟩,
    ⟨some 7, .mv (.k (.int .i64 0)), none⟩])
  (.ret)))))
theorem b13 : Body Tryd.prog 13 c13 [.cell 6 true 1, .tmp 7] 38 := ⟨by kernel_rfl, _, _, Tryd.func13, rfl, by kernel_rfl, by kernel_rfl, rfl⟩
def c15 : ACode :=
  .seq (.reg [⟨some 2, .box (.t 0), none⟩,
    ⟨some 3, .box (.t 1), none⟩,
    ⟨some 4, .mv (.k (.bool false)), none⟩])
  (.seq (.seq (.reg [⟨some 9, .faddr 0 (.t 2), none⟩,
    ⟨some 10, .load false 1 (.t 9), none⟩,
    ⟨some 11, .len (.t 10), none⟩,
    ⟨some 12, .faddr 0 (.t 3), none⟩,
    ⟨some 13, .load false 1 (.t 12), none⟩,
    ⟨some 14, .len (.t 13), none⟩,
    ⟨some 15, .bin .neq (.t 11) (.t 14), none⟩])
  (.cond (.t 15) (.seq (.reg [⟨some 4, .mv (.k (.bool false)), none⟩])
    (.ret))
    (.skip)))
  (.seq (.seq (.reg [⟨some 5, .mv (.k (.int .i64 0)), none⟩])
  (.block 0 (.loop (.seq (.seq (.reg [⟨some 16, .mv (.t 5), none⟩,
      ⟨some 17, .faddr 0 (.t 2), none⟩,
      ⟨some 18, .load false 1 (.t 17), none⟩,
      ⟨some 19, .len (.t 18), none⟩,
      ⟨some 20, .bin .lss (.t 16) (.t 19), none⟩])
    (.cond (.t 20) (.skip)
      (.exit 0)))
    (.seq (.block 1 (.seq (.regD [⟨some 23, .faddr 0 (.t 2), none⟩,
       ⟨some 24, .load false 1 (.t 23), none⟩,
       ⟨some 25, .mv (.t 5), none⟩,
       ⟨some 26, .iaddrS 2 (.t 24) (.t 25), none⟩,
       ⟨some 27, .load true 2 (.t 26), none⟩,
       ⟨some 28, .faddr 0 (.t 3), none⟩,
       ⟨some 29, .load false 1 (.t 28), none⟩,
       ⟨some 30, .mv (.t 5), none⟩,
       ⟨some 31, .iaddrS 2 (.t 29) (.t 30), none⟩,
       ⟨some 32, .load true 2 (.t 31), none⟩,
       ⟨some 6, .new [(.int .i64 0), .nils], none⟩,
       ⟨some 7, .new [(.int .i64 0), .nils], none⟩,
       ⟨none, .store 2 (.t 6) (.t 27), none⟩,
       ⟨none, .store 2 (.t 7) (.t 32), none⟩] [[], [0], [], [1, 2], [3], [], [5], [], [6, 7], [8], [], [], [10, 4, 0, 1, 2, 3, 4, 10, 11], [11, 9, 12, 0, 1, 2, 3, 4, 5, 6, 7, 8, 9, 10, 11, 12]])
     (.seq (.seq (.reg [⟨some 33, .faddr 0 (.t 6), none⟩,
       ⟨some 34, .load false 1 (.t 33), none⟩,
       ⟨some 35, .faddr 0 (.t 7), none⟩,
       ⟨some 36, .load false 1 (.t 35), none⟩,
       ⟨some 37, .bin .neq (.t 34) (.t 36), none⟩,
       ⟨some 38, .mv (.t 37), none⟩,
       ⟨some 39, .faddr 1 (.t 6), some (38, false)⟩,
       ⟨some 40, .load false 1 (.t 39), some (38, false)⟩,
       ⟨some 41, .len (.t 40), some (38, false)⟩,
       ⟨some 42, .faddr 1 (.t 7), some (38, false)⟩,
       ⟨some 43, .load false 1 (.t 42), some (38, false)⟩,
       ⟨some 44, .len (.t 43), some (38, false)⟩,
       ⟨some 45, .bin .neq (.t 41) (.t 44), some (38, false)⟩,
       ⟨some 46, .pick (.t 38) (.k (.bool true)) (.t 45), none⟩])
     (.cond (.t 46) (.seq (.reg [⟨some 4, .mv (.k (.bool false)), none⟩])
       (.ret))
       (.skip)))
     (.seq (.reg [⟨some 8, .mv (.k (.int .i64 0)), none⟩])
     (.block 2 (.loop (.seq (.seq (.reg [⟨some 47, .mv (.t 8), none⟩,
         ⟨some 48, .faddr 1 (.t 6), none⟩,
         ⟨some 49, .load false 1 (.t 48), none⟩,
         ⟨some 50, .len (.t 49), none⟩,
         ⟨some 51, .bin .lss (.t 47) (.t 50), none⟩])
       (.cond (.t 51) (.skip)
         (.exit 2)))
       (.seq (.block 3 (.seq (.regD [⟨some 54, .faddr 1 (.t 6), none⟩,
          ⟨some 55, .load false 1 (.t 54), none⟩,
          ⟨some 56, .mv (.t 8), none⟩,
          ⟨some 57, .iaddrS 2 (.t 55) (.t 56), none⟩,
          ⟨some 58, .load true 2 (.t 57), none⟩,
          ⟨some 59, .faddr 1 (.t 7), none⟩,
          ⟨some 60, .load false 1 (.t 59), none⟩,
          ⟨some 61, .mv (.t 8), none⟩,
          ⟨some 62, .iaddrS 2 (.t 60) (.t 61), none⟩,
          ⟨some 63, .load true 2 (.t 62), none⟩,
          ⟨some 64, .eqs true [false, false] (.t 58) (.t 63), none⟩] [[], [0], [], [1, 2], [3], [], [5], [], [6, 7], [8], [4, 9]])
        (.cond (.t 64) (.seq (.reg [⟨some 4, .mv (.k (.bool false)), none⟩])
          (.ret))
          (.skip))))
       (.reg [⟨some 52, .mv (.t 8), none⟩,
         ⟨some 53, .bin .add (.t 52) (.k (.int .i64 1)), none⟩,
         ⟨some 8, .mv (.t 53), none⟩])))))))))
    (.reg [⟨some 21, .mv (.t 5), none⟩,
      ⟨some 22, .bin .add (.t 21) (.k (.int .i64 1)), none⟩,
      ⟨some 5, .mv (.t 22), none⟩]))))))
  (.seq (.reg [⟨some 4, .mv (.k (.bool true)), none⟩])
  (.ret))))
theorem b15 : Body Tryd.prog 15 c15 [.tmp 4] 65 := ⟨by kernel_rfl, _, _, Tryd.func15, rfl, by kernel_rfl, by kernel_rfl, rfl⟩
def c18 : ACode :=
  .seq (.reg [⟨some 3, .box (.t 0), none⟩,
    ⟨some 6, .mv (.k .nils), none⟩,
    ⟨some 7, .mv (.k (.int .i64 0)), none⟩])
  (.seq (.seq (.reg [⟨some 15, .load true 1 (.t 3), none⟩,
    ⟨some 16, .mv (.t 1), none⟩,
    ⟨some 17, .mv (.t 2), none⟩,
    ⟨some 18, .call (.k (.fn 35 [] [])) [(.t 15), (.t 16), (.t 17)], none⟩,
    ⟨some 8, .mv (.t 18), none⟩])
  (.seq (.reg [⟨some 19, .mv (.t 8), none⟩,
    ⟨some 20, .bin .neq (.t 19) (.k (.int .i64 0)), none⟩])
  (.cond (.t 20) (.seq (.reg [⟨some 21, .mv (.t 8), none⟩,
      ⟨some 6, .mv (.k .nils), none⟩,
      ⟨some 7, .mv (.t 21), none⟩])
    (.ret))
    (.skip))))
  (.seq (.reg [⟨some 22, .load true 1 (.t 3), none⟩,
    ⟨some 23, .call (.k (.fn 36 [] [])) [(.t 22)], none⟩,
    ⟨some 9, .new [.nilp], none⟩,
    ⟨none, .store 1 (.t 9) (.t 23), none⟩])
  (.seq (.reg [⟨some 10, .new [.nils], none⟩])
  (.seq (.seq (.reg [⟨some 24, .mv (.t 1), none⟩,
    ⟨some 25, .mv (.t 2), none⟩,
    ⟨some 26, .call (.k (.fn 37 [] [])) [(.t 24), (.t 25)], none⟩])
  (.block 0 (.rangeF (.t 26) [27, 28] (.seq (.reg [⟨some 11, .mv (.t 27), none⟩])
     (.reg [⟨some 12, .mv (.t 28), none⟩]))
     (.block 1 (.seq (.reg [⟨some 29, .load false 1 (.t 9), none⟩,
        ⟨some 30, .mv (.t 11), none⟩,
        ⟨some 31, .nchk (.t 29), none⟩,
        ⟨some 32, .iaddrA 1024 1 (.t 31) (.t 30), none⟩,
        ⟨some 33, .load false 1 (.t 32), none⟩,
        ⟨some 34, .mv (.t 12), none⟩,
        ⟨some 35, .bin .and (.t 33) (.t 34), none⟩,
        ⟨some 36, .call (.k (.fn 40 [] [])) [(.t 35)], none⟩,
        ⟨some 37, .len (.t 36), none⟩,
        ⟨some 38, .mv (.k (.int .i64 0)), none⟩])
      (.block 2 (.loop (.seq (.reg [⟨some 39, .bin .lss (.t 38) (.t 37), none⟩])
        (.seq (.cond (.t 39) (.skip)
          (.exit 2))
        (.seq (.block 3 (.seq (.reg [⟨some 40, .iaddrS 2 (.t 36) (.t 38), none⟩,
           ⟨some 41, .load true 2 (.t 40), none⟩,
           ⟨some 14, .new [(.int .i64 0), (.int .i64 0)], none⟩,
           ⟨none, .store 2 (.t 14) (.t 41), none⟩])
         (.reg [⟨some 42, .load false 1 (.t 10), none⟩,
           ⟨some 43, .mv (.t 11), none⟩,
           ⟨some 44, .bin .mul (.t 43) (.k (.int .i64 64)), none⟩,
           ⟨some 45, .faddr 0 (.t 14), none⟩,
           ⟨some 46, .load false 1 (.t 45), none⟩,
           ⟨some 47, .bin .add (.t 44) (.t 46), none⟩,
           ⟨some 48, .faddr 1 (.t 14), none⟩,
           ⟨some 49, .load false 1 (.t 48), none⟩,
           ⟨some 50, .build [(.int .i64 0), (.int .i64 0)] [(0, 1, (.t 47)), (1, 1, (.t 49))], none⟩,
           ⟨some 51, .bslice 2 1 [(.int .i64 0), (.int .i64 0)] [(0, 2, (.t 50))], none⟩,
           ⟨some 52, .append 2 16 (.t 42) (.t 51), none⟩,
           ⟨none, .store 1 (.t 10) (.t 52), none⟩])))
        (.reg [⟨some 53, .bin .add (.t 38) (.k (.int .i64 1)), none⟩,
          ⟨some 38, .mv (.t 53), none⟩])))))))))))
  (.seq (.reg [⟨some 54, .load false 1 (.t 10), none⟩,
    ⟨some 6, .mv (.t 54), none⟩,
    ⟨some 7, .mv (.k (.int .i64 0)), none⟩])
  (.ret))))))
theorem b18 : Body Tryd.prog 18 c18 [.tmp 6, .tmp 7] 55 := ⟨by kernel_rfl, _, _, Tryd.func18, rfl, by kernel_rfl, by kernel_rfl, rfl⟩
def c23 : ACode :=
  .seq (.reg [⟨some 4, .mv (.k (.bool false)), none⟩])
  (.seq (.seq (.reg [⟨some 6, .mv (.t 0), none⟩,
    ⟨some 7, .len (.t 6), none⟩,
    ⟨some 8, .mv (.t 1), none⟩,
    ⟨some 9, .len (.t 8), none⟩,
    ⟨some 10, .bin .neq (.t 7) (.t 9), none⟩])
  (.cond (.t 10) (.seq (.reg [⟨some 4, .mv (.k (.bool false)), none⟩])
    (.ret))
    (.skip)))
  (.seq (.seq (.reg [⟨some 5, .mv (.k (.int .i64 0)), none⟩])
  (.block 0 (.loop (.seq (.seq (.reg [⟨some 11, .mv (.t 5), none⟩,
      ⟨some 12, .mv (.t 0), none⟩,
      ⟨some 13, .len (.t 12), none⟩,
      ⟨some 14, .bin .lss (.t 11) (.t 13), none⟩])
    (.cond (.t 14) (.skip)
      (.exit 0)))
    (.seq (.block 1 (.seq (.regD [⟨some 17, .mv (.t 0), none⟩,
       ⟨some 18, .mv (.t 5), none⟩,
       ⟨some 19, .iaddrS 2 (.t 17) (.t 18), none⟩,
       ⟨some 20, .load true 2 (.t 19), none⟩,
       ⟨some 21, .mv (.t 1), none⟩,
       ⟨some 22, .mv (.t 5), none⟩,
       ⟨some 23, .iaddrS 2 (.t 21) (.t 22), none⟩,
       ⟨some 24, .load true 2 (.t 23), none⟩,
       ⟨some 25, .eqs true [false, false] (.t 20) (.t 24), none⟩] [[], [], [0, 1], [2], [], [], [4, 5], [6], [3, 7]])
     (.cond (.t 25) (.seq (.reg [⟨some 4, .mv (.k (.bool false)), none⟩])
       (.ret))
       (.skip))))
    (.reg [⟨some 15, .mv (.t 5), none⟩,
      ⟨some 16, .bin .add (.t 15) (.k (.int .i64 1)), none⟩,
      ⟨some 5, .mv (.t 16), none⟩]))))))
  (.seq (.reg [⟨some 4, .mv (.k (.bool true)), none⟩])
  (.ret))))
theorem b23 : Body Tryd.prog 23 c23 [.tmp 4] 26 := ⟨by kernel_rfl, _, _, Tryd.func23, rfl, by kernel_rfl, by kernel_rfl, rfl⟩
def c24 : ACode :=
  .seq (.reg [⟨some 2, .box (.t 0), none⟩,
    ⟨some 3, .box (.t 1), none⟩,
    ⟨some 4, .new [.nils], none⟩,
    ⟨some 5, .mv (.k (.int .i64 0)), none⟩])
  (.seq (.seq (.reg [⟨some 8, .load true 1 (.t 2), none⟩,
    ⟨some 9, .call (.k (.fn 26 [] [])) [(.t 8)], none⟩,
    ⟨some 6, .mv (.t 9), none⟩])
  (.seq (.reg [⟨some 10, .mv (.t 6), none⟩,
    ⟨some 11, .bin .neq (.t 10) (.k (.int .i64 0)), none⟩])
  (.cond (.t 11) (.seq (.reg [⟨some 12, .build [.nils] [], none⟩,
      ⟨some 13, .mv (.t 6), none⟩,
      ⟨none, .store 1 (.t 4) (.t 12), none⟩,
      ⟨some 5, .mv (.t 13), none⟩])
    (.ret))
    (.skip))))
  (.seq (.seq (.reg [⟨some 14, .load true 2 (.t 3), none⟩,
    ⟨some 15, .bslice 2 1 [(.int .i64 0), (.int .i64 0)] [(0, 2, (.t 14))], none⟩,
    ⟨some 16, .call (.k (.fn 42 [] [])) [(.t 15)], none⟩,
    ⟨some 17, .bin .neq (.t 16) (.k (.int .i64 0)), none⟩])
  (.cond (.t 17) (.seq (.reg [⟨some 18, .build [.nils] [], none⟩,
      ⟨none, .store 1 (.t 4) (.t 18), none⟩,
      ⟨some 5, .mv (.k (.int .i64 7)), none⟩])
    (.ret))
    (.skip)))
  (.seq (.reg [⟨some 19, .load true 1 (.t 2), none⟩,
    ⟨some 20, .call (.k (.fn 36 [] [])) [(.t 19)], none⟩,
    ⟨some 7, .mv (.t 20), none⟩])
  (.seq (.regD [⟨some 21, .mv (.t 7), none⟩,
    ⟨some 22, .nchk (.t 21), none⟩,
    ⟨some 23, .faddr 0 (.t 3), none⟩,
    ⟨some 24, .load false 1 (.t 23), none⟩,
    ⟨some 25, .faddr 0 (.t 3), none⟩,
    ⟨some 26, .load false 1 (.t 25), none⟩,
    ⟨some 27, .faddr 1 (.t 3), none⟩,
    ⟨some 28, .load false 1 (.t 27), none⟩,
    ⟨some 29, .bin .add (.t 26) (.t 28), none⟩,
    ⟨some 30, .slA 1024 1 (.t 22) (some (.t 24)) (some (.t 29)), none⟩,
    ⟨none, .clear [(.int .u64 0)] (.t 30), none⟩] [[], [0], [], [2], [], [4], [], [6], [5, 7], [1, 3, 8], [9]])
  (.seq (.reg [⟨some 31, .mv (.t 7), none⟩,
    ⟨some 32, .call (.k (.fn 38 [] [])) [(.t 31)], none⟩,
    ⟨none, .store 1 (.t 4) (.t 32), none⟩,
    ⟨some 5, .mv (.k (.int .i64 0)), none⟩])
  (.ret))))))
theorem b24 : Body Tryd.prog 24 c24 [.cell 4 true 1, .tmp 5] 33 := ⟨by kernel_rfl, _, _, Tryd.func24, rfl, by kernel_rfl, by kernel_rfl, rfl⟩
def c26 : ACode :=
  .seq (.reg [⟨some 1, .box (.t 0), none⟩,
    ⟨some 2, .mv (.k (.int .i64 0)), none⟩])
  (.seq (.seq (.reg [⟨some 11, .faddr 0 (.t 1), none⟩,
    ⟨some 12, .load false 1 (.t 11), none⟩,
    ⟨some 13, .len (.t 12), none⟩,
    ⟨some 14, .bin .gtr (.t 13) (.k (.int .i64 1024)), none⟩])
  (.cond (.t 14) (.seq (.reg [⟨some 2, .mv (.k (.int .i64 3)), none⟩])
    (.ret))
    (.skip)))
  (.seq (.seq (.reg [⟨some 15, .faddr 0 (.t 1), none⟩,
    ⟨some 16, .load false 1 (.t 15), none⟩,
    ⟨some 17, .len (.t 16), none⟩,
    ⟨some 18, .mv (.k (.int .i64 0)), none⟩])
  (.block 0 (.loop (.seq (.reg [⟨some 19, .bin .lss (.t 18) (.t 17), none⟩])
    (.seq (.cond (.t 19) (.skip)
      (.exit 0))
    (.seq (.block 1 (.seq (.reg [⟨some 20, .iaddrS 2 (.t 16) (.t 18), none⟩,
       ⟨some 21, .load true 2 (.t 20), none⟩,
       ⟨some 4, .new [(.int .i64 0), .nils], none⟩,
       ⟨none, .store 2 (.t 4) (.t 21), none⟩])
     (.seq (.reg [⟨some 22, .faddr 0 (.t 4), none⟩,
       ⟨some 23, .load false 1 (.t 22), none⟩,
       ⟨some 24, .bin .lss (.t 23) (.k (.int .i64 0)), none⟩,
       ⟨some 25, .mv (.t 24), none⟩,
       ⟨some 26, .faddr 0 (.t 4), some (25, false)⟩,
       ⟨some 27, .load false 1 (.t 26), some (25, false)⟩,
       ⟨some 28, .bin .geq (.t 27) (.k (.int .i64 1024)), some (25, false)⟩,
       ⟨some 29, .pick (.t 25) (.k (.bool true)) (.t 28), none⟩,
       ⟨some 30, .mv (.t 29), none⟩,
       ⟨some 31, .faddr 1 (.t 4), some (30, false)⟩,
       ⟨some 32, .load false 1 (.t 31), some (30, false)⟩,
       ⟨some 33, .call (.k (.fn 44 [] [])) [(.t 32), (.k (.fn 45 [] []))], some (30, false)⟩,
       ⟨some 34, .pick (.t 30) (.k (.bool true)) (.t 33), none⟩])
     (.cond (.t 34) (.seq (.reg [⟨some 2, .mv (.k (.int .i64 7)), none⟩])
       (.ret))
       (.skip)))))
    (.reg [⟨some 35, .bin .add (.t 18) (.k (.int .i64 1)), none⟩,
      ⟨some 18, .mv (.t 35), none⟩])))))))
  (.seq (.reg [⟨some 5, .mv (.k (.int .i64 (-1))), none⟩])
  (.seq (.seq (.reg [⟨some 36, .faddr 0 (.t 1), none⟩,
    ⟨some 37, .load false 1 (.t 36), none⟩,
    ⟨some 38, .len (.t 37), none⟩,
    ⟨some 39, .mv (.k (.int .i64 0)), none⟩])
  (.block 2 (.loop (.seq (.reg [⟨some 40, .bin .lss (.t 39) (.t 38), none⟩])
    (.seq (.cond (.t 40) (.skip)
      (.exit 2))
    (.seq (.block 3 (.seq (.reg [⟨some 41, .iaddrS 2 (.t 37) (.t 39), none⟩,
       ⟨some 42, .load true 2 (.t 41), none⟩,
       ⟨some 7, .new [(.int .i64 0), .nils], none⟩,
       ⟨none, .store 2 (.t 7) (.t 42), none⟩])
     (.seq (.reg [⟨some 8, .mv (.k (.int .u64 0)), none⟩])
     (.seq (.seq (.reg [⟨some 43, .faddr 1 (.t 7), none⟩,
       ⟨some 44, .load false 1 (.t 43), none⟩,
       ⟨some 45, .len (.t 44), none⟩,
       ⟨some 46, .mv (.k (.int .i64 0)), none⟩])
     (.block 4 (.loop (.seq (.reg [⟨some 47, .bin .lss (.t 46) (.t 45), none⟩])
       (.seq (.cond (.t 47) (.skip)
         (.exit 4))
       (.seq (.block 5 (.seq (.reg [⟨some 48, .iaddrS 2 (.t 44) (.t 46), none⟩,
          ⟨some 49, .load true 2 (.t 48), none⟩,
          ⟨some 10, .new [(.int .i64 0), (.int .i64 0)], none⟩,
          ⟨none, .store 2 (.t 10) (.t 49), none⟩])
        (.reg [⟨some 50, .mv (.t 8), none⟩,
          ⟨some 51, .faddr 0 (.t 10), none⟩,
          ⟨some 52, .load false 1 (.t 51), none⟩,
          ⟨some 53, .faddr 1 (.t 10), none⟩,
          ⟨some 54, .load false 1 (.t 53), none⟩,
          ⟨some 55, .call (.k (.fn 46 [] [])) [(.t 52), (.t 54)], none⟩,
          ⟨some 56, .bin .or (.t 50) (.t 55), none⟩,
          ⟨some 8, .mv (.t 56), none⟩])))
       (.reg [⟨some 57, .bin .add (.t 46) (.k (.int .i64 1)), none⟩,
         ⟨some 46, .mv (.t 57), none⟩])))))))
     (.seq (.seq (.regD [⟨some 58, .faddr 0 (.t 7), none⟩,
       ⟨some 59, .load false 1 (.t 58), none⟩,
       ⟨some 60, .mv (.t 5), none⟩,
       ⟨some 61, .bin .leq (.t 59) (.t 60), none⟩,
       ⟨some 62, .mv (.t 61), none⟩,
       ⟨some 63, .faddr 1 (.t 7), some (62, false)⟩,
       ⟨some 64, .load false 1 (.t 63), some (62, false)⟩,
       ⟨some 65, .len (.t 64), some (62, false)⟩,
       ⟨some 66, .bin .eql (.t 65) (.k (.int .i64 0)), some (62, false)⟩,
       ⟨some 67, .pick (.t 62) (.k (.bool true)) (.t 66), none⟩,
       ⟨some 68, .mv (.t 67), none⟩,
       ⟨some 69, .faddr 1 (.t 7), some (68, false)⟩,
       ⟨some 70, .load false 1 (.t 69), some (68, false)⟩,
       ⟨some 71, .len (.t 70), some (68, false)⟩,
       ⟨some 72, .bin .gtr (.t 71) (.k (.int .i64 4)), some (68, false)⟩,
       ⟨some 73, .pick (.t 68) (.k (.bool true)) (.t 72), none⟩,
       ⟨some 74, .mv (.t 73), none⟩,
       ⟨some 75, .mv (.t 8), some (74, false)⟩,
       ⟨some 76, .call (.k (.fn 40 [] [])) [(.t 75)], some (74, false)⟩,
       ⟨some 77, .faddr 1 (.t 7), some (74, false)⟩,
       ⟨some 78, .load false 1 (.t 77), some (74, false)⟩,
       ⟨some 79, .call (.k (.fn 47 [] [])) [(.t 76), (.t 78)], some (74, false)⟩,
       ⟨some 80, .un .not (.t 79), some (74, false)⟩,
       ⟨some 81, .pick (.t 74) (.k (.bool true)) (.t 80), none⟩] [[], [0], [], [1, 2], [3], [4], [5, 4], [6, 4], [7, 4], [4, 8], [9, 4], [10], [11, 10], [12, 10], [13, 10], [10, 14], [15, 10], [16], [17, 16, 16], [16], [19, 16], [18, 20, 18, 16], [21, 16], [16, 22]])
     (.cond (.t 81) (.seq (.reg [⟨some 2, .mv (.k (.int .i64 6)), none⟩])
       (.ret))
       (.skip)))
     (.reg [⟨some 82, .faddr 0 (.t 7), none⟩,
       ⟨some 83, .load false 1 (.t 82), none⟩,
       ⟨some 5, .mv (.t 83), none⟩]))))))
    (.reg [⟨some 84, .bin .add (.t 39) (.k (.int .i64 1)), none⟩,
      ⟨some 39, .mv (.t 84), none⟩])))))))
  (.seq (.reg [⟨some 2, .mv (.k (.int .i64 0)), none⟩])
  (.ret))))))
theorem b26 : Body Tryd.prog 26 c26 [.tmp 2] 85 := ⟨by kernel_rfl, _, _, Tryd.func26, rfl, by kernel_rfl, by kernel_rfl, rfl⟩
def c27 : ACode :=
  .seq (.reg [⟨some 1, .box (.t 0), none⟩,
    ⟨some 2, .mv (.k (.int .i64 0)), none⟩])
  (.seq (.seq (.reg [⟨some 8, .faddr 0 (.t 1), none⟩,
    ⟨some 9, .load false 1 (.t 8), none⟩,
    ⟨some 10, .len (.t 9), none⟩,
    ⟨some 11, .bin .gtr (.t 10) (.k (.int .i64 1024)), none⟩])
  (.cond (.t 11) (.seq (.reg [⟨some 2, .mv (.k (.int .i64 3)), none⟩])
    (.ret))
    (.skip)))
  (.seq (.seq (.reg [⟨some 3, .mv (.k (.int .i64 0)), none⟩])
  (.block 0 (.loop (.seq (.seq (.reg [⟨some 12, .mv (.t 3), none⟩,
      ⟨some 13, .faddr 0 (.t 1), none⟩,
      ⟨some 14, .load false 1 (.t 13), none⟩,
      ⟨some 15, .len (.t 14), none⟩,
      ⟨some 16, .bin .lss (.t 12) (.t 15), none⟩])
    (.cond (.t 16) (.skip)
      (.exit 0)))
    (.seq (.block 1 (.seq (.seq (.reg [⟨some 19, .faddr 0 (.t 1), none⟩,
       ⟨some 20, .load false 1 (.t 19), none⟩,
       ⟨some 21, .mv (.t 3), none⟩,
       ⟨some 22, .iaddrS 2 (.t 20) (.t 21), none⟩,
       ⟨some 23, .faddr 0 (.t 22), none⟩,
       ⟨some 24, .load false 1 (.t 23), none⟩,
       ⟨some 25, .bin .lss (.t 24) (.k (.int .i64 0)), none⟩,
       ⟨some 26, .mv (.t 25), none⟩,
       ⟨some 27, .faddr 0 (.t 1), some (26, false)⟩,
       ⟨some 28, .load false 1 (.t 27), some (26, false)⟩,
       ⟨some 29, .mv (.t 3), some (26, false)⟩,
       ⟨some 30, .iaddrS 2 (.t 28) (.t 29), some (26, false)⟩,
       ⟨some 31, .faddr 0 (.t 30), some (26, false)⟩,
       ⟨some 32, .load false 1 (.t 31), some (26, false)⟩,
       ⟨some 33, .bin .geq (.t 32) (.k (.int .i64 1024)), some (26, false)⟩,
       ⟨some 34, .pick (.t 26) (.k (.bool true)) (.t 33), none⟩])
     (.cond (.t 34) (.seq (.reg [⟨some 2, .mv (.k (.int .i64 7)), none⟩])
       (.ret))
       (.skip)))
     (.seq (.reg [⟨some 4, .mv (.k (.int .i64 0)), none⟩])
     (.block 2 (.loop (.seq (.seq (.reg [⟨some 35, .mv (.t 4), none⟩,
         ⟨some 36, .faddr 0 (.t 1), none⟩,
         ⟨some 37, .load false 1 (.t 36), none⟩,
         ⟨some 38, .mv (.t 3), none⟩,
         ⟨some 39, .iaddrS 2 (.t 37) (.t 38), none⟩,
         ⟨some 40, .faddr 1 (.t 39), none⟩,
         ⟨some 41, .load false 1 (.t 40), none⟩,
         ⟨some 42, .len (.t 41), none⟩,
         ⟨some 43, .bin .lss (.t 35) (.t 42), none⟩])
       (.cond (.t 43) (.skip)
         (.exit 2)))
       (.seq (.block 3 (.seq (.reg [⟨some 46, .faddr 0 (.t 1), none⟩,
          ⟨some 47, .load false 1 (.t 46), none⟩,
          ⟨some 48, .mv (.t 3), none⟩,
          ⟨some 49, .iaddrS 2 (.t 47) (.t 48), none⟩,
          ⟨some 50, .faddr 1 (.t 49), none⟩,
          ⟨some 51, .load false 1 (.t 50), none⟩,
          ⟨some 52, .mv (.t 4), none⟩,
          ⟨some 53, .iaddrS 2 (.t 51) (.t 52), none⟩,
          ⟨some 54, .load true 2 (.t 53), none⟩,
          ⟨some 55, .call (.k (.fn 48 [] [])) [(.t 54)], none⟩,
          ⟨some 56, .un .not (.t 55), none⟩])
        (.cond (.t 56) (.seq (.reg [⟨some 2, .mv (.k (.int .i64 7)), none⟩])
          (.ret))
          (.skip))))
       (.reg [⟨some 44, .mv (.t 4), none⟩,
         ⟨some 45, .bin .add (.t 44) (.k (.int .i64 1)), none⟩,
         ⟨some 4, .mv (.t 45), none⟩]))))))))
    (.reg [⟨some 17, .mv (.t 3), none⟩,
      ⟨some 18, .bin .add (.t 17) (.k (.int .i64 1)), none⟩,
      ⟨some 3, .mv (.t 18), none⟩]))))))
  (.seq (.seq (.reg [⟨some 5, .mv (.k (.int .i64 0)), none⟩])
  (.block 4 (.loop (.seq (.seq (.reg [⟨some 57, .mv (.t 5), none⟩,
      ⟨some 58, .faddr 0 (.t 1), none⟩,
      ⟨some 59, .load false 1 (.t 58), none⟩,
      ⟨some 60, .len (.t 59), none⟩,
      ⟨some 61, .bin .lss (.t 57) (.t 60), none⟩])
    (.cond (.t 61) (.skip)
      (.exit 4)))
    (.seq (.block 5 (.seq (.reg [⟨some 64, .faddr 0 (.t 1), none⟩,
       ⟨some 65, .load false 1 (.t 64), none⟩,
       ⟨some 66, .mv (.t 5), none⟩,
       ⟨some 67, .iaddrS 2 (.t 65) (.t 66), none⟩,
       ⟨some 68, .faddr 1 (.t 67), none⟩,
       ⟨some 69, .load false 1 (.t 68), none⟩,
       ⟨some 6, .mv (.t 69), none⟩])
     (.seq (.seq (.regD [⟨some 70, .mv (.t 6), none⟩,
       ⟨some 71, .len (.t 70), none⟩,
       ⟨some 72, .bin .lss (.t 71) (.k (.int .i64 1)), none⟩,
       ⟨some 73, .mv (.t 72), none⟩,
       ⟨some 74, .mv (.t 6), some (73, false)⟩,
       ⟨some 75, .len (.t 74), some (73, false)⟩,
       ⟨some 76, .bin .gtr (.t 75) (.k (.int .i64 4)), some (73, false)⟩,
       ⟨some 77, .pick (.t 73) (.k (.bool true)) (.t 76), none⟩,
       ⟨some 78, .mv (.t 77), none⟩,
       ⟨some 79, .mv (.t 5), some (78, false)⟩,
       ⟨some 80, .bin .gtr (.t 79) (.k (.int .i64 0)), some (78, false)⟩,
       ⟨some 81, .mv (.t 80), some (78, false)⟩,
       ⟨some 82, .faddr 0 (.t 1), some (81, true)⟩,
       ⟨some 83, .load false 1 (.t 82), some (81, true)⟩,
       ⟨some 84, .mv (.t 5), some (81, true)⟩,
       ⟨some 85, .iaddrS 2 (.t 83) (.t 84), some (81, true)⟩,
       ⟨some 86, .faddr 0 (.t 85), some (81, true)⟩,
       ⟨some 87, .load false 1 (.t 86), some (81, true)⟩,
       ⟨some 88, .faddr 0 (.t 1), some (81, true)⟩,
       ⟨some 89, .load false 1 (.t 88), some (81, true)⟩,
       ⟨some 90, .mv (.t 5), some (81, true)⟩,
       ⟨some 91, .bin .sub (.t 90) (.k (.int .i64 1)), some (81, true)⟩,
       ⟨some 92, .iaddrS 2 (.t 89) (.t 91), some (81, true)⟩,
       ⟨some 93, .faddr 0 (.t 92), some (81, true)⟩,
       ⟨some 94, .load false 1 (.t 93), some (81, true)⟩,
       ⟨some 95, .bin .leq (.t 87) (.t 94), some (81, true)⟩,
       ⟨some 96, .pick (.t 81) (.t 95) (.k (.bool false)), some (78, false)⟩,
       ⟨some 97, .pick (.t 78) (.k (.bool true)) (.t 96), none⟩] [[], [0], [1], [2], [3], [4, 3], [5, 3], [3, 6], [7, 3], [8], [9, 8], [10, 8, 8], [11], [12, 11], [11], [13, 14, 11], [15, 11], [16, 11], [11], [18, 11], [11], [20, 11], [19, 21, 11], [22, 11], [23, 11], [17, 24, 11], [11, 25, 8], [8, 26]])
     (.cond (.t 97) (.seq (.reg [⟨some 2, .mv (.k (.int .i64 6)), none⟩])
       (.ret))
       (.skip)))
     (.seq (.reg [⟨some 7, .mv (.k (.int .i64 1)), none⟩])
     (.block 6 (.loop (.seq (.seq (.reg [⟨some 98, .mv (.t 7), none⟩,
         ⟨some 99, .mv (.t 6), none⟩,
         ⟨some 100, .len (.t 99), none⟩,
         ⟨some 101, .bin .lss (.t 98) (.t 100), none⟩])
       (.cond (.t 101) (.skip)
         (.exit 6)))
       (.seq (.block 7 (.seq (.regD [⟨some 104, .mv (.t 6), none⟩,
          ⟨some 105, .mv (.t 7), none⟩,
          ⟨some 106, .iaddrS 2 (.t 104) (.t 105), none⟩,
          ⟨some 107, .faddr 0 (.t 106), none⟩,
          ⟨some 108, .load false 1 (.t 107), none⟩,
          ⟨some 109, .mv (.t 6), none⟩,
          ⟨some 110, .mv (.t 7), none⟩,
          ⟨some 111, .bin .sub (.t 110) (.k (.int .i64 1)), none⟩,
          ⟨some 112, .iaddrS 2 (.t 109) (.t 111), none⟩,
          ⟨some 113, .faddr 0 (.t 112), none⟩,
          ⟨some 114, .load false 1 (.t 113), none⟩,
          ⟨some 115, .mv (.t 6), none⟩,
          ⟨some 116, .mv (.t 7), none⟩,
          ⟨some 117, .bin .sub (.t 116) (.k (.int .i64 1)), none⟩,
          ⟨some 118, .iaddrS 2 (.t 115) (.t 117), none⟩,
          ⟨some 119, .faddr 1 (.t 118), none⟩,
          ⟨some 120, .load false 1 (.t 119), none⟩,
          ⟨some 121, .bin .add (.t 114) (.t 120), none⟩,
          ⟨some 122, .bin .leq (.t 108) (.t 121), none⟩] [[], [], [0, 1], [2], [3], [], [], [6], [5, 7], [8], [9], [], [], [12], [11, 13], [14], [15], [10, 16], [4, 17]])
        (.cond (.t 122) (.seq (.reg [⟨some 2, .mv (.k (.int .i64 6)), none⟩])
          (.ret))
          (.skip))))
       (.reg [⟨some 102, .mv (.t 7), none⟩,
         ⟨some 103, .bin .add (.t 102) (.k (.int .i64 1)), none⟩,
         ⟨some 7, .mv (.t 103), none⟩])))))))))
    (.reg [⟨some 62, .mv (.t 5), none⟩,
      ⟨some 63, .bin .add (.t 62) (.k (.int .i64 1)), none⟩,
      ⟨some 5, .mv (.t 63), none⟩]))))))
  (.seq (.reg [⟨some 2, .mv (.k (.int .i64 0)), none⟩])
  (.ret)))))
theorem b27 : Body Tryd.prog 27 c27 [.tmp 2] 123 := ⟨by kernel_rfl, _, _, Tryd.func27, rfl, by kernel_rfl, by kernel_rfl, rfl⟩
def c28 : ACode :=
  .seq (.reg [⟨some 8, .mv (.k (.bool false)), none⟩])
  (.seq (.seq (.reg [⟨some 9, .mv (.k (.int .i64 0)), none⟩])
  (.block 0 (.loop (.seq (.seq (.reg [⟨some 12, .mv (.t 9), none⟩,
      ⟨some 13, .mv (.t 1), none⟩,
      ⟨some 14, .len (.t 13), none⟩,
      ⟨some 15, .bin .lss (.t 12) (.t 14), none⟩])
    (.cond (.t 15) (.skip)
      (.exit 0)))
    (.seq (.block 1 (.seq (.seq (.regD [⟨some 18, .mv (.t 1), none⟩,
       ⟨some 19, .mv (.t 9), none⟩,
       ⟨some 20, .iaddrS 2 (.t 18) (.t 19), none⟩,
       ⟨some 21, .faddr 0 (.t 20), none⟩,
       ⟨some 22, .load false 1 (.t 21), none⟩,
       ⟨some 23, .mv (.t 2), none⟩,
       ⟨some 24, .bin .lss (.t 22) (.t 23), none⟩,
       ⟨some 25, .mv (.t 24), none⟩,
       ⟨some 26, .mv (.t 1), some (25, false)⟩,
       ⟨some 27, .mv (.t 9), some (25, false)⟩,
       ⟨some 28, .iaddrS 2 (.t 26) (.t 27), some (25, false)⟩,
       ⟨some 29, .faddr 1 (.t 28), some (25, false)⟩,
       ⟨some 30, .load false 1 (.t 29), some (25, false)⟩,
       ⟨some 31, .bin .lss (.t 30) (.k (.int .i64 1)), some (25, false)⟩,
       ⟨some 32, .pick (.t 25) (.k (.bool true)) (.t 31), none⟩,
       ⟨some 33, .mv (.t 32), none⟩,
       ⟨some 34, .mv (.t 1), some (33, false)⟩,
       ⟨some 35, .mv (.t 9), some (33, false)⟩,
       ⟨some 36, .iaddrS 2 (.t 34) (.t 35), some (33, false)⟩,
       ⟨some 37, .faddr 1 (.t 36), some (33, false)⟩,
       ⟨some 38, .load false 1 (.t 37), some (33, false)⟩,
       ⟨some 39, .mv (.t 3), some (33, false)⟩,
       ⟨some 40, .bin .gtr (.t 38) (.t 39), some (33, false)⟩,
       ⟨some 41, .pick (.t 33) (.k (.bool true)) (.t 40), none⟩,
       ⟨some 42, .mv (.t 41), none⟩,
       ⟨some 43, .mv (.t 1), some (42, false)⟩,
       ⟨some 44, .mv (.t 9), some (42, false)⟩,
       ⟨some 45, .iaddrS 2 (.t 43) (.t 44), some (42, false)⟩,
       ⟨some 46, .faddr 0 (.t 45), some (42, false)⟩,
       ⟨some 47, .load false 1 (.t 46), some (42, false)⟩,
       ⟨some 48, .mv (.t 2), some (42, false)⟩,
       ⟨some 49, .mv (.t 3), some (42, false)⟩,
       ⟨some 50, .bin .add (.t 48) (.t 49), some (42, false)⟩,
       ⟨some 51, .mv (.t 1), some (42, false)⟩,
       ⟨some 52, .mv (.t 9), some (42, false)⟩,
       ⟨some 53, .iaddrS 2 (.t 51) (.t 52), some (42, false)⟩,
       ⟨some 54, .faddr 1 (.t 53), some (42, false)⟩,
       ⟨some 55, .load false 1 (.t 54), some (42, false)⟩,
       ⟨some 56, .bin .sub (.t 50) (.t 55), some (42, false)⟩,
       ⟨some 57, .bin .gtr (.t 47) (.t 56), some (42, false)⟩,
       ⟨some 58, .pick (.t 42) (.k (.bool true)) (.t 57), none⟩] [[], [], [0, 1], [2], [3], [], [4, 5], [6], [7], [7], [8, 9, 7], [10, 7], [11, 7], [12, 7], [7, 13], [14, 7], [15], [15], [16, 17, 15], [18, 15], [19, 15], [15], [20, 21, 15], [15, 22], [23, 15], [24], [24], [25, 26, 24], [27, 24], [28, 24], [24], [24], [30, 31, 24], [24], [24], [33, 34, 24], [35, 24], [36, 24], [32, 37, 24], [29, 38, 24], [24, 39]])
     (.cond (.t 58) (.seq (.reg [⟨some 8, .mv (.k (.bool false)), none⟩])
       (.ret))
       (.skip)))
     (.seq (.reg [⟨some 59, .mv (.t 1), none⟩,
       ⟨some 60, .mv (.t 9), none⟩,
       ⟨some 61, .iaddrS 2 (.t 59) (.t 60), none⟩,
       ⟨some 62, .faddr 0 (.t 61), none⟩,
       ⟨some 63, .load false 1 (.t 62), none⟩,
       ⟨some 10, .mv (.t 63), none⟩])
     (.block 2 (.loop (.seq (.seq (.regD [⟨some 64, .mv (.t 10), none⟩,
         ⟨some 65, .mv (.t 1), none⟩,
         ⟨some 66, .mv (.t 9), none⟩,
         ⟨some 67, .iaddrS 2 (.t 65) (.t 66), none⟩,
         ⟨some 68, .faddr 0 (.t 67), none⟩,
         ⟨some 69, .load false 1 (.t 68), none⟩,
         ⟨some 70, .mv (.t 1), none⟩,
         ⟨some 71, .mv (.t 9), none⟩,
         ⟨some 72, .iaddrS 2 (.t 70) (.t 71), none⟩,
         ⟨some 73, .faddr 1 (.t 72), none⟩,
         ⟨some 74, .load false 1 (.t 73), none⟩,
         ⟨some 75, .bin .add (.t 69) (.t 74), none⟩,
         ⟨some 76, .bin .lss (.t 64) (.t 75), none⟩] [[], [], [], [1, 2], [3], [4], [], [], [6, 7], [8], [9], [5, 10], [0, 11]])
       (.cond (.t 76) (.skip)
         (.exit 2)))
       (.seq (.block 3 (.reg [⟨some 79, .mv (.t 0), none⟩,
          ⟨some 80, .mv (.t 10), none⟩,
          ⟨some 81, .iaddrS 1 (.t 79) (.t 80), none⟩,
          ⟨none, .store 1 (.t 81) (.k (.bool false)), none⟩]))
       (.reg [⟨some 77, .mv (.t 10), none⟩,
         ⟨some 78, .bin .add (.t 77) (.k (.int .i64 1)), none⟩,
         ⟨some 10, .mv (.t 78), none⟩]))))))))
    (.reg [⟨some 16, .mv (.t 9), none⟩,
      ⟨some 17, .bin .add (.t 16) (.k (.int .i64 1)), none⟩,
      ⟨some 9, .mv (.t 17), none⟩]))))))
  (.seq (.seq (.reg [⟨some 82, .mv (.t 2), none⟩,
    ⟨some 11, .mv (.t 82), none⟩])
  (.block 4 (.loop (.seq (.seq (.reg [⟨some 83, .mv (.t 11), none⟩,
      ⟨some 84, .mv (.t 2), none⟩,
      ⟨some 85, .mv (.t 3), none⟩,
      ⟨some 86, .bin .add (.t 84) (.t 85), none⟩,
      ⟨some 87, .bin .lss (.t 83) (.t 86), none⟩])
    (.cond (.t 87) (.skip)
      (.exit 4)))
    (.seq (.block 5 (.seq (.reg [⟨some 90, .mv (.t 0), none⟩,
       ⟨some 91, .mv (.t 11), none⟩,
       ⟨some 92, .iaddrS 1 (.t 90) (.t 91), none⟩,
       ⟨some 93, .load false 1 (.t 92), none⟩])
     (.cond (.t 93) (.seq (.reg [⟨some 8, .mv (.k (.bool false)), none⟩])
       (.ret))
       (.skip))))
    (.reg [⟨some 88, .mv (.t 11), none⟩,
      ⟨some 89, .bin .add (.t 88) (.k (.int .i64 1)), none⟩,
      ⟨some 11, .mv (.t 89), none⟩]))))))
  (.seq (.reg [⟨some 8, .mv (.k (.bool true)), none⟩])
  (.ret))))
theorem b28 : Body Tryd.prog 28 c28 [.tmp 8] 94 := ⟨by kernel_rfl, _, _, Tryd.func28, rfl, by kernel_rfl, by kernel_rfl, rfl⟩
def c29 : ACode :=
  .seq (.reg [⟨some 1, .box (.t 0), none⟩,
    ⟨some 2, .mv (.k (.bool false)), none⟩])
  (.seq (.seq (.reg [⟨some 4, .load true 1 (.t 1), none⟩,
    ⟨some 5, .call (.k (.fn 27 [] [])) [(.t 4)], none⟩,
    ⟨some 6, .bin .neq (.t 5) (.k (.int .i64 0)), none⟩])
  (.cond (.t 6) (.seq (.reg [⟨some 2, .mv (.k (.bool false)), none⟩])
    (.ret))
    (.skip)))
  (.seq (.seq (.reg [⟨some 3, .mv (.k (.int .i64 0)), none⟩])
  (.block 0 (.loop (.seq (.seq (.reg [⟨some 7, .mv (.t 3), none⟩,
      ⟨some 8, .faddr 0 (.t 1), none⟩,
      ⟨some 9, .load false 1 (.t 8), none⟩,
      ⟨some 10, .len (.t 9), none⟩,
      ⟨some 11, .bin .lss (.t 7) (.t 10), none⟩])
    (.cond (.t 11) (.skip)
      (.exit 0)))
    (.seq (.block 1 (.seq (.reg [⟨some 14, .faddr 0 (.t 1), none⟩,
       ⟨some 15, .load false 1 (.t 14), none⟩,
       ⟨some 16, .mv (.t 3), none⟩,
       ⟨some 17, .iaddrS 2 (.t 15) (.t 16), none⟩,
       ⟨some 18, .faddr 0 (.t 17), none⟩,
       ⟨some 19, .load false 1 (.t 18), none⟩,
       ⟨some 20, .bin .geq (.t 19) (.k (.int .i64 16)), none⟩])
     (.cond (.t 20) (.seq (.reg [⟨some 2, .mv (.k (.bool false)), none⟩])
       (.ret))
       (.skip))))
    (.reg [⟨some 12, .mv (.t 3), none⟩,
      ⟨some 13, .bin .add (.t 12) (.k (.int .i64 1)), none⟩,
      ⟨some 3, .mv (.t 13), none⟩]))))))
  (.seq (.reg [⟨some 2, .mv (.k (.bool true)), none⟩])
  (.ret))))
theorem b29 : Body Tryd.prog 29 c29 [.tmp 2] 21 := ⟨by kernel_rfl, _, _, Tryd.func29, rfl, by kernel_rfl, by kernel_rfl, rfl⟩
def c30 : ACode :=
  .seq (.reg [⟨some 2, .box (.t 0), none⟩,
    ⟨some 4, .mv (.k (.bool false)), none⟩])
  (.seq (.reg [⟨some 5, .new (List.replicate 1024 (.bool false)), none⟩])
  (.seq (.seq (.reg [⟨some 6, .mv (.k (.int .i64 0)), none⟩])
  (.block 0 (.loop (.seq (.seq (.reg [⟨some 11, .mv (.t 6), none⟩,
      ⟨some 12, .faddr 0 (.t 2), none⟩,
      ⟨some 13, .load false 1 (.t 12), none⟩,
      ⟨some 14, .len (.t 13), none⟩,
      ⟨some 15, .bin .lss (.t 11) (.t 14), none⟩])
    (.cond (.t 15) (.skip)
      (.exit 0)))
    (.seq (.block 1 (.seq (.reg [⟨some 18, .faddr 0 (.t 2), none⟩,
       ⟨some 19, .load false 1 (.t 18), none⟩,
       ⟨some 20, .mv (.t 6), none⟩,
       ⟨some 21, .iaddrS 2 (.t 19) (.t 20), none⟩,
       ⟨some 22, .load true 2 (.t 21), none⟩,
       ⟨some 7, .new [(.int .i64 0), .nils], none⟩,
       ⟨none, .store 2 (.t 7) (.t 22), none⟩])
     (.seq (.reg [⟨some 8, .mv (.k (.int .i64 0)), none⟩])
     (.block 2 (.loop (.seq (.seq (.reg [⟨some 23, .mv (.t 8), none⟩,
         ⟨some 24, .faddr 1 (.t 7), none⟩,
         ⟨some 25, .load false 1 (.t 24), none⟩,
         ⟨some 26, .len (.t 25), none⟩,
         ⟨some 27, .bin .lss (.t 23) (.t 26), none⟩])
       (.cond (.t 27) (.skip)
         (.exit 2)))
       (.seq (.block 3 (.seq (.reg [⟨some 9, .mv (.k (.int .i64 0)), none⟩])
        (.block 4 (.loop (.seq (.seq (.reg [⟨some 30, .mv (.t 9), none⟩,
            ⟨some 31, .faddr 1 (.t 7), none⟩,
            ⟨some 32, .load false 1 (.t 31), none⟩,
            ⟨some 33, .mv (.t 8), none⟩,
            ⟨some 34, .iaddrS 2 (.t 32) (.t 33), none⟩,
            ⟨some 35, .faddr 1 (.t 34), none⟩,
            ⟨some 36, .load false 1 (.t 35), none⟩,
            ⟨some 37, .bin .lss (.t 30) (.t 36), none⟩])
          (.cond (.t 37) (.skip)
            (.exit 4)))
          (.seq (.block 5 (.regD [⟨some 40, .faddr 0 (.t 7), none⟩,
             ⟨some 41, .load false 1 (.t 40), none⟩,
             ⟨some 42, .bin .mul (.t 41) (.k (.int .i64 64)), none⟩,
             ⟨some 43, .faddr 1 (.t 7), none⟩,
             ⟨some 44, .load false 1 (.t 43), none⟩,
             ⟨some 45, .mv (.t 8), none⟩,
             ⟨some 46, .iaddrS 2 (.t 44) (.t 45), none⟩,
             ⟨some 47, .faddr 0 (.t 46), none⟩,
             ⟨some 48, .load false 1 (.t 47), none⟩,
             ⟨some 49, .bin .add (.t 42) (.t 48), none⟩,
             ⟨some 50, .mv (.t 9), none⟩,
             ⟨some 51, .bin .add (.t 49) (.t 50), none⟩,
             ⟨some 52, .iaddrA 1024 1 (.t 5) (.t 51), none⟩,
             ⟨none, .store 1 (.t 52) (.k (.bool true)), none⟩] [[], [0], [1], [], [3], [], [4, 5], [6], [7], [2, 8], [], [9, 10], [11, 0, 1, 2, 3, 4, 5, 6, 7, 8, 9, 10, 11], [12, 0, 1, 2, 3, 4, 5, 6, 7, 8, 9, 10, 11]]))
          (.reg [⟨some 38, .mv (.t 9), none⟩,
            ⟨some 39, .bin .add (.t 38) (.k (.int .i64 1)), none⟩,
            ⟨some 9, .mv (.t 39), none⟩])))))))
       (.reg [⟨some 28, .mv (.t 8), none⟩,
         ⟨some 29, .bin .add (.t 28) (.k (.int .i64 1)), none⟩,
         ⟨some 8, .mv (.t 29), none⟩]))))))))
    (.reg [⟨some 16, .mv (.t 6), none⟩,
      ⟨some 17, .bin .add (.t 16) (.k (.int .i64 1)), none⟩,
      ⟨some 6, .mv (.t 17), none⟩]))))))
  (.seq (.seq (.reg [⟨some 10, .mv (.k (.int .i64 0)), none⟩])
  (.block 6 (.loop (.seq (.seq (.reg [⟨some 53, .mv (.t 10), none⟩,
      ⟨some 54, .mv (.t 1), none⟩,
      ⟨some 55, .len (.t 54), none⟩,
      ⟨some 56, .bin .lss (.t 53) (.t 55), none⟩])
    (.cond (.t 56) (.skip)
      (.exit 6)))
    (.seq (.block 7 (.seq (.reg [⟨some 59, .mv (.t 1), none⟩,
       ⟨some 60, .mv (.t 10), none⟩,
       ⟨some 61, .iaddrS 1 (.t 59) (.t 60), none⟩,
       ⟨some 62, .load false 1 (.t 61), none⟩,
       ⟨some 63, .mv (.t 62), none⟩,
       ⟨some 64, .mv (.t 10), some (63, true)⟩,
       ⟨some 65, .iaddrA 1024 1 (.t 5) (.t 64), some (63, true)⟩,
       ⟨some 66, .load false 1 (.t 65), some (63, true)⟩,
       ⟨some 67, .un .not (.t 66), some (63, true)⟩,
       ⟨some 68, .pick (.t 63) (.t 67) (.k (.bool false)), none⟩])
     (.cond (.t 68) (.seq (.reg [⟨some 4, .mv (.k (.bool false)), none⟩])
       (.ret))
       (.skip))))
    (.reg [⟨some 57, .mv (.t 10), none⟩,
      ⟨some 58, .bin .add (.t 57) (.k (.int .i64 1)), none⟩,
      ⟨some 10, .mv (.t 58), none⟩]))))))
  (.seq (.reg [⟨some 4, .mv (.k (.bool true)), none⟩])
  (.ret)))))
theorem b30 : Body Tryd.prog 30 c30 [.tmp 4] 69 := ⟨by kernel_rfl, _, _, Tryd.func30, rfl, by kernel_rfl, by kernel_rfl, rfl⟩
def c33 : ACode :=
  .seq (.reg [⟨some 4, .new [(.int .i64 0), .nils], none⟩])
  (.seq (.reg [⟨some 5, .mv (.t 0), none⟩,
    ⟨some 6, .mv (.t 1), none⟩,
    ⟨some 7, .build [(.int .i64 0), .nils] [(0, 1, (.t 5)), (1, 1, (.t 6))], none⟩,
    ⟨none, .store 2 (.t 4) (.t 7), none⟩])
  (.ret))
theorem b33 : Body Tryd.prog 33 c33 [.cell 4 true 2] 8 := ⟨by kernel_rfl, _, _, Tryd.func33, rfl, by kernel_rfl, by kernel_rfl, rfl⟩
def c34 : ACode :=
  .seq (.reg [⟨some 2, .new [.nils], none⟩])
  (.seq (.reg [⟨some 3, .mv (.t 0), none⟩,
    ⟨some 4, .build [.nils] [(0, 1, (.t 3))], none⟩,
    ⟨none, .store 1 (.t 2) (.t 4), none⟩])
  (.ret))
theorem b34 : Body Tryd.prog 34 c34 [.cell 2 true 1] 5 := ⟨by kernel_rfl, _, _, Tryd.func34, rfl, by kernel_rfl, by kernel_rfl, rfl⟩
def c35 : ACode :=
  .seq (.reg [⟨some 3, .box (.t 0), none⟩,
    ⟨some 6, .mv (.k (.int .i64 0)), none⟩])
  (.seq (.seq (.reg [⟨some 8, .load true 1 (.t 3), none⟩,
    ⟨some 9, .call (.k (.fn 26 [] [])) [(.t 8)], none⟩,
    ⟨some 7, .mv (.t 9), none⟩])
  (.seq (.reg [⟨some 10, .mv (.t 7), none⟩,
    ⟨some 11, .bin .neq (.t 10) (.k (.int .i64 0)), none⟩])
  (.cond (.t 11) (.seq (.reg [⟨some 12, .mv (.t 7), none⟩,
      ⟨some 6, .mv (.t 12), none⟩])
    (.ret))
    (.skip))))
  (.seq (.seq (.reg [⟨some 13, .mv (.t 1), none⟩,
    ⟨some 14, .bin .lss (.t 13) (.k (.int .i64 0)), none⟩,
    ⟨some 15, .mv (.t 14), none⟩,
    ⟨some 16, .mv (.t 1), some (15, false)⟩,
    ⟨some 17, .bin .gtr (.t 16) (.k (.int .i64 65536)), some (15, false)⟩,
    ⟨some 18, .pick (.t 15) (.k (.bool true)) (.t 17), none⟩,
    ⟨some 19, .mv (.t 18), none⟩,
    ⟨some 20, .mv (.t 2), some (19, false)⟩,
    ⟨some 21, .bin .lss (.t 20) (.k (.int .i64 0)), some (19, false)⟩,
    ⟨some 22, .pick (.t 19) (.k (.bool true)) (.t 21), none⟩,
    ⟨some 23, .mv (.t 22), none⟩,
    ⟨some 24, .mv (.t 2), some (23, false)⟩,
    ⟨some 25, .mv (.t 1), some (23, false)⟩,
    ⟨some 26, .bin .sub (.k (.int .i64 65536)) (.t 25), some (23, false)⟩,
    ⟨some 27, .bin .gtr (.t 24) (.t 26), some (23, false)⟩,
    ⟨some 28, .pick (.t 23) (.k (.bool true)) (.t 27), none⟩])
  (.cond (.t 28) (.seq (.reg [⟨some 6, .mv (.k (.int .i64 7)), none⟩])
    (.ret))
    (.skip)))
  (.seq (.reg [⟨some 6, .mv (.k (.int .i64 0)), none⟩])
  (.ret))))
theorem b35 : Body Tryd.prog 35 c35 [.tmp 6] 29 := ⟨by kernel_rfl, _, _, Tryd.func35, rfl, by kernel_rfl, by kernel_rfl, rfl⟩
def c36 : ACode :=
  .seq (.reg [⟨some 1, .box (.t 0), none⟩,
    ⟨some 2, .mv (.k .nilp), none⟩])
  (.seq (.reg [⟨some 8, .build (List.replicate 1024 (.int .u64 0)) [], none⟩,
    ⟨some 9, .box (.t 8), none⟩,
    ⟨some 3, .mv (.t 9), none⟩])
  (.seq (.seq (.reg [⟨some 10, .faddr 0 (.t 1), none⟩,
    ⟨some 11, .load false 1 (.t 10), none⟩,
    ⟨some 12, .len (.t 11), none⟩,
    ⟨some 13, .mv (.k (.int .i64 0)), none⟩])
  (.block 0 (.loop (.seq (.reg [⟨some 14, .bin .lss (.t 13) (.t 12), none⟩])
    (.seq (.cond (.t 14) (.skip)
      (.exit 0))
    (.seq (.block 1 (.seq (.reg [⟨some 15, .iaddrS 2 (.t 11) (.t 13), none⟩,
       ⟨some 16, .load true 2 (.t 15), none⟩,
       ⟨some 5, .new [(.int .i64 0), .nils], none⟩,
       ⟨none, .store 2 (.t 5) (.t 16), none⟩])
     (.seq (.reg [⟨some 17, .faddr 1 (.t 5), none⟩,
       ⟨some 18, .load false 1 (.t 17), none⟩,
       ⟨some 19, .len (.t 18), none⟩,
       ⟨some 20, .mv (.k (.int .i64 0)), none⟩])
     (.block 2 (.loop (.seq (.reg [⟨some 21, .bin .lss (.t 20) (.t 19), none⟩])
       (.seq (.cond (.t 21) (.skip)
         (.exit 2))
       (.seq (.block 3 (.seq (.reg [⟨some 22, .iaddrS 2 (.t 18) (.t 20), none⟩,
          ⟨some 23, .load true 2 (.t 22), none⟩,
          ⟨some 7, .new [(.int .i64 0), (.int .i64 0)], none⟩,
          ⟨none, .store 2 (.t 7) (.t 23), none⟩])
        (.regD [⟨some 24, .mv (.t 3), none⟩,
          ⟨some 25, .faddr 0 (.t 5), none⟩,
          ⟨some 26, .load false 1 (.t 25), none⟩,
          ⟨some 27, .nchk (.t 24), none⟩,
          ⟨some 28, .iaddrA 1024 1 (.t 27) (.t 26), none⟩,
          ⟨some 29, .load false 1 (.t 28), none⟩,
          ⟨some 30, .faddr 0 (.t 7), none⟩,
          ⟨some 31, .load false 1 (.t 30), none⟩,
          ⟨some 32, .faddr 1 (.t 7), none⟩,
          ⟨some 33, .load false 1 (.t 32), none⟩,
          ⟨some 34, .call (.k (.fn 46 [] [])) [(.t 31), (.t 33)], none⟩,
          ⟨some 35, .bin .or (.t 29) (.t 34), none⟩,
          ⟨some 36, .nchk (.t 24), none⟩,
          ⟨some 37, .iaddrA 1024 1 (.t 36) (.t 26), none⟩,
          ⟨none, .store 1 (.t 37) (.t 35), none⟩] [[], [], [1], [0], [3, 2], [4], [], [6], [], [8], [7, 9], [5, 10], [0], [12, 2, 0, 1, 2, 3, 4, 5, 6, 7, 8, 9, 10, 11], [13, 11, 10, 0, 1, 2, 3, 4, 5, 6, 7, 8, 9, 10, 11]])))
       (.reg [⟨some 38, .bin .add (.t 20) (.k (.int .i64 1)), none⟩,
         ⟨some 20, .mv (.t 38), none⟩])))))))))
    (.reg [⟨some 39, .bin .add (.t 13) (.k (.int .i64 1)), none⟩,
      ⟨some 13, .mv (.t 39), none⟩])))))))
  (.seq (.reg [⟨some 40, .mv (.t 3), none⟩,
    ⟨some 2, .mv (.t 40), none⟩])
  (.ret))))
theorem b36 : Body Tryd.prog 36 c36 [.tmp 2] 41 := ⟨by kernel_rfl, _, _, Tryd.func36, rfl, by kernel_rfl, by kernel_rfl, rfl⟩
def c37 : ACode :=
  .seq (.reg [⟨some 2, .box (.t 0), none⟩,
    ⟨some 3, .box (.t 1), none⟩,
    ⟨some 4, .mv (.k .nilf), none⟩])
  (.seq (.reg [⟨some 5, .mkfn 49 [] [(.t 3), (.t 2)], none⟩,
    ⟨some 4, .mv (.t 5), none⟩])
  (.ret))
theorem b37 : Body Tryd.prog 37 c37 [.tmp 4] 6 := ⟨by kernel_rfl, _, _, Tryd.func37, rfl, by kernel_rfl, by kernel_rfl, rfl⟩
def c38 : ACode :=
  .seq (.reg [⟨some 2, .new [.nils], none⟩])
  (.seq (.reg [⟨some 3, .new [.nils], none⟩])
  (.seq (.seq (.reg [⟨some 6, .mv (.t 0), none⟩,
    ⟨some 7, .mv (.k (.int .i64 0)), none⟩])
  (.block 0 (.loop (.seq (.reg [⟨some 8, .bin .lss (.t 7) (.k (.int .i64 1024)), none⟩])
    (.seq (.cond (.t 8) (.skip)
      (.exit 0))
    (.seq (.block 1 (.seq (.regD [⟨some 9, .mv (.t 7), none⟩,
       ⟨some 10, .nchk (.t 6), none⟩,
       ⟨some 11, .iaddrA 1024 1 (.t 10) (.t 7), none⟩,
       ⟨some 12, .load false 1 (.t 11), none⟩,
       ⟨some 4, .mv (.t 9), none⟩,
       ⟨some 5, .mv (.t 12), none⟩] [[], [], [1], [2], [0, 0], [3, 4, 0, 1, 2, 3, 4]])
     (.seq (.reg [⟨some 13, .mv (.t 5), none⟩,
       ⟨some 14, .bin .neq (.t 13) (.k (.int .u64 0)), none⟩])
     (.cond (.t 14) (.regD [⟨some 15, .faddr 0 (.t 3), none⟩,
         ⟨some 16, .load false 1 (.t 15), none⟩,
         ⟨some 17, .mv (.t 4), none⟩,
         ⟨some 18, .mv (.t 5), none⟩,
         ⟨some 19, .call (.k (.fn 50 [] [])) [(.t 18)], none⟩,
         ⟨some 20, .build [(.int .i64 0), .nils] [(0, 1, (.t 17)), (1, 1, (.t 19))], none⟩,
         ⟨some 21, .bslice 2 1 [(.int .i64 0), .nils] [(0, 2, (.t 20))], none⟩,
         ⟨some 22, .append 2 32 (.t 16) (.t 21), none⟩,
         ⟨some 23, .faddr 0 (.t 3), none⟩,
         ⟨none, .store 1 (.t 23) (.t 22), none⟩] [[], [0], [], [], [3], [2, 4], [5], [1, 6, 4], [0, 1, 2, 3, 4, 5, 6, 7], [8, 7, 7, 0, 1, 2, 3, 4, 5, 6, 7]])
       (.skip)))))
    (.reg [⟨some 24, .bin .add (.t 7) (.k (.int .i64 1)), none⟩,
      ⟨some 7, .mv (.t 24), none⟩])))))))
  (.seq (.reg [⟨some 25, .load true 1 (.t 3), none⟩,
    ⟨none, .store 1 (.t 2) (.t 25), none⟩])
  (.ret))))
theorem b38 : Body Tryd.prog 38 c38 [.cell 2 true 1] 26 := ⟨by kernel_rfl, _, _, Tryd.func38, rfl, by kernel_rfl, by kernel_rfl, rfl⟩
def c40 : ACode :=
  .seq (.reg [⟨some 2, .mv (.k .nils), none⟩])
  (.seq (.reg [⟨some 3, .mv (.k .nils), none⟩])
  (.seq (.seq (.reg [⟨some 4, .mv (.k (.int .i64 0)), none⟩])
  (.block 0 (.loop (.seq (.seq (.reg [⟨some 7, .mv (.t 0), none⟩,
      ⟨some 8, .mv (.t 4), none⟩,
      ⟨some 9, .bin .shr (.t 7) (.t 8), none⟩,
      ⟨some 10, .bin .neq (.t 9) (.k (.int .u64 0)), none⟩])
    (.cond (.t 10) (.skip)
      (.exit 0)))
    (.block 1 (.seq (.reg [⟨some 11, .mv (.t 4), none⟩,
       ⟨some 12, .mv (.t 0), none⟩,
       ⟨some 13, .mv (.t 4), none⟩,
       ⟨some 14, .bin .shr (.t 12) (.t 13), none⟩,
       ⟨some 15, .call (.k (.fn 52 [] [])) [(.t 14)], none⟩,
       ⟨some 16, .bin .add (.t 11) (.t 15), none⟩,
       ⟨some 5, .mv (.t 16), none⟩])
     (.seq (.reg [⟨some 17, .mv (.t 0), none⟩,
       ⟨some 18, .mv (.t 5), none⟩,
       ⟨some 19, .bin .shr (.t 17) (.t 18), none⟩,
       ⟨some 20, .un .xor (.t 19), none⟩,
       ⟨some 21, .call (.k (.fn 52 [] [])) [(.t 20)], none⟩,
       ⟨some 6, .mv (.t 21), none⟩])
     (.seq (.reg [⟨some 22, .mv (.t 3), none⟩,
       ⟨some 23, .mv (.t 5), none⟩,
       ⟨some 24, .mv (.t 6), none⟩,
       ⟨some 25, .build [(.int .i64 0), (.int .i64 0)] [(0, 1, (.t 23)), (1, 1, (.t 24))], none⟩,
       ⟨some 26, .bslice 2 1 [(.int .i64 0), (.int .i64 0)] [(0, 2, (.t 25))], none⟩,
       ⟨some 27, .append 2 16 (.t 22) (.t 26), none⟩,
       ⟨some 3, .mv (.t 27), none⟩])
     (.seq (.reg [⟨some 28, .mv (.t 5), none⟩,
       ⟨some 29, .mv (.t 6), none⟩,
       ⟨some 30, .bin .add (.t 28) (.t 29), none⟩,
       ⟨some 4, .mv (.t 30), none⟩])
     (.seq (.reg [⟨some 31, .mv (.t 4), none⟩,
       ⟨some 32, .bin .geq (.t 31) (.k (.int .i64 64)), none⟩])
     (.cond (.t 32) (.exit 0)
       (.skip))))))))))))
  (.seq (.reg [⟨some 33, .mv (.t 3), none⟩,
    ⟨some 2, .mv (.t 33), none⟩])
  (.ret))))
theorem b40 : Body Tryd.prog 40 c40 [.tmp 2] 34 := ⟨by kernel_rfl, _, _, Tryd.func40, rfl, by kernel_rfl, by kernel_rfl, rfl⟩
def c42 : ACode :=
  .seq (.reg [⟨some 2, .mv (.k (.int .i64 0)), none⟩])
  (.seq (.block 0 (.seq (.reg [⟨some 5, .mv (.t 0), none⟩,
     ⟨some 6, .len (.t 5), none⟩,
     ⟨some 7, .bin .gtr (.t 6) (.k (.int .i64 512)), none⟩,
     ⟨some 4, .mv (.t 7), none⟩])
   (.cond (.t 4) (.seq (.reg [⟨some 2, .mv (.k (.int .i64 3)), none⟩])
     (.ret))
     (.seq (.reg [⟨some 9, .mv (.t 0), none⟩,
       ⟨some 10, .call (.k (.fn 54 [] [])) [(.t 9), (.k (.fn 55 [] []))], none⟩,
       ⟨some 8, .mv (.t 10), none⟩])
     (.cond (.t 8) (.seq (.reg [⟨some 2, .mv (.k (.int .i64 7)), none⟩])
       (.ret))
       (.skip))))))
  (.seq (.seq (.reg [⟨some 3, .mv (.k (.int .i64 1)), none⟩])
  (.block 1 (.loop (.seq (.seq (.reg [⟨some 11, .mv (.t 3), none⟩,
      ⟨some 12, .mv (.t 0), none⟩,
      ⟨some 13, .len (.t 12), none⟩,
      ⟨some 14, .bin .lss (.t 11) (.t 13), none⟩])
    (.cond (.t 14) (.skip)
      (.exit 1)))
    (.seq (.block 2 (.seq (.regD [⟨some 17, .mv (.t 0), none⟩,
       ⟨some 18, .mv (.t 3), none⟩,
       ⟨some 19, .iaddrS 2 (.t 17) (.t 18), none⟩,
       ⟨some 20, .faddr 0 (.t 19), none⟩,
       ⟨some 21, .load false 1 (.t 20), none⟩,
       ⟨some 22, .mv (.t 0), none⟩,
       ⟨some 23, .mv (.t 3), none⟩,
       ⟨some 24, .bin .sub (.t 23) (.k (.int .i64 1)), none⟩,
       ⟨some 25, .iaddrS 2 (.t 22) (.t 24), none⟩,
       ⟨some 26, .load true 2 (.t 25), none⟩,
       ⟨some 27, .call (.k (.fn 56 [] [])) [(.t 26)], none⟩,
       ⟨some 28, .bin .leq (.t 21) (.t 27), none⟩] [[], [], [0, 1], [2], [3], [], [], [6], [5, 7], [8], [9], [4, 10]])
     (.cond (.t 28) (.seq (.reg [⟨some 2, .mv (.k (.int .i64 6)), none⟩])
       (.ret))
       (.skip))))
    (.reg [⟨some 15, .mv (.t 3), none⟩,
      ⟨some 16, .bin .add (.t 15) (.k (.int .i64 1)), none⟩,
      ⟨some 3, .mv (.t 16), none⟩]))))))
  (.seq (.reg [⟨some 2, .mv (.k (.int .i64 0)), none⟩])
  (.ret))))
theorem b42 : Body Tryd.prog 42 c42 [.tmp 2] 29 := ⟨by kernel_rfl, _, _, Tryd.func42, rfl, by kernel_rfl, by kernel_rfl, rfl⟩
def c44 : ACode :=
  .seq (.reg [⟨some 4, .mv (.k (.bool false)), none⟩])
  (.seq (.reg [⟨some 5, .mv (.t 0), none⟩,
    ⟨some 6, .mv (.t 1), none⟩,
    ⟨some 7, .call (.k (.fn 58 [] [])) [(.t 5), (.t 6)], none⟩,
    ⟨some 8, .bin .geq (.t 7) (.k (.int .i64 0)), none⟩,
    ⟨some 4, .mv (.t 8), none⟩])
  (.ret))
theorem b44 : Body Tryd.prog 44 c44 [.tmp 4] 9 := ⟨by kernel_rfl, _, _, Tryd.func44, rfl, by kernel_rfl, by kernel_rfl, rfl⟩
def c45 : ACode :=
  .seq (.reg [⟨some 1, .box (.t 0), none⟩,
    ⟨some 2, .mv (.k (.bool false)), none⟩])
  (.seq (.reg [⟨some 3, .faddr 0 (.t 1), none⟩,
    ⟨some 4, .load false 1 (.t 3), none⟩,
    ⟨some 5, .bin .lss (.t 4) (.k (.int .i64 0)), none⟩,
    ⟨some 6, .mv (.t 5), none⟩,
    ⟨some 7, .faddr 0 (.t 1), some (6, false)⟩,
    ⟨some 8, .load false 1 (.t 7), some (6, false)⟩,
    ⟨some 9, .bin .geq (.t 8) (.k (.int .i64 64)), some (6, false)⟩,
    ⟨some 10, .pick (.t 6) (.k (.bool true)) (.t 9), none⟩,
    ⟨some 11, .mv (.t 10), none⟩,
    ⟨some 12, .faddr 1 (.t 1), some (11, false)⟩,
    ⟨some 13, .load false 1 (.t 12), some (11, false)⟩,
    ⟨some 14, .bin .lss (.t 13) (.k (.int .i64 1)), some (11, false)⟩,
    ⟨some 15, .pick (.t 11) (.k (.bool true)) (.t 14), none⟩,
    ⟨some 16, .mv (.t 15), none⟩,
    ⟨some 17, .faddr 1 (.t 1), some (16, false)⟩,
    ⟨some 18, .load false 1 (.t 17), some (16, false)⟩,
    ⟨some 19, .faddr 0 (.t 1), some (16, false)⟩,
    ⟨some 20, .load false 1 (.t 19), some (16, false)⟩,
    ⟨some 21, .bin .sub (.k (.int .i64 64)) (.t 20), some (16, false)⟩,
    ⟨some 22, .bin .gtr (.t 18) (.t 21), some (16, false)⟩,
    ⟨some 23, .pick (.t 16) (.k (.bool true)) (.t 22), none⟩,
    ⟨some 2, .mv (.t 23), none⟩])
  (.ret))
theorem b45 : Body Tryd.prog 45 c45 [.tmp 2] 24 := ⟨by kernel_rfl, _, _, Tryd.func45, rfl, by kernel_rfl, by kernel_rfl, rfl⟩
def c46 : ACode :=
  .seq (.reg [⟨some 4, .mv (.k (.int .u64 0)), none⟩])
  (.seq (.seq (.reg [⟨some 5, .mv (.t 1), none⟩,
    ⟨some 6, .bin .leq (.t 5) (.k (.int .i64 0)), none⟩])
  (.cond (.t 6) (.seq (.reg [⟨some 4, .mv (.k (.int .u64 0)), none⟩])
    (.ret))
    (.skip)))
  (.seq (.reg [⟨some 7, .mv (.t 1), none⟩,
    ⟨some 8, .bin .sub (.k (.int .i64 64)) (.t 7), none⟩,
    ⟨some 9, .bin .shr (.k (.int .u64 18446744073709551615)) (.t 8), none⟩,
    ⟨some 10, .mv (.t 0), none⟩,
    ⟨some 11, .bin .shl (.t 9) (.t 10), none⟩,
    ⟨some 4, .mv (.t 11), none⟩])
  (.ret)))
theorem b46 : Body Tryd.prog 46 c46 [.tmp 4] 12 := ⟨by kernel_rfl, _, _, Tryd.func46, rfl, by kernel_rfl, by kernel_rfl, rfl⟩
def c47 : ACode :=
  .seq (.reg [⟨some 4, .mv (.k (.bool false)), none⟩])
  (.seq (.seq (.reg [⟨some 6, .mv (.t 0), none⟩,
    ⟨some 7, .len (.t 6), none⟩,
    ⟨some 8, .mv (.t 1), none⟩,
    ⟨some 9, .len (.t 8), none⟩,
    ⟨some 10, .bin .neq (.t 7) (.t 9), none⟩])
  (.cond (.t 10) (.seq (.reg [⟨some 4, .mv (.k (.bool false)), none⟩])
    (.ret))
    (.skip)))
  (.seq (.seq (.reg [⟨some 11, .mv (.t 0), none⟩,
    ⟨some 12, .len (.t 11), none⟩,
    ⟨some 13, .mv (.k (.int .i64 0)), none⟩])
  (.block 0 (.loop (.seq (.reg [⟨some 14, .bin .lss (.t 13) (.t 12), none⟩])
    (.seq (.cond (.t 14) (.skip)
      (.exit 0))
    (.seq (.block 1 (.seq (.reg [⟨some 15, .mv (.t 13), none⟩,
       ⟨some 5, .mv (.t 15), none⟩])
     (.seq (.regD [⟨some 16, .mv (.t 0), none⟩,
       ⟨some 17, .mv (.t 5), none⟩,
       ⟨some 18, .iaddrS 2 (.t 16) (.t 17), none⟩,
       ⟨some 19, .load true 2 (.t 18), none⟩,
       ⟨some 20, .mv (.t 1), none⟩,
       ⟨some 21, .mv (.t 5), none⟩,
       ⟨some 22, .iaddrS 2 (.t 20) (.t 21), none⟩,
       ⟨some 23, .load true 2 (.t 22), none⟩,
       ⟨some 24, .eqs true [false, false] (.t 19) (.t 23), none⟩] [[], [], [0, 1], [2], [], [], [4, 5], [6], [3, 7]])
     (.cond (.t 24) (.seq (.reg [⟨some 4, .mv (.k (.bool false)), none⟩])
       (.ret))
       (.skip)))))
    (.reg [⟨some 25, .bin .add (.t 13) (.k (.int .i64 1)), none⟩,
      ⟨some 13, .mv (.t 25), none⟩])))))))
  (.seq (.reg [⟨some 4, .mv (.k (.bool true)), none⟩])
  (.ret))))
theorem b47 : Body Tryd.prog 47 c47 [.tmp 4] 26 := ⟨by kernel_rfl, _, _, Tryd.func47, rfl, by kernel_rfl, by kernel_rfl, rfl⟩
def c48 : ACode :=
  .seq (.reg [⟨some 1, .box (.t 0), none⟩,
    ⟨some 2, .mv (.k (.bool false)), none⟩])
  (.seq (.reg [⟨some 3, .faddr 0 (.t 1), none⟩,
    ⟨some 4, .load false 1 (.t 3), none⟩,
    ⟨some 5, .bin .geq (.t 4) (.k (.int .i64 0)), none⟩,
    ⟨some 6, .mv (.t 5), none⟩,
    ⟨some 7, .faddr 0 (.t 1), some (6, true)⟩,
    ⟨some 8, .load false 1 (.t 7), some (6, true)⟩,
    ⟨some 9, .bin .lss (.t 8) (.k (.int .i64 64)), some (6, true)⟩,
    ⟨some 10, .pick (.t 6) (.t 9) (.k (.bool false)), none⟩,
    ⟨some 11, .mv (.t 10), none⟩,
    ⟨some 12, .faddr 1 (.t 1), some (11, true)⟩,
    ⟨some 13, .load false 1 (.t 12), some (11, true)⟩,
    ⟨some 14, .bin .geq (.t 13) (.k (.int .i64 1)), some (11, true)⟩,
    ⟨some 15, .pick (.t 11) (.t 14) (.k (.bool false)), none⟩,
    ⟨some 16, .mv (.t 15), none⟩,
    ⟨some 17, .faddr 1 (.t 1), some (16, true)⟩,
    ⟨some 18, .load false 1 (.t 17), some (16, true)⟩,
    ⟨some 19, .faddr 0 (.t 1), some (16, true)⟩,
    ⟨some 20, .load false 1 (.t 19), some (16, true)⟩,
    ⟨some 21, .bin .sub (.k (.int .i64 64)) (.t 20), some (16, true)⟩,
    ⟨some 22, .bin .leq (.t 18) (.t 21), some (16, true)⟩,
    ⟨some 23, .pick (.t 16) (.t 22) (.k (.bool false)), none⟩,
    ⟨some 2, .mv (.t 23), none⟩])
  (.ret))
theorem b48 : Body Tryd.prog 48 c48 [.tmp 2] 24 := ⟨by kernel_rfl, _, _, Tryd.func48, rfl, by kernel_rfl, by kernel_rfl, rfl⟩
def c49 : ACode :=
  .block 0 (.loop (.seq (.seq (.reg [⟨some 6, .load false 1 (.t 1), none⟩,
      ⟨some 7, .bin .gtr (.t 6) (.k (.int .i64 0)), none⟩])
    (.cond (.t 7) (.skip)
      (.exit 0)))
    (.block 1 (.seq (.reg [⟨some 8, .load false 1 (.t 2), none⟩,
       ⟨some 9, .bin .rem (.t 8) (.k (.int .i64 64)), none⟩,
       ⟨some 4, .mv (.t 9), none⟩])
     (.seq (.reg [⟨some 10, .load false 1 (.t 1), none⟩,
       ⟨some 11, .mv (.t 4), none⟩,
       ⟨some 12, .bin .sub (.k (.int .i64 64)) (.t 11), none⟩,
       ⟨some 13, .minmax false (.t 10) [(.t 12)], none⟩,
       ⟨some 5, .mv (.t 13), none⟩])
     (.seq (.seq (.regD [⟨some 14, .mv (.t 0), none⟩,
       ⟨some 15, .load false 1 (.t 2), none⟩,
       ⟨some 16, .bin .quo (.t 15) (.k (.int .i64 64)), none⟩,
       ⟨some 17, .mv (.t 4), none⟩,
       ⟨some 18, .mv (.t 5), none⟩,
       ⟨some 19, .call (.k (.fn 46 [] [])) [(.t 17), (.t 18)], none⟩,
       ⟨some 20, .call (.t 14) [(.t 16), (.t 19)], none⟩,
       ⟨some 21, .un .not (.t 20), none⟩] [[], [], [1], [], [], [3, 4], [0, 2, 5, 5], [6]])
     (.cond (.t 21) (.ret)
       (.skip)))
     (.regD [⟨some 22, .load false 1 (.t 2), none⟩,
       ⟨some 23, .mv (.t 5), none⟩,
       ⟨some 24, .bin .add (.t 22) (.t 23), none⟩,
       ⟨some 25, .load false 1 (.t 1), none⟩,
       ⟨some 26, .mv (.t 5), none⟩,
       ⟨some 27, .bin .sub (.t 25) (.t 26), none⟩,
       ⟨none, .store 1 (.t 2) (.t 24), none⟩,
       ⟨none, .store 1 (.t 1) (.t 27), none⟩] [[], [], [0, 1], [], [], [3, 4], [2, 0, 1, 2], [5, 6, 0, 1, 2, 3, 4, 5, 6]])))))))
theorem b49 : Body Tryd.prog 49 c49 [] 28 := ⟨by kernel_rfl, _, _, Tryd.func49, rfl, by kernel_rfl, by kernel_rfl, rfl⟩
def c50 : ACode :=
  .seq (.reg [⟨some 2, .mv (.k .nils), none⟩])
  (.seq (.reg [⟨some 8, .mv (.t 0), none⟩,
    ⟨some 9, .call (.k (.fn 40 [] [])) [(.t 8)], none⟩,
    ⟨some 3, .mv (.t 9), none⟩])
  (.seq (.block 0 (.loop (.seq (.seq (.reg [⟨some 10, .mv (.t 3), none⟩,
      ⟨some 11, .len (.t 10), none⟩,
      ⟨some 12, .bin .gtr (.t 11) (.k (.int .i64 4)), none⟩])
    (.cond (.t 12) (.skip)
      (.exit 0)))
    (.block 1 (.seq (.reg [⟨some 4, .mv (.k (.int .i64 0)), none⟩,
       ⟨some 5, .mv (.k (.int .i64 64)), none⟩])
     (.seq (.seq (.reg [⟨some 13, .mv (.t 3), none⟩,
       ⟨some 14, .len (.t 13), none⟩,
       ⟨some 15, .bin .sub (.t 14) (.k (.int .i64 1)), none⟩,
       ⟨some 16, .mv (.k (.int .i64 0)), none⟩])
     (.block 2 (.loop (.seq (.reg [⟨some 17, .bin .lss (.t 16) (.t 15), none⟩])
       (.seq (.cond (.t 17) (.skip)
         (.exit 2))
       (.seq (.block 3 (.seq (.reg [⟨some 18, .mv (.t 16), none⟩,
          ⟨some 6, .mv (.t 18), none⟩])
        (.seq (.regD [⟨some 19, .mv (.t 3), none⟩,
          ⟨some 20, .mv (.t 6), none⟩,
          ⟨some 21, .bin .add (.t 20) (.k (.int .i64 1)), none⟩,
          ⟨some 22, .iaddrS 2 (.t 19) (.t 21), none⟩,
          ⟨some 23, .faddr 0 (.t 22), none⟩,
          ⟨some 24, .load false 1 (.t 23), none⟩,
          ⟨some 25, .mv (.t 3), none⟩,
          ⟨some 26, .mv (.t 6), none⟩,
          ⟨some 27, .iaddrS 2 (.t 25) (.t 26), none⟩,
          ⟨some 28, .faddr 0 (.t 27), none⟩,
          ⟨some 29, .load false 1 (.t 28), none⟩,
          ⟨some 30, .bin .sub (.t 24) (.t 29), none⟩,
          ⟨some 31, .mv (.t 3), none⟩,
          ⟨some 32, .mv (.t 6), none⟩,
          ⟨some 33, .iaddrS 2 (.t 31) (.t 32), none⟩,
          ⟨some 34, .faddr 1 (.t 33), none⟩,
          ⟨some 35, .load false 1 (.t 34), none⟩,
          ⟨some 36, .bin .sub (.t 30) (.t 35), none⟩,
          ⟨some 7, .mv (.t 36), none⟩] [[], [], [1], [0, 2], [3], [4], [], [], [6, 7], [8], [9], [5, 10], [], [], [12, 13], [14], [15], [11, 16], [17, 0, 1, 2, 3, 4, 5, 6, 7, 8, 9, 10, 11, 12, 13, 14, 15, 16, 17]])
        (.seq (.reg [⟨some 37, .mv (.t 7), none⟩,
          ⟨some 38, .mv (.t 5), none⟩,
          ⟨some 39, .bin .lss (.t 37) (.t 38), none⟩])
        (.cond (.t 39) (.reg [⟨some 40, .mv (.t 6), none⟩,
            ⟨some 41, .mv (.t 7), none⟩,
            ⟨some 4, .mv (.t 40), none⟩,
            ⟨some 5, .mv (.t 41), none⟩])
          (.skip))))))
       (.reg [⟨some 42, .bin .add (.t 16) (.k (.int .i64 1)), none⟩,
         ⟨some 16, .mv (.t 42), none⟩])))))))
     (.seq (.regD [⟨some 43, .mv (.t 3), none⟩,
       ⟨some 44, .mv (.t 4), none⟩,
       ⟨some 45, .iaddrS 2 (.t 43) (.t 44), none⟩,
       ⟨some 46, .faddr 1 (.t 45), none⟩,
       ⟨some 47, .load false 1 (.t 46), none⟩,
       ⟨some 48, .mv (.t 5), none⟩,
       ⟨some 49, .mv (.t 3), none⟩,
       ⟨some 50, .mv (.t 4), none⟩,
       ⟨some 51, .bin .add (.t 50) (.k (.int .i64 1)), none⟩,
       ⟨some 52, .iaddrS 2 (.t 49) (.t 51), none⟩,
       ⟨some 53, .faddr 1 (.t 52), none⟩,
       ⟨some 54, .load false 1 (.t 53), none⟩,
       ⟨some 55, .bin .add (.t 48) (.t 54), none⟩,
       ⟨some 56, .bin .add (.t 47) (.t 55), none⟩,
       ⟨some 57, .iaddrS 2 (.t 43) (.t 44), none⟩,
       ⟨some 58, .faddr 1 (.t 57), none⟩,
       ⟨none, .store 1 (.t 58) (.t 56), none⟩] [[], [], [0, 1], [2], [3], [], [], [], [7], [6, 8], [9], [10], [5, 11], [4, 12], [0, 1, 0, 1, 2, 3, 4, 5, 6, 7, 8, 9, 10, 11, 12, 13], [14, 0, 1, 2, 3, 4, 5, 6, 7, 8, 9, 10, 11, 12, 13], [15, 13, 0, 1, 2, 3, 4, 5, 6, 7, 8, 9, 10, 11, 12, 13]])
     (.reg [⟨some 59, .mv (.t 3), none⟩,
       ⟨some 60, .mv (.t 4), none⟩,
       ⟨some 61, .bin .add (.t 60) (.k (.int .i64 1)), none⟩,
       ⟨some 62, .mv (.t 4), none⟩,
       ⟨some 63, .bin .add (.t 62) (.k (.int .i64 2)), none⟩,
       ⟨some 64, .call (.k (.fn 59 [] [])) [(.t 59), (.t 61), (.t 63)], none⟩,
       ⟨some 3, .mv (.t 64), none⟩]))))))))
  (.seq (.reg [⟨some 65, .mv (.t 3), none⟩,
    ⟨some 2, .mv (.t 65), none⟩])
  (.ret))))
theorem b50 : Body Tryd.prog 50 c50 [.tmp 2] 66 := ⟨by kernel_rfl, _, _, Tryd.func50, rfl, by kernel_rfl, by kernel_rfl, rfl⟩
def c52 : ACode :=
  .seq (.reg [⟨some 2, .mv (.k (.int .i64 0)), none⟩])
  (.seq (.seq (.reg [⟨some 3, .mv (.t 0), none⟩,
    ⟨some 4, .bin .eql (.t 3) (.k (.int .u64 0)), none⟩])
  (.cond (.t 4) (.seq (.reg [⟨some 2, .mv (.k (.int .i64 64)), none⟩])
    (.ret))
    (.skip)))
  (.seq (.reg [⟨some 5, .mv (.t 0), none⟩,
    ⟨some 6, .mv (.t 0), none⟩,
    ⟨some 7, .un .neg (.t 6), none⟩,
    ⟨some 8, .bin .and (.t 5) (.t 7), none⟩,
    ⟨some 9, .bin .mul (.t 8) (.k (.int .u64 285870213051353865)), none⟩,
    ⟨some 10, .bin .shr (.t 9) (.k (.int .u64 58)), none⟩,
    ⟨some 11, .iaddrA 64 1 (.g 0) (.t 10), none⟩,
    ⟨some 12, .load false 1 (.t 11), none⟩,
    ⟨some 13, .conv .i64 (.t 12), none⟩,
    ⟨some 2, .mv (.t 13), none⟩])
  (.ret)))
theorem b52 : Body Tryd.prog 52 c52 [.tmp 2] 14 := ⟨by kernel_rfl, _, _, Tryd.func52, rfl, by kernel_rfl, by kernel_rfl, rfl⟩
def c53 : ACode :=
  .seq (.reg [⟨some 4, .mv (.k (.bool false)), none⟩])
  (.seq (.reg [⟨some 5, .mv (.t 0), none⟩,
    ⟨some 6, .bin .geq (.t 5) (.k (.int .i64 0)), none⟩,
    ⟨some 7, .mv (.t 6), none⟩,
    ⟨some 8, .mv (.t 0), some (7, true)⟩,
    ⟨some 9, .bin .leq (.t 8) (.k (.int .i64 65536)), some (7, true)⟩,
    ⟨some 10, .pick (.t 7) (.t 9) (.k (.bool false)), none⟩,
    ⟨some 11, .mv (.t 10), none⟩,
    ⟨some 12, .mv (.t 1), some (11, true)⟩,
    ⟨some 13, .bin .geq (.t 12) (.k (.int .i64 0)), some (11, true)⟩,
    ⟨some 14, .pick (.t 11) (.t 13) (.k (.bool false)), none⟩,
    ⟨some 15, .mv (.t 14), none⟩,
    ⟨some 16, .mv (.t 1), some (15, true)⟩,
    ⟨some 17, .mv (.t 0), some (15, true)⟩,
    ⟨some 18, .bin .sub (.k (.int .i64 65536)) (.t 17), some (15, true)⟩,
    ⟨some 19, .bin .leq (.t 16) (.t 18), some (15, true)⟩,
    ⟨some 20, .pick (.t 15) (.t 19) (.k (.bool false)), none⟩,
    ⟨some 4, .mv (.t 20), none⟩])
  (.ret))
theorem b53 : Body Tryd.prog 53 c53 [.tmp 4] 21 := ⟨by kernel_rfl, _, _, Tryd.func53, rfl, by kernel_rfl, by kernel_rfl, rfl⟩
def c54 : ACode :=
  .seq (.reg [⟨some 4, .mv (.k (.bool false)), none⟩])
  (.seq (.reg [⟨some 5, .mv (.t 0), none⟩,
    ⟨some 6, .mv (.t 1), none⟩,
    ⟨some 7, .call (.k (.fn 60 [] [])) [(.t 5), (.t 6)], none⟩,
    ⟨some 8, .bin .geq (.t 7) (.k (.int .i64 0)), none⟩,
    ⟨some 4, .mv (.t 8), none⟩])
  (.ret))
theorem b54 : Body Tryd.prog 54 c54 [.tmp 4] 9 := ⟨by kernel_rfl, _, _, Tryd.func54, rfl, by kernel_rfl, by kernel_rfl, rfl⟩
def c55 : ACode :=
  .seq (.reg [⟨some 1, .box (.t 0), none⟩,
    ⟨some 2, .mv (.k (.bool false)), none⟩])
  (.seq (.reg [⟨some 3, .faddr 0 (.t 1), none⟩,
    ⟨some 4, .load false 1 (.t 3), none⟩,
    ⟨some 5, .bin .lss (.t 4) (.k (.int .i64 0)), none⟩,
    ⟨some 6, .mv (.t 5), none⟩,
    ⟨some 7, .faddr 0 (.t 1), some (6, false)⟩,
    ⟨some 8, .load false 1 (.t 7), some (6, false)⟩,
    ⟨some 9, .bin .geq (.t 8) (.k (.int .i64 1024)), some (6, false)⟩,
    ⟨some 10, .pick (.t 6) (.k (.bool true)) (.t 9), none⟩,
    ⟨some 11, .mv (.t 10), none⟩,
    ⟨some 12, .faddr 1 (.t 1), some (11, false)⟩,
    ⟨some 13, .load false 1 (.t 12), some (11, false)⟩,
    ⟨some 14, .bin .lss (.t 13) (.k (.int .i64 1)), some (11, false)⟩,
    ⟨some 15, .pick (.t 11) (.k (.bool true)) (.t 14), none⟩,
    ⟨some 16, .mv (.t 15), none⟩,
    ⟨some 17, .faddr 1 (.t 1), some (16, false)⟩,
    ⟨some 18, .load false 1 (.t 17), some (16, false)⟩,
    ⟨some 19, .faddr 0 (.t 1), some (16, false)⟩,
    ⟨some 20, .load false 1 (.t 19), some (16, false)⟩,
    ⟨some 21, .bin .sub (.k (.int .i64 1024)) (.t 20), some (16, false)⟩,
    ⟨some 22, .bin .gtr (.t 18) (.t 21), some (16, false)⟩,
    ⟨some 23, .pick (.t 16) (.k (.bool true)) (.t 22), none⟩,
    ⟨some 2, .mv (.t 23), none⟩])
  (.ret))
theorem b55 : Body Tryd.prog 55 c55 [.tmp 2] 24 := ⟨by kernel_rfl, _, _, Tryd.func55, rfl, by kernel_rfl, by kernel_rfl, rfl⟩
def c56 : ACode :=
  .seq (.reg [⟨some 1, .box (.t 0), none⟩,
    ⟨some 2, .mv (.k (.int .i64 0)), none⟩])
  (.seq (.reg [⟨some 3, .faddr 0 (.t 1), none⟩,
    ⟨some 4, .load false 1 (.t 3), none⟩,
    ⟨some 5, .faddr 1 (.t 1), none⟩,
    ⟨some 6, .load false 1 (.t 5), none⟩,
    ⟨some 7, .bin .add (.t 4) (.t 6), none⟩,
    ⟨some 2, .mv (.t 7), none⟩])
  (.ret))
theorem b56 : Body Tryd.prog 56 c56 [.tmp 2] 8 := ⟨by kernel_rfl, _, _, Tryd.func56, rfl, by kernel_rfl, by kernel_rfl, rfl⟩
def c58 : ACode :=
  .seq (.reg [⟨some 4, .mv (.k (.int .i64 0)), none⟩])
  (.seq (.seq (.reg [⟨some 6, .mv (.t 0), none⟩,
    ⟨some 7, .len (.t 6), none⟩,
    ⟨some 8, .mv (.k (.int .i64 0)), none⟩])
  (.block 0 (.loop (.seq (.reg [⟨some 9, .bin .lss (.t 8) (.t 7), none⟩])
    (.seq (.cond (.t 9) (.skip)
      (.exit 0))
    (.seq (.block 1 (.seq (.reg [⟨some 10, .mv (.t 8), none⟩,
       ⟨some 5, .mv (.t 10), none⟩])
     (.seq (.reg [⟨some 11, .mv (.t 1), none⟩,
       ⟨some 12, .mv (.t 0), none⟩,
       ⟨some 13, .mv (.t 5), none⟩,
       ⟨some 14, .iaddrS 2 (.t 12) (.t 13), none⟩,
       ⟨some 15, .load true 2 (.t 14), none⟩,
       ⟨some 16, .call (.t 11) [(.t 15)], none⟩])
     (.cond (.t 16) (.seq (.reg [⟨some 17, .mv (.t 5), none⟩,
         ⟨some 4, .mv (.t 17), none⟩])
       (.ret))
       (.skip)))))
    (.reg [⟨some 18, .bin .add (.t 8) (.k (.int .i64 1)), none⟩,
      ⟨some 8, .mv (.t 18), none⟩])))))))
  (.seq (.reg [⟨some 4, .mv (.k (.int .i64 (-1))), none⟩])
  (.ret)))
theorem b58 : Body Tryd.prog 58 c58 [.tmp 4] 19 := ⟨by kernel_rfl, _, _, Tryd.func58, rfl, by kernel_rfl, by kernel_rfl, rfl⟩
def c59 : ACode :=
  .seq (.reg [⟨some 6, .mv (.k .nils), none⟩])
  (.seq (.reg [⟨some 8, .mv (.t 0), none⟩,
    ⟨some 9, .mv (.t 1), none⟩,
    ⟨some 10, .mv (.t 2), none⟩,
    ⟨some 11, .mv (.t 0), none⟩,
    ⟨some 12, .len (.t 11), none⟩,
    ⟨some 13, .slS 2 (.t 8) (some (.t 9)) (some (.t 10)) (some (.t 12)), none⟩])
  (.seq (.seq (.reg [⟨some 14, .mv (.t 1), none⟩,
    ⟨some 15, .mv (.t 2), none⟩,
    ⟨some 16, .bin .eql (.t 14) (.t 15), none⟩])
  (.cond (.t 16) (.seq (.reg [⟨some 17, .mv (.t 0), none⟩,
      ⟨some 6, .mv (.t 17), none⟩])
    (.ret))
    (.skip)))
  (.seq (.reg [⟨some 18, .mv (.t 0), none⟩,
    ⟨some 19, .len (.t 18), none⟩,
    ⟨some 7, .mv (.t 19), none⟩])
  (.seq (.regD [⟨some 20, .mv (.t 0), none⟩,
    ⟨some 21, .mv (.t 1), none⟩,
    ⟨some 22, .slS 2 (.t 20) none (some (.t 21)) none, none⟩,
    ⟨some 23, .mv (.t 0), none⟩,
    ⟨some 24, .mv (.t 2), none⟩,
    ⟨some 25, .slS 2 (.t 23) (some (.t 24)) none none, none⟩,
    ⟨some 26, .append 2 16 (.t 22) (.t 25), none⟩,
    ⟨some 0, .mv (.t 26), none⟩] [[], [], [0, 1], [], [], [3, 4], [2, 5], [6, 6, 0, 1, 2, 3, 4, 5, 6]])
  (.seq (.reg [⟨some 27, .mv (.t 0), none⟩,
    ⟨some 28, .mv (.t 0), none⟩,
    ⟨some 29, .len (.t 28), none⟩,
    ⟨some 30, .mv (.t 7), none⟩,
    ⟨some 31, .slS 2 (.t 27) (some (.t 29)) (some (.t 30)) none, none⟩,
    ⟨none, .clear [(.int .i64 0), (.int .i64 0)] (.t 31), none⟩])
  (.seq (.reg [⟨some 32, .mv (.t 0), none⟩,
    ⟨some 6, .mv (.t 32), none⟩])
  (.ret)))))))
theorem b59 : Body Tryd.prog 59 c59 [.tmp 6] 33 := ⟨by kernel_rfl, _, _, Tryd.func59, rfl, by kernel_rfl, by kernel_rfl, rfl⟩
def c60 : ACode :=
  .seq (.reg [⟨some 4, .mv (.k (.int .i64 0)), none⟩])
  (.seq (.seq (.reg [⟨some 6, .mv (.t 0), none⟩,
    ⟨some 7, .len (.t 6), none⟩,
    ⟨some 8, .mv (.k (.int .i64 0)), none⟩])
  (.block 0 (.loop (.seq (.reg [⟨some 9, .bin .lss (.t 8) (.t 7), none⟩])
    (.seq (.cond (.t 9) (.skip)
      (.exit 0))
    (.seq (.block 1 (.seq (.reg [⟨some 10, .mv (.t 8), none⟩,
       ⟨some 5, .mv (.t 10), none⟩])
     (.seq (.reg [⟨some 11, .mv (.t 1), none⟩,
       ⟨some 12, .mv (.t 0), none⟩,
       ⟨some 13, .mv (.t 5), none⟩,
       ⟨some 14, .iaddrS 2 (.t 12) (.t 13), none⟩,
       ⟨some 15, .load true 2 (.t 14), none⟩,
       ⟨some 16, .call (.t 11) [(.t 15)], none⟩])
     (.cond (.t 16) (.seq (.reg [⟨some 17, .mv (.t 5), none⟩,
         ⟨some 4, .mv (.t 17), none⟩])
       (.ret))
       (.skip)))))
    (.reg [⟨some 18, .bin .add (.t 8) (.k (.int .i64 1)), none⟩,
      ⟨some 8, .mv (.t 18), none⟩])))))))
  (.seq (.reg [⟨some 4, .mv (.k (.int .i64 (-1))), none⟩])
  (.ret)))
theorem b60 : Body Tryd.prog 60 c60 [.tmp 4] 19 := ⟨by kernel_rfl, _, _, Tryd.func60, rfl, by kernel_rfl, by kernel_rfl, rfl⟩
def c61 : ACode :=
  .seq (.reg [⟨some 4, .mv (.k (.int .i64 0)), none⟩])
  (.seq (.regD [⟨some 5, .mv (.t 0), none⟩,
    ⟨some 6, .mv (.t 1), none⟩,
    ⟨some 7, .bin .add (.t 6) (.k (.int .i64 1)), none⟩,
    ⟨some 8, .iaddrS 2 (.t 5) (.t 7), none⟩,
    ⟨some 9, .faddr 0 (.t 8), none⟩,
    ⟨some 10, .load false 1 (.t 9), none⟩,
    ⟨some 11, .mv (.t 0), none⟩,
    ⟨some 12, .mv (.t 1), none⟩,
    ⟨some 13, .iaddrS 2 (.t 11) (.t 12), none⟩,
    ⟨some 14, .faddr 0 (.t 13), none⟩,
    ⟨some 15, .load false 1 (.t 14), none⟩,
    ⟨some 16, .bin .sub (.t 10) (.t 15), none⟩,
    ⟨some 17, .mv (.t 0), none⟩,
    ⟨some 18, .mv (.t 1), none⟩,
    ⟨some 19, .iaddrS 2 (.t 17) (.t 18), none⟩,
    ⟨some 20, .faddr 1 (.t 19), none⟩,
    ⟨some 21, .load false 1 (.t 20), none⟩,
    ⟨some 22, .bin .sub (.t 16) (.t 21), none⟩,
    ⟨some 4, .mv (.t 22), none⟩] [[], [], [1], [0, 2], [3], [4], [], [], [6, 7], [8], [9], [5, 10], [], [], [12, 13], [14], [15], [11, 16], [17, 0, 1, 2, 3, 4, 5, 6, 7, 8, 9, 10, 11, 12, 13, 14, 15, 16, 17]])
  (.ret))
theorem b61 : Body Tryd.prog 61 c61 [.tmp 4] 23 := ⟨by kernel_rfl, _, _, Tryd.func61, rfl, by kernel_rfl, by kernel_rfl, rfl⟩
end Go.Proofs.YtjhmknnokloneaaDoor
