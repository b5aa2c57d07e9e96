/-
  Abstract code of functions, printed by a program, and that it is theirs.
-/
import Derived.Test.YtjhmknnokloneaaDoorProg
import Derived.Test.YtjhmknnokloneaaDoorAmRow
set_option linter.unusedSimpArgs false
set_option linter.unusedVariables false
namespace Go.Proofs.YtjhmknnokloneaaDoor
open Go.Am
def c4 : ACode :=
  .seq (.reg [⟨some 4, .mv (.k (.bool false)), none⟩])
  (.seq (.seq (.reg [⟨some 20, .mv (.t 1), none⟩,
    ⟨some 21, .len (.t 20), none⟩,
    ⟨some 22, .bin .gtr (.t 21) (.k (.int .i64 12)), none⟩])
  (.cond (.t 22) (.seq (.reg [⟨some 23, .call (.k (.fn 10 [] [])) [], none⟩,
      ⟨some 4, .mv (.t 23), none⟩])
    (.ret))
    (.skip)))
  (.seq (.reg [⟨some 24, .mv (.t 0), none⟩,
    ⟨some 25, .bin .rem (.t 24) (.k (.int .u16 1024)), none⟩,
    ⟨some 26, .conv .i64 (.t 25), none⟩,
    ⟨some 5, .mv (.t 26), none⟩])
  (.seq (.reg [⟨some 6, .new (List.replicate 64 (.bool false)), none⟩])
  (.seq (.reg [⟨some 7, .new [.nils], none⟩])
  (.seq (.reg [⟨some 8, .mv (.k (.bool false)), none⟩])
  (.seq (.seq (.reg [⟨some 9, .mv (.k (.int .i64 0)), none⟩])
  (.block 0 (.loop (.seq (.seq (.reg [⟨some 27, .mv (.t 9), none⟩,
      ⟨some 28, .mv (.t 1), none⟩,
      ⟨some 29, .len (.t 28), none⟩,
      ⟨some 30, .bin .lss (.t 27) (.t 29), none⟩])
    (.cond (.t 30) (.skip)
      (.exit 0)))
    (.seq (.block 1 (.seq (.reg [⟨some 33, .mv (.t 1), none⟩,
       ⟨some 34, .mv (.t 9), none⟩,
       ⟨some 35, .iaddrS 2 (.t 33) (.t 34), none⟩,
       ⟨some 36, .faddr 0 (.t 35), none⟩,
       ⟨some 37, .load false 1 (.t 36), none⟩,
       ⟨some 38, .conv .u64 (.t 37), none⟩,
       ⟨some 39, .bin .rem (.t 38) (.k (.int .u64 64)), none⟩,
       ⟨some 40, .conv .i64 (.t 39), none⟩,
       ⟨some 10, .mv (.t 40), none⟩])
     (.seq (.reg [⟨some 41, .mv (.t 1), none⟩,
       ⟨some 42, .mv (.t 9), none⟩,
       ⟨some 43, .iaddrS 2 (.t 41) (.t 42), none⟩,
       ⟨some 44, .faddr 1 (.t 43), none⟩,
       ⟨some 45, .load false 1 (.t 44), none⟩,
       ⟨some 46, .conv .u64 (.t 45), none⟩,
       ⟨some 47, .bin .rem (.t 46) (.k (.int .u64 64)), none⟩,
       ⟨some 48, .conv .i64 (.t 47), none⟩,
       ⟨some 49, .bin .add (.k (.int .i64 1)) (.t 48), none⟩,
       ⟨some 50, .mv (.t 10), none⟩,
       ⟨some 51, .bin .sub (.k (.int .i64 64)) (.t 50), none⟩,
       ⟨some 52, .minmax false (.t 49) [(.t 51)], none⟩,
       ⟨some 11, .mv (.t 52), none⟩])
     (.seq (.seq (.reg [⟨some 53, .mv (.t 10), none⟩,
       ⟨some 12, .mv (.t 53), none⟩])
     (.block 2 (.loop (.seq (.seq (.reg [⟨some 54, .mv (.t 12), none⟩,
         ⟨some 55, .mv (.t 10), none⟩,
         ⟨some 56, .mv (.t 11), none⟩,
         ⟨some 57, .bin .add (.t 55) (.t 56), none⟩,
         ⟨some 58, .bin .lss (.t 54) (.t 57), none⟩])
       (.cond (.t 58) (.skip)
         (.exit 2)))
       (.seq (.block 3 (.reg [⟨some 61, .mv (.t 12), none⟩,
          ⟨some 62, .iaddrA 64 1 (.t 6) (.t 61), none⟩,
          ⟨none, .store 1 (.t 62) (.k (.bool true)), none⟩]))
       (.reg [⟨some 59, .mv (.t 12), none⟩,
         ⟨some 60, .bin .add (.t 59) (.k (.int .i64 1)), none⟩,
         ⟨some 12, .mv (.t 60), none⟩]))))))
     (.seq (.reg [⟨some 64, .load true 1 (.t 7), none⟩,
       ⟨some 65, .mv (.t 5), none⟩,
       ⟨some 66, .bin .mul (.t 65) (.k (.int .i64 64)), none⟩,
       ⟨some 67, .mv (.t 10), none⟩,
       ⟨some 68, .bin .add (.t 66) (.t 67), none⟩,
       ⟨some 69, .mv (.t 11), none⟩,
       ⟨some 70, .call (.k (.fn 11 [] [])) [(.t 64), (.t 68), (.t 69)], none⟩,
       ⟨some 63, .mv (.t 70), none⟩,
       ⟨some 71, .ext (.t 63) 0, none⟩,
       ⟨some 72, .ext (.t 63) 1, none⟩,
       ⟨some 13, .new [.nils], none⟩,
       ⟨none, .store 1 (.t 13) (.t 71), none⟩,
       ⟨some 14, .mv (.t 72), none⟩])
     (.seq (.reg [⟨some 74, .load true 1 (.t 13), none⟩,
       ⟨some 75, .mv (.t 5), none⟩,
       ⟨some 76, .bin .mul (.t 75) (.k (.int .i64 64)), none⟩,
       ⟨some 77, .call (.k (.fn 16 [] [])) [(.t 74), (.t 76), (.k (.int .i64 64))], none⟩,
       ⟨some 73, .mv (.t 77), none⟩,
       ⟨some 78, .ext (.t 73) 0, none⟩,
       ⟨some 79, .ext (.t 73) 1, none⟩,
       ⟨some 15, .mv (.t 78), none⟩,
       ⟨some 16, .mv (.t 79), none⟩])
     (.seq (.seq (.reg [⟨some 80, .mv (.t 14), none⟩,
       ⟨some 81, .bin .neq (.t 80) (.k (.int .i64 0)), none⟩,
       ⟨some 82, .mv (.t 81), none⟩,
       ⟨some 83, .mv (.t 16), some (82, false)⟩,
       ⟨some 84, .bin .neq (.t 83) (.k (.int .i64 0)), some (82, false)⟩,
       ⟨some 85, .pick (.t 82) (.k (.bool true)) (.t 84), none⟩])
     (.cond (.t 85) (.seq (.reg [⟨some 4, .mv (.k (.bool false)), none⟩])
       (.ret))
       (.skip)))
     (.seq (.reg [⟨some 87, .load true 64 (.t 6), none⟩,
       ⟨some 88, .call (.k (.fn 17 [] [])) [(.t 87)], none⟩,
       ⟨some 86, .mv (.t 88), none⟩,
       ⟨some 89, .ext (.t 86) 0, none⟩,
       ⟨some 90, .ext (.t 86) 1, none⟩,
       ⟨some 91, .ext (.t 86) 2, none⟩,
       ⟨some 17, .mv (.t 89), none⟩,
       ⟨some 18, .mv (.t 90), none⟩,
       ⟨some 19, .mv (.t 91), none⟩])
     (.seq (.seq (.reg [⟨some 92, .mv (.t 17), none⟩,
       ⟨some 93, .bin .gtr (.t 92) (.k (.int .i64 4)), none⟩])
     (.cond (.t 93) (.reg [⟨some 8, .mv (.k (.bool true)), none⟩])
       (.skip)))
     (.seq (.seq (.reg [⟨some 94, .mv (.t 8), none⟩,
       ⟨some 95, .un .not (.t 94), none⟩,
       ⟨some 96, .mv (.t 95), none⟩,
       ⟨some 97, .mv (.t 15), some (96, true)⟩,
       ⟨some 98, .mv (.t 18), some (96, true)⟩,
       ⟨some 99, .bin .neq (.t 97) (.t 98), some (96, true)⟩,
       ⟨some 100, .pick (.t 96) (.t 99) (.k (.bool false)), none⟩,
       ⟨some 101, .mv (.t 100), none⟩,
       ⟨some 102, .mv (.t 17), some (101, false)⟩,
       ⟨some 103, .bin .eql (.t 102) (.k (.int .i64 5)), some (101, false)⟩,
       ⟨some 104, .mv (.t 103), some (101, false)⟩,
       ⟨some 105, .mv (.t 8), some (104, true)⟩,
       ⟨some 106, .pick (.t 104) (.t 105) (.k (.bool false)), some (101, false)⟩,
       ⟨some 107, .mv (.t 106), some (101, false)⟩,
       ⟨some 108, .mv (.t 15), some (107, true)⟩,
       ⟨some 109, .mv (.t 18), some (107, true)⟩,
       ⟨some 110, .mv (.t 19), some (107, true)⟩,
       ⟨some 111, .bin .add (.t 109) (.t 110), some (107, true)⟩,
       ⟨some 112, .bin .neq (.t 108) (.t 111), some (107, true)⟩,
       ⟨some 113, .pick (.t 107) (.t 112) (.k (.bool false)), some (101, false)⟩,
       ⟨some 114, .pick (.t 101) (.k (.bool true)) (.t 113), none⟩])
     (.cond (.t 114) (.seq (.reg [⟨some 4, .mv (.k (.bool false)), none⟩])
       (.ret))
       (.skip)))
     (.seq (.seq (.reg [⟨some 115, .mv (.t 17), none⟩,
       ⟨some 116, .bin .gtr (.t 115) (.k (.int .i64 4)), none⟩])
     (.cond (.t 116) (.seq (.reg [⟨some 117, .call (.k (.fn 10 [] [])) [], none⟩,
         ⟨some 4, .mv (.t 117), none⟩])
       (.ret))
       (.skip)))
     (.reg [⟨some 118, .load true 1 (.t 13), none⟩,
       ⟨none, .store 1 (.t 7) (.t 118), none⟩]))))))))))))
    (.reg [⟨some 31, .mv (.t 9), none⟩,
      ⟨some 32, .bin .add (.t 31) (.k (.int .i64 1)), none⟩,
      ⟨some 9, .mv (.t 32), none⟩]))))))
  (.seq (.reg [⟨some 119, .call (.k (.fn 10 [] [])) [], none⟩,
    ⟨some 4, .mv (.t 119), none⟩])
  (.ret))))))))
theorem b4 : Body Tryd.prog 4 c4 [.tmp 4] 120 := ⟨by kernel_rfl, _, _, Tryd.func4, rfl, by kernel_rfl, by kernel_rfl, rfl⟩
def c17 : ACode :=
  .seq (.reg [⟨some 1, .box (.t 0), none⟩,
    ⟨some 2, .mv (.k (.int .i64 0)), none⟩,
    ⟨some 3, .mv (.k (.int .i64 0)), none⟩,
    ⟨some 4, .mv (.k (.int .i64 0)), none⟩])
  (.seq (.reg [⟨some 5, .mv (.k (.int .i64 0)), none⟩,
    ⟨some 6, .mv (.k (.int .i64 0)), none⟩,
    ⟨some 7, .mv (.k (.int .i64 64)), none⟩,
    ⟨some 8, .mv (.k (.int .i64 (-1))), none⟩])
  (.seq (.seq (.reg [⟨some 9, .mv (.k (.int .i64 0)), none⟩])
  (.block 0 (.loop (.seq (.seq (.reg [⟨some 10, .mv (.t 9), none⟩,
      ⟨some 11, .bin .lss (.t 10) (.k (.int .i64 64)), none⟩])
    (.cond (.t 11) (.skip)
      (.exit 0)))
    (.seq (.block 1 (.seq (.seq (.reg [⟨some 14, .mv (.t 9), none⟩,
       ⟨some 15, .iaddrA 64 1 (.t 1) (.t 14), none⟩,
       ⟨some 16, .load false 1 (.t 15), none⟩,
       ⟨some 17, .un .not (.t 16), none⟩])
     (.cond (.t 17) (.exit 1)
       (.skip)))
     (.seq (.reg [⟨some 18, .mv (.t 6), none⟩,
       ⟨some 19, .bin .add (.t 18) (.k (.int .i64 1)), none⟩,
       ⟨some 6, .mv (.t 19), none⟩])
     (.seq (.seq (.reg [⟨some 20, .mv (.t 9), none⟩,
       ⟨some 21, .bin .eql (.t 20) (.k (.int .i64 0)), none⟩,
       ⟨some 22, .mv (.t 21), none⟩,
       ⟨some 23, .mv (.t 9), some (22, false)⟩,
       ⟨some 24, .bin .sub (.t 23) (.k (.int .i64 1)), some (22, false)⟩,
       ⟨some 25, .iaddrA 64 1 (.t 1) (.t 24), some (22, false)⟩,
       ⟨some 26, .load false 1 (.t 25), some (22, false)⟩,
       ⟨some 27, .un .not (.t 26), some (22, false)⟩,
       ⟨some 28, .pick (.t 22) (.k (.bool true)) (.t 27), none⟩])
     (.cond (.t 28) (.seq (.reg [⟨some 29, .mv (.t 5), none⟩,
         ⟨some 30, .bin .add (.t 29) (.k (.int .i64 1)), none⟩,
         ⟨some 5, .mv (.t 30), none⟩])
       (.seq (.reg [⟨some 31, .mv (.t 8), none⟩,
         ⟨some 32, .bin .geq (.t 31) (.k (.int .i64 0)), none⟩])
       (.cond (.t 32) (.reg [⟨some 33, .mv (.t 7), none⟩,
           ⟨some 34, .mv (.t 9), none⟩,
           ⟨some 35, .mv (.t 8), none⟩,
           ⟨some 36, .bin .sub (.t 34) (.t 35), none⟩,
           ⟨some 37, .bin .sub (.t 36) (.k (.int .i64 1)), none⟩,
           ⟨some 38, .minmax false (.t 33) [(.t 37)], none⟩,
           ⟨some 7, .mv (.t 38), none⟩])
         (.skip))))
       (.skip)))
     (.reg [⟨some 39, .mv (.t 9), none⟩,
       ⟨some 8, .mv (.t 39), none⟩])))))
    (.reg [⟨some 12, .mv (.t 9), none⟩,
      ⟨some 13, .bin .add (.t 12) (.k (.int .i64 1)), none⟩,
      ⟨some 9, .mv (.t 13), none⟩]))))))
  (.seq (.reg [⟨some 40, .mv (.t 5), none⟩,
    ⟨some 41, .mv (.t 6), none⟩,
    ⟨some 42, .mv (.t 7), none⟩,
    ⟨some 2, .mv (.t 40), none⟩,
    ⟨some 3, .mv (.t 41), none⟩,
    ⟨some 4, .mv (.t 42), none⟩])
  (.ret))))
theorem b17 : Body Tryd.prog 17 c17 [.tmp 2, .tmp 3, .tmp 4] 43 := ⟨by kernel_rfl, _, _, Tryd.func17, rfl, by kernel_rfl, by kernel_rfl, rfl⟩
def tabLCodeE : List (Nat × ACode × List ARes × Nat) := [(4, c4, [.tmp 4], 120),
  (17, c17, [.tmp 2, .tmp 3, .tmp 4], 43)]
theorem tabOkCodeE : AllT Tryd.prog tabLCodeE := ⟨b4, b17, trivial⟩
end Go.Proofs.YtjhmknnokloneaaDoor
