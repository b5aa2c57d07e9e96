/-
  Abstract code of functions, printed by a program, and that it is theirs.
-/
import Derived.Test.YtjhmknnokloneaaDoorProg
import Derived.Test.YtjhmknnokloneaaDoorAmRow
set_option linter.unusedSimpArgs false
set_option linter.unusedVariables false
namespace Go.Proofs.YtjhmknnokloneaaDoor
open Go.Am
def c5 : ACode :=
  .seq (.reg [⟨some 2, .box (.t 0), none⟩,
    ⟨some 3, .box (.t 1), none⟩,
    ⟨some 4, .mv (.k (.bool false)), none⟩])
  (.seq (.seq (.reg [⟨some 17, .load true 1 (.t 2), none⟩,
    ⟨some 18, .call (.k (.fn 9 [] [])) [(.t 17)], none⟩])
  (.cond (.t 18) (.seq (.reg [⟨some 19, .call (.k (.fn 10 [] [])) [], none⟩,
      ⟨some 4, .mv (.t 19), none⟩])
    (.ret))
    (.skip)))
  (.seq (.reg [⟨some 21, .load true 1 (.t 2), none⟩,
    ⟨some 22, .faddr 0 (.t 3), none⟩,
    ⟨some 23, .load false 1 (.t 22), none⟩,
    ⟨some 24, .faddr 1 (.t 3), none⟩,
    ⟨some 25, .load false 1 (.t 24), none⟩,
    ⟨some 26, .call (.k (.fn 18 [] [])) [(.t 21), (.t 23), (.t 25)], none⟩,
    ⟨some 20, .mv (.t 26), none⟩,
    ⟨some 27, .ext (.t 20) 0, none⟩,
    ⟨some 28, .ext (.t 20) 1, none⟩,
    ⟨some 5, .mv (.t 27), none⟩,
    ⟨some 6, .mv (.t 28), none⟩])
  (.seq (.reg [⟨some 30, .load true 1 (.t 2), none⟩,
    ⟨some 31, .faddr 0 (.t 3), none⟩,
    ⟨some 32, .load false 1 (.t 31), none⟩,
    ⟨some 33, .faddr 1 (.t 3), none⟩,
    ⟨some 34, .load false 1 (.t 33), none⟩,
    ⟨some 35, .call (.k (.fn 19 [] [])) [(.t 30), (.t 32), (.t 34)], none⟩,
    ⟨some 29, .mv (.t 35), none⟩,
    ⟨some 36, .ext (.t 29) 0, none⟩,
    ⟨some 37, .ext (.t 29) 1, none⟩,
    ⟨some 7, .mv (.t 36), none⟩,
    ⟨some 8, .mv (.t 37), none⟩])
  (.seq (.reg [⟨some 39, .load true 1 (.t 2), none⟩,
    ⟨some 40, .faddr 0 (.t 3), none⟩,
    ⟨some 41, .load false 1 (.t 40), none⟩,
    ⟨some 42, .faddr 1 (.t 3), none⟩,
    ⟨some 43, .load false 1 (.t 42), none⟩,
    ⟨some 44, .call (.k (.fn 16 [] [])) [(.t 39), (.t 41), (.t 43)], none⟩,
    ⟨some 38, .mv (.t 44), none⟩,
    ⟨some 45, .ext (.t 38) 0, none⟩,
    ⟨some 46, .ext (.t 38) 1, none⟩,
    ⟨some 9, .mv (.t 45), none⟩,
    ⟨some 10, .mv (.t 46), none⟩])
  (.seq (.reg [⟨some 48, .load true 1 (.t 2), none⟩,
    ⟨some 49, .faddr 0 (.t 3), none⟩,
    ⟨some 50, .load false 1 (.t 49), none⟩,
    ⟨some 51, .faddr 1 (.t 3), none⟩,
    ⟨some 52, .load false 1 (.t 51), none⟩,
    ⟨some 53, .call (.k (.fn 20 [] [])) [(.t 48), (.t 50), (.t 52)], none⟩,
    ⟨some 47, .mv (.t 53), none⟩,
    ⟨some 54, .ext (.t 47) 0, none⟩,
    ⟨some 55, .ext (.t 47) 1, none⟩,
    ⟨some 11, .mv (.t 54), none⟩,
    ⟨some 12, .mv (.t 55), none⟩])
  (.seq (.reg [⟨some 57, .load true 1 (.t 2), none⟩,
    ⟨some 58, .faddr 0 (.t 3), none⟩,
    ⟨some 59, .load false 1 (.t 58), none⟩,
    ⟨some 60, .faddr 1 (.t 3), none⟩,
    ⟨some 61, .load false 1 (.t 60), none⟩,
    ⟨some 62, .call (.k (.fn 21 [] [])) [(.t 57), (.t 59), (.t 61)], none⟩,
    ⟨some 56, .mv (.t 62), none⟩,
    ⟨some 63, .ext (.t 56) 0, none⟩,
    ⟨some 64, .ext (.t 56) 1, none⟩,
    ⟨some 13, .mv (.t 63), none⟩,
    ⟨some 14, .mv (.t 64), none⟩])
  (.seq (.reg [⟨some 66, .load true 1 (.t 2), none⟩,
    ⟨some 67, .faddr 0 (.t 3), none⟩,
    ⟨some 68, .load false 1 (.t 67), none⟩,
    ⟨some 69, .faddr 1 (.t 3), none⟩,
    ⟨some 70, .load false 1 (.t 69), none⟩,
    ⟨some 71, .call (.k (.fn 22 [] [])) [(.t 66), (.t 68), (.t 70)], none⟩,
    ⟨some 65, .mv (.t 71), none⟩,
    ⟨some 72, .ext (.t 65) 0, none⟩,
    ⟨some 73, .ext (.t 65) 1, none⟩,
    ⟨some 15, .mv (.t 72), none⟩,
    ⟨some 16, .mv (.t 73), none⟩])
  (.seq (.reg [⟨some 74, .mv (.t 5), none⟩,
    ⟨some 75, .mv (.t 7), none⟩,
    ⟨some 76, .call (.k (.fn 23 [] [])) [(.t 74), (.t 75)], none⟩,
    ⟨some 77, .mv (.t 76), none⟩,
    ⟨some 78, .mv (.t 6), some (77, true)⟩,
    ⟨some 79, .mv (.t 8), some (77, true)⟩,
    ⟨some 80, .bin .eql (.t 78) (.t 79), some (77, true)⟩,
    ⟨some 81, .pick (.t 77) (.t 80) (.k (.bool false)), none⟩,
    ⟨some 82, .mv (.t 81), none⟩,
    ⟨some 83, .mv (.t 9), some (82, true)⟩,
    ⟨some 84, .mv (.t 11), some (82, true)⟩,
    ⟨some 85, .bin .eql (.t 83) (.t 84), some (82, true)⟩,
    ⟨some 86, .pick (.t 82) (.t 85) (.k (.bool false)), none⟩,
    ⟨some 87, .mv (.t 86), none⟩,
    ⟨some 88, .mv (.t 10), some (87, true)⟩,
    ⟨some 89, .mv (.t 12), some (87, true)⟩,
    ⟨some 90, .bin .eql (.t 88) (.t 89), some (87, true)⟩,
    ⟨some 91, .pick (.t 87) (.t 90) (.k (.bool false)), none⟩,
    ⟨some 92, .mv (.t 91), none⟩,
    ⟨some 93, .mv (.t 13), some (92, true)⟩,
    ⟨some 94, .mv (.t 15), some (92, true)⟩,
    ⟨some 95, .eqb false (.t 93) (.t 94), some (92, true)⟩,
    ⟨some 96, .pick (.t 92) (.t 95) (.k (.bool false)), none⟩,
    ⟨some 97, .mv (.t 96), none⟩,
    ⟨some 98, .mv (.t 14), some (97, true)⟩,
    ⟨some 99, .mv (.t 16), some (97, true)⟩,
    ⟨some 100, .bin .eql (.t 98) (.t 99), some (97, true)⟩,
    ⟨some 101, .pick (.t 97) (.t 100) (.k (.bool false)), none⟩,
    ⟨some 102, .mv (.t 101), none⟩,
    ⟨some 103, .call (.k (.fn 10 [] [])) [], some (102, true)⟩,
    ⟨some 104, .pick (.t 102) (.t 103) (.k (.bool false)), none⟩,
    ⟨some 4, .mv (.t 104), none⟩])
  (.ret)))))))))
theorem b5 : Body Tryd.prog 5 c5 [.tmp 4] 105 := ⟨by kernel_rfl, _, _, Tryd.func5, rfl, by kernel_rfl, by kernel_rfl, rfl⟩
def c16 : ACode :=
  .seq (.reg [⟨some 3, .box (.t 0), none⟩,
    ⟨some 6, .mv (.k (.int .i64 0)), none⟩,
    ⟨some 7, .mv (.k (.int .i64 0)), none⟩])
  (.seq (.reg [⟨some 14, .load true 1 (.t 3), none⟩,
    ⟨some 15, .mv (.t 1), none⟩,
    ⟨some 16, .mv (.t 2), none⟩,
    ⟨some 17, .call (.k (.fn 18 [] [])) [(.t 14), (.t 15), (.t 16)], none⟩,
    ⟨some 13, .mv (.t 17), none⟩,
    ⟨some 18, .ext (.t 13) 0, none⟩,
    ⟨some 19, .ext (.t 13) 1, none⟩,
    ⟨some 8, .mv (.t 18), none⟩,
    ⟨some 9, .mv (.t 19), none⟩])
  (.seq (.reg [⟨some 10, .mv (.k (.int .i64 0)), none⟩])
  (.seq (.seq (.reg [⟨some 20, .mv (.t 8), none⟩,
    ⟨some 21, .len (.t 20), none⟩,
    ⟨some 22, .mv (.k (.int .i64 0)), none⟩])
  (.block 0 (.loop (.seq (.reg [⟨some 23, .bin .lss (.t 22) (.t 21), none⟩])
    (.seq (.cond (.t 23) (.skip)
      (.exit 0))
    (.seq (.block 1 (.seq (.reg [⟨some 24, .iaddrS 2 (.t 20) (.t 22), none⟩,
       ⟨some 25, .load true 2 (.t 24), none⟩,
       ⟨some 12, .new [(.int .i64 0), (.int .i64 0)], none⟩,
       ⟨none, .store 2 (.t 12) (.t 25), none⟩])
     (.reg [⟨some 26, .mv (.t 10), none⟩,
       ⟨some 27, .faddr 1 (.t 12), none⟩,
       ⟨some 28, .load false 1 (.t 27), none⟩,
       ⟨some 29, .bin .add (.t 26) (.t 28), none⟩,
       ⟨some 10, .mv (.t 29), none⟩])))
    (.reg [⟨some 30, .bin .add (.t 22) (.k (.int .i64 1)), none⟩,
      ⟨some 22, .mv (.t 30), none⟩])))))))
  (.seq (.reg [⟨some 31, .mv (.t 10), none⟩,
    ⟨some 32, .mv (.t 9), none⟩,
    ⟨some 6, .mv (.t 31), none⟩,
    ⟨some 7, .mv (.t 32), none⟩])
  (.ret)))))
theorem b16 : Body Tryd.prog 16 c16 [.tmp 6, .tmp 7] 33 := ⟨by kernel_rfl, _, _, Tryd.func16, rfl, by kernel_rfl, by kernel_rfl, rfl⟩
def c19 : ACode :=
  .seq (.reg [⟨some 3, .box (.t 0), none⟩,
    ⟨some 6, .mv (.k .nils), none⟩,
    ⟨some 7, .mv (.k (.int .i64 0)), none⟩])
  (.seq (.reg [⟨some 16, .load true 1 (.t 3), none⟩,
    ⟨some 17, .mv (.t 1), none⟩,
    ⟨some 18, .mv (.t 2), none⟩,
    ⟨some 19, .call (.k (.fn 41 [] [])) [(.t 16), (.t 17), (.t 18)], none⟩,
    ⟨some 8, .mv (.t 19), none⟩])
  (.seq (.seq (.reg [⟨some 20, .mv (.t 8), none⟩,
    ⟨some 21, .bin .neq (.t 20) (.k (.int .i64 0)), none⟩])
  (.cond (.t 21) (.seq (.reg [⟨some 22, .mv (.t 8), none⟩,
      ⟨some 6, .mv (.k .nils), none⟩,
      ⟨some 7, .mv (.t 22), none⟩])
    (.ret))
    (.skip)))
  (.seq (.reg [⟨some 9, .mv (.k .nils), none⟩])
  (.seq (.seq (.reg [⟨some 10, .mv (.k (.int .i64 0)), none⟩])
  (.block 0 (.loop (.seq (.seq (.reg [⟨some 23, .mv (.t 10), none⟩,
      ⟨some 24, .faddr 0 (.t 3), none⟩,
      ⟨some 25, .load false 1 (.t 24), none⟩,
      ⟨some 26, .len (.t 25), none⟩,
      ⟨some 27, .bin .lss (.t 23) (.t 26), none⟩])
    (.cond (.t 27) (.skip)
      (.exit 0)))
    (.seq (.block 1 (.seq (.reg [⟨some 11, .mv (.k (.int .i64 0)), none⟩])
     (.block 2 (.loop (.seq (.seq (.reg [⟨some 30, .mv (.t 11), none⟩,
         ⟨some 31, .faddr 0 (.t 3), none⟩,
         ⟨some 32, .load false 1 (.t 31), none⟩,
         ⟨some 33, .mv (.t 10), none⟩,
         ⟨some 34, .iaddrS 2 (.t 32) (.t 33), none⟩,
         ⟨some 35, .faddr 1 (.t 34), none⟩,
         ⟨some 36, .load false 1 (.t 35), none⟩,
         ⟨some 37, .len (.t 36), none⟩,
         ⟨some 38, .bin .lss (.t 30) (.t 37), none⟩])
       (.cond (.t 38) (.skip)
         (.exit 2)))
       (.seq (.block 3 (.seq (.reg [⟨some 41, .faddr 0 (.t 3), none⟩,
          ⟨some 42, .load false 1 (.t 41), none⟩,
          ⟨some 43, .mv (.t 10), none⟩,
          ⟨some 44, .iaddrS 2 (.t 42) (.t 43), none⟩,
          ⟨some 45, .faddr 1 (.t 44), none⟩,
          ⟨some 46, .load false 1 (.t 45), none⟩,
          ⟨some 47, .mv (.t 11), none⟩,
          ⟨some 48, .iaddrS 2 (.t 46) (.t 47), none⟩,
          ⟨some 49, .load true 2 (.t 48), none⟩,
          ⟨some 12, .new [(.int .i64 0), (.int .i64 0)], none⟩,
          ⟨none, .store 2 (.t 12) (.t 49), none⟩])
        (.seq (.regD [⟨some 50, .faddr 0 (.t 3), none⟩,
          ⟨some 51, .load false 1 (.t 50), none⟩,
          ⟨some 52, .mv (.t 10), none⟩,
          ⟨some 53, .iaddrS 2 (.t 51) (.t 52), none⟩,
          ⟨some 54, .faddr 0 (.t 53), none⟩,
          ⟨some 55, .load false 1 (.t 54), none⟩,
          ⟨some 56, .bin .mul (.t 55) (.k (.int .i64 64)), none⟩,
          ⟨some 57, .faddr 0 (.t 12), none⟩,
          ⟨some 58, .load false 1 (.t 57), none⟩,
          ⟨some 59, .bin .add (.t 56) (.t 58), none⟩,
          ⟨some 13, .mv (.t 59), none⟩] [[], [0], [], [1, 2], [3], [4], [5], [], [7], [6, 8], [9, 0, 1, 2, 3, 4, 5, 6, 7, 8, 9]])
        (.seq (.regD [⟨some 60, .mv (.t 13), none⟩,
          ⟨some 61, .mv (.t 1), none⟩,
          ⟨some 62, .minmax true (.t 60) [(.t 61)], none⟩,
          ⟨some 63, .mv (.t 13), none⟩,
          ⟨some 64, .faddr 1 (.t 12), none⟩,
          ⟨some 65, .load false 1 (.t 64), none⟩,
          ⟨some 66, .bin .add (.t 63) (.t 65), none⟩,
          ⟨some 67, .mv (.t 1), none⟩,
          ⟨some 68, .mv (.t 2), none⟩,
          ⟨some 69, .bin .add (.t 67) (.t 68), none⟩,
          ⟨some 70, .minmax false (.t 66) [(.t 69)], none⟩,
          ⟨some 14, .mv (.t 62), none⟩,
          ⟨some 15, .mv (.t 70), none⟩] [[], [], [0, 1], [], [], [4], [3, 5], [], [], [7, 8], [6, 9], [2, 0, 1, 2], [10, 11, 0, 1, 2, 3, 4, 5, 6, 7, 8, 9, 10, 11]])
        (.seq (.reg [⟨some 71, .mv (.t 14), none⟩,
          ⟨some 72, .mv (.t 15), none⟩,
          ⟨some 73, .bin .lss (.t 71) (.t 72), none⟩])
        (.cond (.t 73) (.reg [⟨some 74, .mv (.t 9), none⟩,
            ⟨some 75, .mv (.t 14), none⟩,
            ⟨some 76, .mv (.t 15), none⟩,
            ⟨some 77, .mv (.t 14), none⟩,
            ⟨some 78, .bin .sub (.t 76) (.t 77), none⟩,
            ⟨some 79, .build [(.int .i64 0), (.int .i64 0)] [(0, 1, (.t 75)), (1, 1, (.t 78))], none⟩,
            ⟨some 80, .bslice 2 1 [(.int .i64 0), (.int .i64 0)] [(0, 2, (.t 79))], none⟩,
            ⟨some 81, .append 2 16 (.t 74) (.t 80), none⟩,
            ⟨some 9, .mv (.t 81), none⟩])
          (.skip)))))))
       (.reg [⟨some 39, .mv (.t 11), none⟩,
         ⟨some 40, .bin .add (.t 39) (.k (.int .i64 1)), none⟩,
         ⟨some 11, .mv (.t 40), none⟩])))))))
    (.reg [⟨some 28, .mv (.t 10), none⟩,
      ⟨some 29, .bin .add (.t 28) (.k (.int .i64 1)), none⟩,
      ⟨some 10, .mv (.t 29), none⟩]))))))
  (.seq (.reg [⟨some 82, .mv (.t 9), none⟩,
    ⟨some 6, .mv (.t 82), none⟩,
    ⟨some 7, .mv (.k (.int .i64 0)), none⟩])
  (.ret))))))
theorem b19 : Body Tryd.prog 19 c19 [.tmp 6, .tmp 7] 83 := ⟨by kernel_rfl, _, _, Tryd.func19, rfl, by kernel_rfl, by kernel_rfl, rfl⟩
def c20 : ACode :=
  .seq (.reg [⟨some 3, .box (.t 0), none⟩,
    ⟨some 6, .mv (.k (.int .i64 0)), none⟩,
    ⟨some 7, .mv (.k (.int .i64 0)), none⟩])
  (.seq (.reg [⟨some 13, .load true 1 (.t 3), none⟩,
    ⟨some 14, .mv (.t 1), none⟩,
    ⟨some 15, .mv (.t 2), none⟩,
    ⟨some 16, .call (.k (.fn 19 [] [])) [(.t 13), (.t 14), (.t 15)], none⟩,
    ⟨some 12, .mv (.t 16), none⟩,
    ⟨some 17, .ext (.t 12) 0, none⟩,
    ⟨some 18, .ext (.t 12) 1, none⟩,
    ⟨some 8, .mv (.t 17), none⟩,
    ⟨some 9, .mv (.t 18), none⟩])
  (.seq (.reg [⟨some 10, .mv (.k (.int .i64 0)), none⟩])
  (.seq (.seq (.reg [⟨some 11, .mv (.k (.int .i64 0)), none⟩])
  (.block 0 (.loop (.seq (.seq (.reg [⟨some 19, .mv (.t 11), none⟩,
      ⟨some 20, .mv (.t 8), none⟩,
      ⟨some 21, .len (.t 20), none⟩,
      ⟨some 22, .bin .lss (.t 19) (.t 21), none⟩])
    (.cond (.t 22) (.skip)
      (.exit 0)))
    (.seq (.block 1 (.reg [⟨some 25, .mv (.t 10), none⟩,
       ⟨some 26, .mv (.t 8), none⟩,
       ⟨some 27, .mv (.t 11), none⟩,
       ⟨some 28, .iaddrS 2 (.t 26) (.t 27), none⟩,
       ⟨some 29, .faddr 1 (.t 28), none⟩,
       ⟨some 30, .load false 1 (.t 29), none⟩,
       ⟨some 31, .bin .add (.t 25) (.t 30), none⟩,
       ⟨some 10, .mv (.t 31), none⟩]))
    (.reg [⟨some 23, .mv (.t 11), none⟩,
      ⟨some 24, .bin .add (.t 23) (.k (.int .i64 1)), none⟩,
      ⟨some 11, .mv (.t 24), none⟩]))))))
  (.seq (.reg [⟨some 32, .mv (.t 10), none⟩,
    ⟨some 33, .mv (.t 9), none⟩,
    ⟨some 6, .mv (.t 32), none⟩,
    ⟨some 7, .mv (.t 33), none⟩])
  (.ret)))))
theorem b20 : Body Tryd.prog 20 c20 [.tmp 6, .tmp 7] 34 := ⟨by kernel_rfl, _, _, Tryd.func20, rfl, by kernel_rfl, by kernel_rfl, rfl⟩
def c21 : ACode :=
  .seq (.reg [⟨some 3, .box (.t 0), none⟩,
    ⟨some 6, .mv (.k (.bool false)), none⟩,
    ⟨some 7, .mv (.k (.int .i64 0)), none⟩])
  (.seq (.reg [⟨some 11, .load true 1 (.t 3), none⟩,
    ⟨some 12, .mv (.t 1), none⟩,
    ⟨some 13, .mv (.t 2), none⟩,
    ⟨some 14, .call (.k (.fn 18 [] [])) [(.t 11), (.t 12), (.t 13)], none⟩,
    ⟨some 10, .mv (.t 14), none⟩,
    ⟨some 15, .ext (.t 10) 0, none⟩,
    ⟨some 16, .ext (.t 10) 1, none⟩,
    ⟨some 8, .mv (.t 15), none⟩,
    ⟨some 9, .mv (.t 16), none⟩])
  (.seq (.reg [⟨some 17, .mv (.t 9), none⟩,
    ⟨some 18, .bin .eql (.t 17) (.k (.int .i64 0)), none⟩,
    ⟨some 19, .mv (.t 18), none⟩,
    ⟨some 20, .mv (.t 8), some (19, true)⟩,
    ⟨some 21, .len (.t 20), some (19, true)⟩,
    ⟨some 22, .bin .eql (.t 21) (.k (.int .i64 0)), some (19, true)⟩,
    ⟨some 23, .pick (.t 19) (.t 22) (.k (.bool false)), none⟩,
    ⟨some 24, .mv (.t 9), none⟩,
    ⟨some 6, .mv (.t 23), none⟩,
    ⟨some 7, .mv (.t 24), none⟩])
  (.ret)))
theorem b21 : Body Tryd.prog 21 c21 [.tmp 6, .tmp 7] 25 := ⟨by kernel_rfl, _, _, Tryd.func21, rfl, by kernel_rfl, by kernel_rfl, rfl⟩
def c22 : ACode :=
  .seq (.reg [⟨some 3, .box (.t 0), none⟩,
    ⟨some 6, .mv (.k (.bool false)), none⟩,
    ⟨some 7, .mv (.k (.int .i64 0)), none⟩])
  (.seq (.reg [⟨some 11, .load true 1 (.t 3), none⟩,
    ⟨some 12, .mv (.t 1), none⟩,
    ⟨some 13, .mv (.t 2), none⟩,
    ⟨some 14, .call (.k (.fn 19 [] [])) [(.t 11), (.t 12), (.t 13)], none⟩,
    ⟨some 10, .mv (.t 14), none⟩,
    ⟨some 15, .ext (.t 10) 0, none⟩,
    ⟨some 16, .ext (.t 10) 1, none⟩,
    ⟨some 8, .mv (.t 15), none⟩,
    ⟨some 9, .mv (.t 16), none⟩])
  (.seq (.reg [⟨some 17, .mv (.t 9), none⟩,
    ⟨some 18, .bin .eql (.t 17) (.k (.int .i64 0)), none⟩,
    ⟨some 19, .mv (.t 18), none⟩,
    ⟨some 20, .mv (.t 8), some (19, true)⟩,
    ⟨some 21, .len (.t 20), some (19, true)⟩,
    ⟨some 22, .bin .eql (.t 21) (.k (.int .i64 0)), some (19, true)⟩,
    ⟨some 23, .pick (.t 19) (.t 22) (.k (.bool false)), none⟩,
    ⟨some 24, .mv (.t 9), none⟩,
    ⟨some 6, .mv (.t 23), none⟩,
    ⟨some 7, .mv (.t 24), none⟩])
  (.ret)))
theorem b22 : Body Tryd.prog 22 c22 [.tmp 6, .tmp 7] 25 := ⟨by kernel_rfl, _, _, Tryd.func22, rfl, by kernel_rfl, by kernel_rfl, rfl⟩
def tabLCodeG : List (Nat × ACode × List ARes × Nat) := [(5, c5, [.tmp 4], 105),
  (16, c16, [.tmp 6, .tmp 7], 33),
  (19, c19, [.tmp 6, .tmp 7], 83),
  (20, c20, [.tmp 6, .tmp 7], 34),
  (21, c21, [.tmp 6, .tmp 7], 25),
  (22, c22, [.tmp 6, .tmp 7], 25)]
theorem tabOkCodeG : AllT Tryd.prog tabLCodeG := ⟨b5, b16, b19, b20, b21, b22, trivial⟩
end Go.Proofs.YtjhmknnokloneaaDoor
