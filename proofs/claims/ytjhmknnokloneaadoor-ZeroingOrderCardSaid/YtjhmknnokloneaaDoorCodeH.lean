/-
  Abstract code of functions, printed by a program, and that it is theirs.
-/
import Derived.Test.YtjhmknnokloneaaDoorProg
import Derived.Test.YtjhmknnokloneaaDoorAmRow
set_option linter.unusedSimpArgs false
set_option linter.unusedVariables false
namespace Go.Proofs.YtjhmknnokloneaaDoor
open Go.Am
def c6 : ACode :=
  .seq (.reg [⟨some 2, .box (.t 0), none⟩,
    ⟨some 3, .box (.t 1), none⟩,
    ⟨some 4, .mv (.k (.bool false)), none⟩])
  (.seq (.seq (.reg [⟨some 9, .load true 1 (.t 2), none⟩,
    ⟨some 10, .call (.k (.fn 9 [] [])) [(.t 9)], none⟩])
  (.cond (.t 10) (.seq (.reg [⟨some 11, .call (.k (.fn 10 [] [])) [], none⟩,
      ⟨some 4, .mv (.t 11), none⟩])
    (.ret))
    (.skip)))
  (.seq (.reg [⟨some 13, .load true 1 (.t 2), none⟩,
    ⟨some 14, .load true 2 (.t 3), none⟩,
    ⟨some 15, .call (.k (.fn 24 [] [])) [(.t 13), (.t 14)], none⟩,
    ⟨some 12, .mv (.t 15), none⟩,
    ⟨some 16, .ext (.t 12) 0, none⟩,
    ⟨some 17, .ext (.t 12) 1, none⟩,
    ⟨some 5, .new [.nils], none⟩,
    ⟨none, .store 1 (.t 5) (.t 16), none⟩,
    ⟨some 6, .mv (.t 17), none⟩])
  (.seq (.reg [⟨some 19, .load true 1 (.t 2), none⟩,
    ⟨some 20, .load true 2 (.t 3), none⟩,
    ⟨some 21, .call (.k (.fn 25 [] [])) [(.t 19), (.t 20)], none⟩,
    ⟨some 18, .mv (.t 21), none⟩,
    ⟨some 22, .ext (.t 18) 0, none⟩,
    ⟨some 23, .ext (.t 18) 1, none⟩,
    ⟨some 7, .new [.nils], none⟩,
    ⟨none, .store 1 (.t 7) (.t 22), none⟩,
    ⟨some 8, .mv (.t 23), none⟩])
  (.seq (.regD [⟨some 24, .load true 1 (.t 2), none⟩,
    ⟨some 25, .call (.k (.fn 26 [] [])) [(.t 24)], none⟩,
    ⟨some 26, .load true 1 (.t 2), none⟩,
    ⟨some 27, .call (.k (.fn 27 [] [])) [(.t 26)], none⟩,
    ⟨some 28, .bin .eql (.t 25) (.t 27), none⟩,
    ⟨some 29, .mv (.t 28), none⟩,
    ⟨some 30, .load true 1 (.t 5), some (29, true)⟩,
    ⟨some 31, .load true 1 (.t 7), some (29, true)⟩,
    ⟨some 32, .call (.k (.fn 15 [] [])) [(.t 30), (.t 31)], some (29, true)⟩,
    ⟨some 33, .pick (.t 29) (.t 32) (.k (.bool false)), none⟩,
    ⟨some 34, .mv (.t 33), none⟩,
    ⟨some 35, .mv (.t 6), some (34, true)⟩,
    ⟨some 36, .mv (.t 8), some (34, true)⟩,
    ⟨some 37, .bin .eql (.t 35) (.t 36), some (34, true)⟩,
    ⟨some 38, .pick (.t 34) (.t 37) (.k (.bool false)), none⟩,
    ⟨some 39, .mv (.t 38), none⟩,
    ⟨some 40, .call (.k (.fn 10 [] [])) [], some (39, true)⟩,
    ⟨some 41, .pick (.t 39) (.t 40) (.k (.bool false)), none⟩,
    ⟨some 4, .mv (.t 41), none⟩] [[], [0], [], [2, 1], [1, 3], [4, 3], [5], [5], [6, 7, 5, 5], [5, 8], [9, 8], [10], [10], [11, 12, 10], [10, 13], [14, 10], [15, 15], [15, 16], [17, 16, 0, 1, 2, 3, 4, 5, 6, 7, 8, 9, 10, 11, 12, 13, 14, 15, 16, 17]])
  (.ret)))))
theorem b6 : Body Tryd.prog 6 c6 [.tmp 4] 42 := ⟨by kernel_rfl, _, _, Tryd.func6, rfl, by kernel_rfl, by kernel_rfl, rfl⟩
def c24 : ACode :=
  .seq (.reg [⟨some 2, .box (.t 0), none⟩,
    ⟨some 3, .box (.t 1), none⟩,
    ⟨some 4, .new [.nils], none⟩,
    ⟨some 5, .mv (.k (.int .i64 0)), none⟩])
  (.seq (.seq (.reg [⟨some 8, .load true 1 (.t 2), none⟩,
    ⟨some 9, .call (.k (.fn 26 [] [])) [(.t 8)], none⟩,
    ⟨some 6, .mv (.t 9), none⟩])
  (.seq (.reg [⟨some 10, .mv (.t 6), none⟩,
    ⟨some 11, .bin .neq (.t 10) (.k (.int .i64 0)), none⟩])
  (.cond (.t 11) (.seq (.reg [⟨some 12, .build [.nils] [], none⟩,
      ⟨some 13, .mv (.t 6), none⟩,
      ⟨none, .store 1 (.t 4) (.t 12), none⟩,
      ⟨some 5, .mv (.t 13), none⟩])
    (.ret))
    (.skip))))
  (.seq (.seq (.reg [⟨some 14, .load true 2 (.t 3), none⟩,
    ⟨some 15, .bslice 2 1 [(.int .i64 0), (.int .i64 0)] [(0, 2, (.t 14))], none⟩,
    ⟨some 16, .call (.k (.fn 42 [] [])) [(.t 15)], none⟩,
    ⟨some 17, .bin .neq (.t 16) (.k (.int .i64 0)), none⟩])
  (.cond (.t 17) (.seq (.reg [⟨some 18, .build [.nils] [], none⟩,
      ⟨none, .store 1 (.t 4) (.t 18), none⟩,
      ⟨some 5, .mv (.k (.int .i64 7)), none⟩])
    (.ret))
    (.skip)))
  (.seq (.reg [⟨some 19, .load true 1 (.t 2), none⟩,
    ⟨some 20, .call (.k (.fn 36 [] [])) [(.t 19)], none⟩,
    ⟨some 7, .mv (.t 20), none⟩])
  (.seq (.regD [⟨some 21, .mv (.t 7), none⟩,
    ⟨some 22, .nchk (.t 21), none⟩,
    ⟨some 23, .faddr 0 (.t 3), none⟩,
    ⟨some 24, .load false 1 (.t 23), none⟩,
    ⟨some 25, .faddr 0 (.t 3), none⟩,
    ⟨some 26, .load false 1 (.t 25), none⟩,
    ⟨some 27, .faddr 1 (.t 3), none⟩,
    ⟨some 28, .load false 1 (.t 27), none⟩,
    ⟨some 29, .bin .add (.t 26) (.t 28), none⟩,
    ⟨some 30, .slA 1024 1 (.t 22) (some (.t 24)) (some (.t 29)), none⟩,
    ⟨none, .clear [(.int .u64 0)] (.t 30), none⟩] [[], [0], [], [2], [], [4], [], [6], [5, 7], [1, 3, 8], [9]])
  (.seq (.reg [⟨some 31, .mv (.t 7), none⟩,
    ⟨some 32, .call (.k (.fn 38 [] [])) [(.t 31)], none⟩,
    ⟨none, .store 1 (.t 4) (.t 32), none⟩,
    ⟨some 5, .mv (.k (.int .i64 0)), none⟩])
  (.ret))))))
theorem b24 : Body Tryd.prog 24 c24 [.cell 4 true 1, .tmp 5] 33 := ⟨by kernel_rfl, _, _, Tryd.func24, rfl, by kernel_rfl, by kernel_rfl, rfl⟩
def c25 : ACode :=
  .seq (.reg [⟨some 2, .box (.t 0), none⟩,
    ⟨some 3, .box (.t 1), none⟩,
    ⟨some 4, .new [.nils], none⟩,
    ⟨some 5, .mv (.k (.int .i64 0)), none⟩])
  (.seq (.reg [⟨some 8, .load true 1 (.t 2), none⟩,
    ⟨some 9, .call (.k (.fn 27 [] [])) [(.t 8)], none⟩,
    ⟨some 6, .mv (.t 9), none⟩])
  (.seq (.seq (.reg [⟨some 10, .mv (.t 6), none⟩,
    ⟨some 11, .bin .eql (.t 10) (.k (.int .i64 0)), none⟩,
    ⟨some 12, .mv (.t 11), none⟩,
    ⟨some 13, .load true 2 (.t 3), some (12, true)⟩,
    ⟨some 14, .call (.k (.fn 32 [] [])) [(.t 13)], some (12, true)⟩,
    ⟨some 15, .un .not (.t 14), some (12, true)⟩,
    ⟨some 16, .pick (.t 12) (.t 15) (.k (.bool false)), none⟩])
  (.cond (.t 16) (.reg [⟨some 6, .mv (.k (.int .i64 7)), none⟩])
    (.skip)))
  (.seq (.seq (.reg [⟨some 17, .mv (.t 6), none⟩,
    ⟨some 18, .bin .neq (.t 17) (.k (.int .i64 0)), none⟩])
  (.cond (.t 18) (.seq (.reg [⟨some 19, .build [.nils] [], none⟩,
      ⟨some 20, .mv (.t 6), none⟩,
      ⟨none, .store 1 (.t 4) (.t 19), none⟩,
      ⟨some 5, .mv (.t 20), none⟩])
    (.ret))
    (.skip)))
  (.seq (.seq (.reg [⟨some 21, .faddr 0 (.t 3), none⟩,
    ⟨some 22, .load false 1 (.t 21), none⟩,
    ⟨some 7, .mv (.t 22), none⟩])
  (.block 0 (.loop (.seq (.seq (.reg [⟨some 23, .mv (.t 7), none⟩,
      ⟨some 24, .faddr 0 (.t 3), none⟩,
      ⟨some 25, .load false 1 (.t 24), none⟩,
      ⟨some 26, .faddr 1 (.t 3), none⟩,
      ⟨some 27, .load false 1 (.t 26), none⟩,
      ⟨some 28, .bin .add (.t 25) (.t 27), none⟩,
      ⟨some 29, .bin .lss (.t 23) (.t 28), none⟩])
    (.cond (.t 29) (.skip)
      (.exit 0)))
    (.seq (.block 1 (.reg [⟨some 32, .load true 1 (.t 2), none⟩,
       ⟨some 33, .mv (.t 7), none⟩,
       ⟨some 34, .build (List.replicate 64 (.bool false)) [], none⟩,
       ⟨some 35, .call (.k (.fn 43 [] [])) [(.t 32), (.t 33), (.t 34)], none⟩,
       ⟨none, .store 1 (.t 2) (.t 35), none⟩]))
    (.reg [⟨some 30, .mv (.t 7), none⟩,
      ⟨some 31, .bin .add (.t 30) (.k (.int .i64 1)), none⟩,
      ⟨some 7, .mv (.t 31), none⟩]))))))
  (.seq (.reg [⟨some 36, .load true 1 (.t 2), none⟩,
    ⟨none, .store 1 (.t 4) (.t 36), none⟩,
    ⟨some 5, .mv (.k (.int .i64 0)), none⟩])
  (.ret))))))
theorem b25 : Body Tryd.prog 25 c25 [.cell 4 true 1, .tmp 5] 37 := ⟨by kernel_rfl, _, _, Tryd.func25, rfl, by kernel_rfl, by kernel_rfl, rfl⟩
def c32 : ACode :=
  .seq (.reg [⟨some 1, .box (.t 0), none⟩,
    ⟨some 2, .mv (.k (.bool false)), none⟩])
  (.seq (.reg [⟨some 3, .faddr 0 (.t 1), none⟩,
    ⟨some 4, .load false 1 (.t 3), none⟩,
    ⟨some 5, .bin .geq (.t 4) (.k (.int .i64 0)), none⟩,
    ⟨some 6, .mv (.t 5), none⟩,
    ⟨some 7, .faddr 0 (.t 1), some (6, true)⟩,
    ⟨some 8, .load false 1 (.t 7), some (6, true)⟩,
    ⟨some 9, .bin .lss (.t 8) (.k (.int .i64 1024)), some (6, true)⟩,
    ⟨some 10, .pick (.t 6) (.t 9) (.k (.bool false)), none⟩,
    ⟨some 11, .mv (.t 10), none⟩,
    ⟨some 12, .faddr 1 (.t 1), some (11, true)⟩,
    ⟨some 13, .load false 1 (.t 12), some (11, true)⟩,
    ⟨some 14, .bin .geq (.t 13) (.k (.int .i64 1)), some (11, true)⟩,
    ⟨some 15, .pick (.t 11) (.t 14) (.k (.bool false)), none⟩,
    ⟨some 16, .mv (.t 15), none⟩,
    ⟨some 17, .faddr 1 (.t 1), some (16, true)⟩,
    ⟨some 18, .load false 1 (.t 17), some (16, true)⟩,
    ⟨some 19, .faddr 0 (.t 1), some (16, true)⟩,
    ⟨some 20, .load false 1 (.t 19), some (16, true)⟩,
    ⟨some 21, .bin .sub (.k (.int .i64 1024)) (.t 20), some (16, true)⟩,
    ⟨some 22, .bin .leq (.t 18) (.t 21), some (16, true)⟩,
    ⟨some 23, .pick (.t 16) (.t 22) (.k (.bool false)), none⟩,
    ⟨some 2, .mv (.t 23), none⟩])
  (.ret))
theorem b32 : Body Tryd.prog 32 c32 [.tmp 2] 24 := ⟨by kernel_rfl, _, _, Tryd.func32, rfl, by kernel_rfl, by kernel_rfl, rfl⟩
def c42 : ACode :=
  .seq (.reg [⟨some 2, .mv (.k (.int .i64 0)), none⟩])
  (.seq (.block 0 (.seq (.reg [⟨some 5, .mv (.t 0), none⟩,
     ⟨some 6, .len (.t 5), none⟩,
     ⟨some 7, .bin .gtr (.t 6) (.k (.int .i64 512)), none⟩,
     ⟨some 4, .mv (.t 7), none⟩])
   (.cond (.t 4) (.seq (.reg [⟨some 2, .mv (.k (.int .i64 3)), none⟩])
     (.ret))
     (.seq (.reg [⟨some 9, .mv (.t 0), none⟩,
       ⟨some 10, .call (.k (.fn 54 [] [])) [(.t 9), (.k (.fn 55 [] []))], none⟩,
       ⟨some 8, .mv (.t 10), none⟩])
     (.cond (.t 8) (.seq (.reg [⟨some 2, .mv (.k (.int .i64 7)), none⟩])
       (.ret))
       (.skip))))))
  (.seq (.seq (.reg [⟨some 3, .mv (.k (.int .i64 1)), none⟩])
  (.block 1 (.loop (.seq (.seq (.reg [⟨some 11, .mv (.t 3), none⟩,
      ⟨some 12, .mv (.t 0), none⟩,
      ⟨some 13, .len (.t 12), none⟩,
      ⟨some 14, .bin .lss (.t 11) (.t 13), none⟩])
    (.cond (.t 14) (.skip)
      (.exit 1)))
    (.seq (.block 2 (.seq (.regD [⟨some 17, .mv (.t 0), none⟩,
       ⟨some 18, .mv (.t 3), none⟩,
       ⟨some 19, .iaddrS 2 (.t 17) (.t 18), none⟩,
       ⟨some 20, .faddr 0 (.t 19), none⟩,
       ⟨some 21, .load false 1 (.t 20), none⟩,
       ⟨some 22, .mv (.t 0), none⟩,
       ⟨some 23, .mv (.t 3), none⟩,
       ⟨some 24, .bin .sub (.t 23) (.k (.int .i64 1)), none⟩,
       ⟨some 25, .iaddrS 2 (.t 22) (.t 24), none⟩,
       ⟨some 26, .load true 2 (.t 25), none⟩,
       ⟨some 27, .call (.k (.fn 56 [] [])) [(.t 26)], none⟩,
       ⟨some 28, .bin .leq (.t 21) (.t 27), none⟩] [[], [], [0, 1], [2], [3], [], [], [6], [5, 7], [8], [9], [4, 10]])
     (.cond (.t 28) (.seq (.reg [⟨some 2, .mv (.k (.int .i64 6)), none⟩])
       (.ret))
       (.skip))))
    (.reg [⟨some 15, .mv (.t 3), none⟩,
      ⟨some 16, .bin .add (.t 15) (.k (.int .i64 1)), none⟩,
      ⟨some 3, .mv (.t 16), none⟩]))))))
  (.seq (.reg [⟨some 2, .mv (.k (.int .i64 0)), none⟩])
  (.ret))))
theorem b42 : Body Tryd.prog 42 c42 [.tmp 2] 29 := ⟨by kernel_rfl, _, _, Tryd.func42, rfl, by kernel_rfl, by kernel_rfl, rfl⟩
def c54 : ACode :=
  .seq (.reg [⟨some 4, .mv (.k (.bool false)), none⟩])
  (.seq (.reg [⟨some 5, .mv (.t 0), none⟩,
    ⟨some 6, .mv (.t 1), none⟩,
    ⟨some 7, .call (.k (.fn 60 [] [])) [(.t 5), (.t 6)], none⟩,
    ⟨some 8, .bin .geq (.t 7) (.k (.int .i64 0)), none⟩,
    ⟨some 4, .mv (.t 8), none⟩])
  (.ret))
theorem b54 : Body Tryd.prog 54 c54 [.tmp 4] 9 := ⟨by kernel_rfl, _, _, Tryd.func54, rfl, by kernel_rfl, by kernel_rfl, rfl⟩
def c55 : ACode :=
  .seq (.reg [⟨some 1, .box (.t 0), none⟩,
    ⟨some 2, .mv (.k (.bool false)), none⟩])
  (.seq (.reg [⟨some 3, .faddr 0 (.t 1), none⟩,
    ⟨some 4, .load false 1 (.t 3), none⟩,
    ⟨some 5, .bin .lss (.t 4) (.k (.int .i64 0)), none⟩,
    ⟨some 6, .mv (.t 5), none⟩,
    ⟨some 7, .faddr 0 (.t 1), some (6, false)⟩,
    ⟨some 8, .load false 1 (.t 7), some (6, false)⟩,
    ⟨some 9, .bin .geq (.t 8) (.k (.int .i64 1024)), some (6, false)⟩,
    ⟨some 10, .pick (.t 6) (.k (.bool true)) (.t 9), none⟩,
    ⟨some 11, .mv (.t 10), none⟩,
    ⟨some 12, .faddr 1 (.t 1), some (11, false)⟩,
    ⟨some 13, .load false 1 (.t 12), some (11, false)⟩,
    ⟨some 14, .bin .lss (.t 13) (.k (.int .i64 1)), some (11, false)⟩,
    ⟨some 15, .pick (.t 11) (.k (.bool true)) (.t 14), none⟩,
    ⟨some 16, .mv (.t 15), none⟩,
    ⟨some 17, .faddr 1 (.t 1), some (16, false)⟩,
    ⟨some 18, .load false 1 (.t 17), some (16, false)⟩,
    ⟨some 19, .faddr 0 (.t 1), some (16, false)⟩,
    ⟨some 20, .load false 1 (.t 19), some (16, false)⟩,
    ⟨some 21, .bin .sub (.k (.int .i64 1024)) (.t 20), some (16, false)⟩,
    ⟨some 22, .bin .gtr (.t 18) (.t 21), some (16, false)⟩,
    ⟨some 23, .pick (.t 16) (.k (.bool true)) (.t 22), none⟩,
    ⟨some 2, .mv (.t 23), none⟩])
  (.ret))
theorem b55 : Body Tryd.prog 55 c55 [.tmp 2] 24 := ⟨by kernel_rfl, _, _, Tryd.func55, rfl, by kernel_rfl, by kernel_rfl, rfl⟩
def c56 : ACode :=
  .seq (.reg [⟨some 1, .box (.t 0), none⟩,
    ⟨some 2, .mv (.k (.int .i64 0)), none⟩])
  (.seq (.reg [⟨some 3, .faddr 0 (.t 1), none⟩,
    ⟨some 4, .load false 1 (.t 3), none⟩,
    ⟨some 5, .faddr 1 (.t 1), none⟩,
    ⟨some 6, .load false 1 (.t 5), none⟩,
    ⟨some 7, .bin .add (.t 4) (.t 6), none⟩,
    ⟨some 2, .mv (.t 7), none⟩])
  (.ret))
theorem b56 : Body Tryd.prog 56 c56 [.tmp 2] 8 := ⟨by kernel_rfl, _, _, Tryd.func56, rfl, by kernel_rfl, by kernel_rfl, rfl⟩
def c60 : ACode :=
  .seq (.reg [⟨some 4, .mv (.k (.int .i64 0)), none⟩])
  (.seq (.seq (.reg [⟨some 6, .mv (.t 0), none⟩,
    ⟨some 7, .len (.t 6), none⟩,
    ⟨some 8, .mv (.k (.int .i64 0)), none⟩])
  (.block 0 (.loop (.seq (.reg [⟨some 9, .bin .lss (.t 8) (.t 7), none⟩])
    (.seq (.cond (.t 9) (.skip)
      (.exit 0))
    (.seq (.block 1 (.seq (.reg [⟨some 10, .mv (.t 8), none⟩,
       ⟨some 5, .mv (.t 10), none⟩])
     (.seq (.reg [⟨some 11, .mv (.t 1), none⟩,
       ⟨some 12, .mv (.t 0), none⟩,
       ⟨some 13, .mv (.t 5), none⟩,
       ⟨some 14, .iaddrS 2 (.t 12) (.t 13), none⟩,
       ⟨some 15, .load true 2 (.t 14), none⟩,
       ⟨some 16, .call (.t 11) [(.t 15)], none⟩])
     (.cond (.t 16) (.seq (.reg [⟨some 17, .mv (.t 5), none⟩,
         ⟨some 4, .mv (.t 17), none⟩])
       (.ret))
       (.skip)))))
    (.reg [⟨some 18, .bin .add (.t 8) (.k (.int .i64 1)), none⟩,
      ⟨some 8, .mv (.t 18), none⟩])))))))
  (.seq (.reg [⟨some 4, .mv (.k (.int .i64 (-1))), none⟩])
  (.ret)))
theorem b60 : Body Tryd.prog 60 c60 [.tmp 4] 19 := ⟨by kernel_rfl, _, _, Tryd.func60, rfl, by kernel_rfl, by kernel_rfl, rfl⟩
def tabLCodeH : List (Nat × ACode × List ARes × Nat) := [(6, c6, [.tmp 4], 42),
  (24, c24, [.cell 4 true 1, .tmp 5], 33),
  (25, c25, [.cell 4 true 1, .tmp 5], 37),
  (32, c32, [.tmp 2], 24),
  (42, c42, [.tmp 2], 29),
  (54, c54, [.tmp 4], 9),
  (55, c55, [.tmp 2], 24),
  (56, c56, [.tmp 2], 8),
  (60, c60, [.tmp 4], 19)]
theorem tabOkCodeH : AllT Tryd.prog tabLCodeH := ⟨b6, b24, b25, b32, b42, b54, b55, b56, b60, trivial⟩
end Go.Proofs.YtjhmknnokloneaaDoor
