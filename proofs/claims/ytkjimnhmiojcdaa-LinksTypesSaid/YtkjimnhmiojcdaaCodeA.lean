/-
  Abstract code of functions, printed by a program, and that it is theirs.
-/
import Derived.Test.YtkjimnhmiojcdaaProg
import Derived.Test.YtkjimnhmiojcdaaAmSev
set_option linter.unusedSimpArgs false
set_option linter.unusedVariables false
namespace Go.Proofs.Ytkjimnhmiojcdaa
open Go.Am
def c3 : ACode :=
  .seq (.reg [⟨some 4, .mv (.k (.bool false)), none⟩])
  (.seq (.seq (.reg [⟨some 18, .mv (.t 0), none⟩,
    ⟨some 19, .bin .lss (.t 18) (.k (.int .i64 1)), none⟩,
    ⟨some 20, .mv (.t 19), none⟩,
    ⟨some 21, .mv (.t 0), some (20, false)⟩,
    ⟨some 22, .bin .gtr (.t 21) (.k (.int .i64 60)), some (20, false)⟩,
    ⟨some 23, .pick (.t 20) (.k (.bool true)) (.t 22), none⟩,
    ⟨some 24, .mv (.t 23), none⟩,
    ⟨some 25, .mv (.t 1), some (24, false)⟩,
    ⟨some 26, .len (.t 25), some (24, false)⟩,
    ⟨some 27, .bin .gtr (.t 26) (.k (.int .i64 60)), some (24, false)⟩,
    ⟨some 28, .pick (.t 24) (.k (.bool true)) (.t 27), none⟩])
  (.cond (.t 28) (.seq (.reg [⟨some 29, .call (.k (.fn 4 [] [])) [], none⟩,
      ⟨some 4, .mv (.t 29), none⟩])
    (.ret))
    (.skip)))
  (.seq (.reg [⟨some 31, .mv (.t 0), none⟩,
    ⟨some 32, .mv (.t 1), none⟩,
    ⟨some 33, .call (.k (.fn 5 [] [])) [(.t 31), (.k (.int .i64 3)), (.t 32)], none⟩,
    ⟨some 30, .mv (.t 33), none⟩,
    ⟨some 34, .ext (.t 30) 0, none⟩,
    ⟨some 35, .ext (.t 30) 1, none⟩,
    ⟨some 5, .mv (.t 34), none⟩,
    ⟨some 6, .mv (.t 35), none⟩])
  (.seq (.seq (.reg [⟨some 36, .mv (.t 5), none⟩,
    ⟨some 37, .eqp false false (.t 36) (.k .nilp), none⟩])
  (.cond (.t 37) (.seq (.reg [⟨some 38, .mv (.t 6), none⟩,
      ⟨some 39, .eqp false false (.t 38) (.k .nilp), none⟩,
      ⟨some 40, .mv (.t 39), none⟩,
      ⟨some 41, .call (.k (.fn 4 [] [])) [], some (40, true)⟩,
      ⟨some 42, .pick (.t 40) (.t 41) (.k (.bool false)), none⟩,
      ⟨some 4, .mv (.t 42), none⟩])
    (.ret))
    (.skip)))
  (.seq (.reg [⟨some 44, .mv (.t 0), none⟩,
    ⟨some 45, .call (.k (.fn 6 [] [])) [(.t 44), (.k (.int .i64 3))], none⟩,
    ⟨some 43, .mv (.t 45), none⟩,
    ⟨some 46, .ext (.t 43) 0, none⟩,
    ⟨some 47, .ext (.t 43) 1, none⟩,
    ⟨some 7, .mv (.t 46), none⟩,
    ⟨some 8, .mv (.t 47), none⟩])
  (.seq (.reg [⟨some 49, .mv (.t 0), none⟩,
    ⟨some 50, .call (.k (.fn 7 [] [])) [(.t 49), (.k (.int .i64 3))], none⟩,
    ⟨some 48, .mv (.t 50), none⟩,
    ⟨some 51, .ext (.t 48) 0, none⟩,
    ⟨some 52, .ext (.t 48) 1, none⟩,
    ⟨some 9, .mv (.t 51), none⟩,
    ⟨some 10, .mv (.t 52), none⟩])
  (.seq (.seq (.reg [⟨some 53, .mv (.t 8), none⟩,
    ⟨some 54, .bin .neq (.t 53) (.k (.int .i64 0)), none⟩,
    ⟨some 55, .mv (.t 54), none⟩,
    ⟨some 56, .mv (.t 10), some (55, false)⟩,
    ⟨some 57, .bin .neq (.t 56) (.k (.int .i64 0)), some (55, false)⟩,
    ⟨some 58, .pick (.t 55) (.k (.bool true)) (.t 57), none⟩])
  (.cond (.t 58) (.seq (.reg [⟨some 4, .mv (.k (.bool false)), none⟩])
    (.ret))
    (.skip)))
  (.seq (.seq (.reg [⟨some 11, .mv (.k (.int .i64 0)), none⟩])
  (.block 0 (.loop (.seq (.seq (.reg [⟨some 59, .mv (.t 11), none⟩,
      ⟨some 60, .mv (.t 1), none⟩,
      ⟨some 61, .len (.t 60), none⟩,
      ⟨some 62, .bin .lss (.t 59) (.t 61), none⟩])
    (.cond (.t 62) (.skip)
      (.exit 0)))
    (.seq (.block 1 (.seq (.reg [⟨some 65, .mv (.t 1), none⟩,
       ⟨some 66, .mv (.t 11), none⟩,
       ⟨some 67, .iaddrS 5 (.t 65) (.t 66), none⟩,
       ⟨some 68, .load true 5 (.t 67), none⟩,
       ⟨some 12, .new [(.int .u8 0), (.int .i64 0), (.int .i64 0), (.int .i64 0), (.bool false)], none⟩,
       ⟨none, .store 5 (.t 12) (.t 68), none⟩])
     (.seq (.reg [⟨some 69, .faddr 0 (.t 12), none⟩,
       ⟨some 70, .load false 1 (.t 69), none⟩,
       ⟨some 71, .bin .rem (.t 70) (.k (.int .u8 10)), none⟩])
     (.block 2 (.seq (.seq (.reg [⟨some 73, .bin .eql (.t 71) (.k (.int .u8 0)), none⟩,
        ⟨some 72, .mv (.t 73), none⟩])
      (.cond (.t 72) (.skip)
        (.seq (.reg [⟨some 74, .bin .eql (.t 71) (.k (.int .u8 1)), none⟩,
          ⟨some 72, .mv (.t 74), none⟩])
        (.cond (.t 72) (.skip)
          (.reg [⟨some 75, .bin .eql (.t 71) (.k (.int .u8 2)), none⟩,
            ⟨some 72, .mv (.t 75), none⟩])))))
      (.cond (.t 72) (.seq (.reg [⟨some 76, .mv (.t 7), none⟩,
          ⟨some 77, .faddr 2 (.t 12), none⟩,
          ⟨some 78, .load false 1 (.t 77), none⟩,
          ⟨some 79, .faddr 3 (.t 12), none⟩,
          ⟨some 80, .load false 1 (.t 79), none⟩,
          ⟨some 81, .build [(.str ⟨#[]⟩), (.int .i64 0)] [(0, 1, (.k (.str ⟨#[116, 104, 105, 110, 103]⟩))), (1, 1, (.t 80))], none⟩,
          ⟨some 82, .faddr 4 (.t 12), none⟩,
          ⟨some 83, .load false 1 (.t 82), none⟩,
          ⟨some 84, .call (.k (.fn 8 [] [])) [(.t 76), (.t 78), (.t 81), (.t 83)], none⟩])
        (.regD [⟨some 85, .mv (.t 9), none⟩,
          ⟨some 86, .faddr 2 (.t 12), none⟩,
          ⟨some 87, .load false 1 (.t 86), none⟩,
          ⟨some 88, .mv (.t 1), none⟩,
          ⟨some 89, .mv (.t 11), none⟩,
          ⟨some 90, .iaddrS 5 (.t 88) (.t 89), none⟩,
          ⟨some 91, .faddr 3 (.t 90), none⟩,
          ⟨some 92, .faddr 4 (.t 12), none⟩,
          ⟨some 93, .load false 1 (.t 92), none⟩,
          ⟨some 94, .call (.k (.fn 9 [] [])) [(.t 85), (.t 87), (.t 91), (.t 93)], none⟩] [[], [], [1], [], [], [3, 4], [5], [], [7], [0, 2, 6, 8]]))
        (.seq (.reg [⟨some 96, .bin .eql (.t 71) (.k (.int .u8 3)), none⟩,
          ⟨some 95, .mv (.t 96), none⟩])
        (.cond (.t 95) (.seq (.reg [⟨some 97, .mv (.t 7), none⟩,
            ⟨some 98, .faddr 1 (.t 12), none⟩,
            ⟨some 99, .load false 1 (.t 98), none⟩,
            ⟨some 100, .faddr 3 (.t 12), none⟩,
            ⟨some 101, .load false 1 (.t 100), none⟩,
            ⟨some 102, .build [(.str ⟨#[]⟩), (.int .i64 0)] [(0, 1, (.k (.str ⟨#[116, 104, 105, 110, 103]⟩))), (1, 1, (.t 101))], none⟩,
            ⟨some 103, .call (.k (.fn 10 [] [])) [(.t 97), (.t 99), (.t 102)], none⟩])
          (.regD [⟨some 104, .mv (.t 9), none⟩,
            ⟨some 105, .faddr 1 (.t 12), none⟩,
            ⟨some 106, .load false 1 (.t 105), none⟩,
            ⟨some 107, .mv (.t 1), none⟩,
            ⟨some 108, .mv (.t 11), none⟩,
            ⟨some 109, .iaddrS 5 (.t 107) (.t 108), none⟩,
            ⟨some 110, .faddr 3 (.t 109), none⟩,
            ⟨some 111, .call (.k (.fn 11 [] [])) [(.t 104), (.t 106), (.t 110)], none⟩] [[], [], [1], [], [], [3, 4], [5], [0, 2, 6]]))
          (.seq (.reg [⟨some 113, .bin .eql (.t 71) (.k (.int .u8 4)), none⟩,
            ⟨some 112, .mv (.t 113), none⟩])
          (.cond (.t 112) (.seq (.reg [⟨some 114, .mv (.t 7), none⟩,
              ⟨some 115, .faddr 1 (.t 12), none⟩,
              ⟨some 116, .load false 1 (.t 115), none⟩,
              ⟨some 117, .call (.k (.fn 12 [] [])) [(.t 114), (.t 116)], none⟩])
            (.reg [⟨some 118, .mv (.t 9), none⟩,
              ⟨some 119, .faddr 1 (.t 12), none⟩,
              ⟨some 120, .load false 1 (.t 119), none⟩,
              ⟨some 121, .call (.k (.fn 13 [] [])) [(.t 118), (.t 120)], none⟩]))
            (.seq (.reg [⟨some 123, .bin .eql (.t 71) (.k (.int .u8 5)), none⟩,
              ⟨some 122, .mv (.t 123), none⟩])
            (.cond (.t 122) (.seq (.reg [⟨some 124, .mv (.t 7), none⟩,
                ⟨some 125, .faddr 1 (.t 12), none⟩,
                ⟨some 126, .load false 1 (.t 125), none⟩,
                ⟨some 127, .faddr 2 (.t 12), none⟩,
                ⟨some 128, .load false 1 (.t 127), none⟩,
                ⟨some 129, .faddr 4 (.t 12), none⟩,
                ⟨some 130, .load false 1 (.t 129), none⟩,
                ⟨some 131, .call (.k (.fn 14 [] [])) [(.t 124), (.t 126), (.t 128), (.t 130)], none⟩])
              (.reg [⟨some 132, .mv (.t 9), none⟩,
                ⟨some 133, .faddr 1 (.t 12), none⟩,
                ⟨some 134, .load false 1 (.t 133), none⟩,
                ⟨some 135, .faddr 2 (.t 12), none⟩,
                ⟨some 136, .load false 1 (.t 135), none⟩,
                ⟨some 137, .faddr 4 (.t 12), none⟩,
                ⟨some 138, .load false 1 (.t 137), none⟩,
                ⟨some 139, .call (.k (.fn 15 [] [])) [(.t 132), (.t 134), (.t 136), (.t 138)], none⟩]))
              (.seq (.reg [⟨some 141, .bin .eql (.t 71) (.k (.int .u8 6)), none⟩,
                ⟨some 140, .mv (.t 141), none⟩])
              (.cond (.t 140) (.seq (.reg [⟨some 142, .mv (.t 7), none⟩,
                  ⟨some 143, .faddr 1 (.t 12), none⟩,
                  ⟨some 144, .load false 1 (.t 143), none⟩,
                  ⟨some 145, .faddr 3 (.t 12), none⟩,
                  ⟨some 146, .load false 1 (.t 145), none⟩,
                  ⟨some 147, .build [(.str ⟨#[]⟩), (.int .i64 0)] [(0, 1, (.k (.str ⟨#[116, 104, 105, 110, 103]⟩))), (1, 1, (.t 146))], none⟩,
                  ⟨some 148, .call (.k (.fn 16 [] [])) [(.t 142), (.t 144), (.t 147)], none⟩])
                (.regD [⟨some 149, .mv (.t 9), none⟩,
                  ⟨some 150, .faddr 1 (.t 12), none⟩,
                  ⟨some 151, .load false 1 (.t 150), none⟩,
                  ⟨some 152, .mv (.t 1), none⟩,
                  ⟨some 153, .mv (.t 11), none⟩,
                  ⟨some 154, .iaddrS 5 (.t 152) (.t 153), none⟩,
                  ⟨some 155, .faddr 3 (.t 154), none⟩,
                  ⟨some 156, .call (.k (.fn 17 [] [])) [(.t 149), (.t 151), (.t 155)], none⟩] [[], [], [1], [], [], [3, 4], [5], [0, 2, 6]]))
                (.skip)))))))))))))))
    (.reg [⟨some 63, .mv (.t 11), none⟩,
      ⟨some 64, .bin .add (.t 63) (.k (.int .i64 1)), none⟩,
      ⟨some 11, .mv (.t 64), none⟩]))))))
  (.seq (.reg [⟨some 157, .mv (.t 5), none⟩,
    ⟨some 158, .call (.k (.fn 18 [] [])) [(.t 157)], none⟩,
    ⟨some 159, .mv (.t 7), none⟩,
    ⟨some 160, .call (.k (.fn 19 [] [])) [(.t 159)], none⟩,
    ⟨some 161, .mv (.t 9), none⟩,
    ⟨some 162, .call (.k (.fn 20 [] [])) [(.t 161)], none⟩,
    ⟨some 13, .new [.nils, .nils, .nils, .nils, .nils, .nils], none⟩,
    ⟨some 14, .new [.nils, .nils, .nils, .nils, .nils, .nils], none⟩,
    ⟨some 15, .new [.nils, .nils, .nils, .nils, .nils, .nils], none⟩,
    ⟨none, .store 6 (.t 13) (.t 158), none⟩,
    ⟨none, .store 6 (.t 14) (.t 160), none⟩,
    ⟨none, .store 6 (.t 15) (.t 162), none⟩])
  (.seq (.seq (.reg [⟨some 163, .faddr 0 (.t 14), none⟩,
    ⟨some 164, .load false 1 (.t 163), none⟩,
    ⟨some 165, .len (.t 164), none⟩,
    ⟨some 166, .faddr 0 (.t 13), none⟩,
    ⟨some 167, .load false 1 (.t 166), none⟩,
    ⟨some 168, .len (.t 167), none⟩,
    ⟨some 169, .bin .neq (.t 165) (.t 168), none⟩,
    ⟨some 170, .mv (.t 169), none⟩,
    ⟨some 171, .faddr 0 (.t 15), some (170, false)⟩,
    ⟨some 172, .load false 1 (.t 171), some (170, false)⟩,
    ⟨some 173, .len (.t 172), some (170, false)⟩,
    ⟨some 174, .faddr 0 (.t 13), some (170, false)⟩,
    ⟨some 175, .load false 1 (.t 174), some (170, false)⟩,
    ⟨some 176, .len (.t 175), some (170, false)⟩,
    ⟨some 177, .bin .neq (.t 173) (.t 176), some (170, false)⟩,
    ⟨some 178, .pick (.t 170) (.k (.bool true)) (.t 177), none⟩])
  (.cond (.t 178) (.seq (.reg [⟨some 4, .mv (.k (.bool false)), none⟩])
    (.ret))
    (.skip)))
  (.seq (.seq (.reg [⟨some 16, .mv (.k (.int .i64 0)), none⟩])
  (.block 3 (.loop (.seq (.seq (.reg [⟨some 179, .mv (.t 16), none⟩,
      ⟨some 180, .faddr 0 (.t 13), none⟩,
      ⟨some 181, .load false 1 (.t 180), none⟩,
      ⟨some 182, .len (.t 181), none⟩,
      ⟨some 183, .bin .lss (.t 179) (.t 182), none⟩])
    (.cond (.t 183) (.skip)
      (.exit 3)))
    (.seq (.block 4 (.seq (.reg [⟨some 186, .mv (.t 16), none⟩,
       ⟨some 187, .faddr 1 (.t 13), none⟩,
       ⟨some 188, .load false 1 (.t 187), none⟩,
       ⟨some 189, .len (.t 188), none⟩,
       ⟨some 190, .bin .lss (.t 186) (.t 189), none⟩,
       ⟨some 191, .mv (.t 190), none⟩,
       ⟨some 192, .faddr 1 (.t 13), some (191, true)⟩,
       ⟨some 193, .load false 1 (.t 192), some (191, true)⟩,
       ⟨some 194, .mv (.t 16), some (191, true)⟩,
       ⟨some 195, .iaddrS 1 (.t 193) (.t 194), some (191, true)⟩,
       ⟨some 196, .load false 1 (.t 195), some (191, true)⟩,
       ⟨some 197, .bin .geq (.t 196) (.k (.int .i64 0)), some (191, true)⟩,
       ⟨some 198, .pick (.t 191) (.t 197) (.k (.bool false)), none⟩,
       ⟨some 17, .mv (.t 198), none⟩])
     (.seq (.regD [⟨some 199, .mv (.t 17), none⟩,
       ⟨some 200, .mv (.t 199), none⟩,
       ⟨some 201, .faddr 0 (.t 14), some (200, true)⟩,
       ⟨some 202, .load false 1 (.t 201), some (200, true)⟩,
       ⟨some 203, .mv (.t 16), some (200, true)⟩,
       ⟨some 204, .iaddrS 2 (.t 202) (.t 203), some (200, true)⟩,
       ⟨some 205, .load true 2 (.t 204), some (200, true)⟩,
       ⟨some 206, .faddr 0 (.t 13), some (200, true)⟩,
       ⟨some 207, .load false 1 (.t 206), some (200, true)⟩,
       ⟨some 208, .mv (.t 16), some (200, true)⟩,
       ⟨some 209, .iaddrS 1 (.t 207) (.t 208), some (200, true)⟩,
       ⟨some 210, .load false 1 (.t 209), some (200, true)⟩,
       ⟨some 211, .build [(.str ⟨#[]⟩), (.int .i64 0)] [(0, 1, (.k (.str ⟨#[116, 104, 105, 110, 103]⟩))), (1, 1, (.t 210))], some (200, true)⟩,
       ⟨some 212, .eqs true [2, 0] (.t 205) (.t 211), some (200, true)⟩,
       ⟨some 213, .mv (.t 212), some (200, true)⟩,
       ⟨some 214, .faddr 0 (.t 15), some (213, false)⟩,
       ⟨some 215, .load false 1 (.t 214), some (213, false)⟩,
       ⟨some 216, .mv (.t 16), some (213, false)⟩,
       ⟨some 217, .iaddrS 1 (.t 215) (.t 216), some (213, false)⟩,
       ⟨some 218, .load false 1 (.t 217), some (213, false)⟩,
       ⟨some 219, .eqp false false (.t 218) (.k .nilp), some (213, false)⟩,
       ⟨some 220, .pick (.t 213) (.k (.bool true)) (.t 219), some (200, true)⟩,
       ⟨some 221, .mv (.t 220), some (200, true)⟩,
       ⟨some 222, .faddr 0 (.t 15), some (221, false)⟩,
       ⟨some 223, .load false 1 (.t 222), some (221, false)⟩,
       ⟨some 224, .mv (.t 16), some (221, false)⟩,
       ⟨some 225, .iaddrS 1 (.t 223) (.t 224), some (221, false)⟩,
       ⟨some 226, .load false 1 (.t 225), some (221, false)⟩,
       ⟨some 227, .nchk (.t 226), some (221, false)⟩,
       ⟨some 228, .load false 1 (.t 227), some (221, false)⟩,
       ⟨some 229, .faddr 0 (.t 13), some (221, false)⟩,
       ⟨some 230, .load false 1 (.t 229), some (221, false)⟩,
       ⟨some 231, .mv (.t 16), some (221, false)⟩,
       ⟨some 232, .iaddrS 1 (.t 230) (.t 231), some (221, false)⟩,
       ⟨some 233, .load false 1 (.t 232), some (221, false)⟩,
       ⟨some 234, .bin .neq (.t 228) (.t 233), some (221, false)⟩,
       ⟨some 235, .pick (.t 221) (.k (.bool true)) (.t 234), some (200, true)⟩,
       ⟨some 236, .pick (.t 200) (.t 235) (.k (.bool false)), none⟩,
       ⟨some 237, .mv (.t 236), none⟩,
       ⟨some 238, .mv (.t 17), some (237, false)⟩,
       ⟨some 239, .un .not (.t 238), some (237, false)⟩,
       ⟨some 240, .mv (.t 239), some (237, false)⟩,
       ⟨some 241, .faddr 0 (.t 14), some (240, true)⟩,
       ⟨some 242, .load false 1 (.t 241), some (240, true)⟩,
       ⟨some 243, .mv (.t 16), some (240, true)⟩,
       ⟨some 244, .iaddrS 2 (.t 242) (.t 243), some (240, true)⟩,
       ⟨some 245, .load true 2 (.t 244), some (240, true)⟩,
       ⟨some 246, .build [(.str ⟨#[]⟩), (.int .i64 0)] [], some (240, true)⟩,
       ⟨some 247, .eqs true [2, 0] (.t 245) (.t 246), some (240, true)⟩,
       ⟨some 248, .mv (.t 247), some (240, true)⟩,
       ⟨some 249, .faddr 0 (.t 15), some (248, false)⟩,
       ⟨some 250, .load false 1 (.t 249), some (248, false)⟩,
       ⟨some 251, .mv (.t 16), some (248, false)⟩,
       ⟨some 252, .iaddrS 1 (.t 250) (.t 251), some (248, false)⟩,
       ⟨some 253, .load false 1 (.t 252), some (248, false)⟩,
       ⟨some 254, .eqp true false (.t 253) (.k .nilp), some (248, false)⟩,
       ⟨some 255, .pick (.t 248) (.k (.bool true)) (.t 254), some (240, true)⟩,
       ⟨some 256, .pick (.t 240) (.t 255) (.k (.bool false)), some (237, false)⟩,
       ⟨some 257, .pick (.t 237) (.k (.bool true)) (.t 256), none⟩] [[], [0], [1], [2, 1], [1], [3, 4, 1], [5, 1], [1], [7, 1], [1], [8, 9, 1], [10, 1], [11, 1], [6, 12, 1], [13, 1, 1], [14], [15, 14], [14], [16, 17, 14], [18, 14], [19, 14], [14, 20, 1], [21, 14, 1], [22], [23, 22], [22], [24, 25, 22], [26, 22], [27, 22], [28, 22], [22], [30, 22], [22], [31, 32, 22], [33, 22], [29, 34, 22], [22, 35, 1], [1, 36], [37, 22], [38], [39, 38], [40, 38, 38], [41], [42, 41], [41], [43, 44, 41], [45, 41], [41], [46, 47, 41], [48, 41, 41], [49], [50, 49], [49], [51, 52, 49], [53, 49], [54, 49], [49, 55, 41], [41, 56, 38], [38, 57]])
     (.cond (.t 257) (.seq (.reg [⟨some 4, .mv (.k (.bool false)), none⟩])
       (.ret))
       (.skip)))))
    (.reg [⟨some 184, .mv (.t 16), none⟩,
      ⟨some 185, .bin .add (.t 184) (.k (.int .i64 1)), none⟩,
      ⟨some 16, .mv (.t 185), none⟩]))))))
  (.seq (.reg [⟨some 258, .load true 6 (.t 13), none⟩,
    ⟨some 259, .faddr 0 (.t 13), none⟩,
    ⟨some 260, .load false 1 (.t 259), none⟩,
    ⟨some 261, .faddr 1 (.t 14), none⟩,
    ⟨some 262, .load false 1 (.t 261), none⟩,
    ⟨some 263, .faddr 2 (.t 14), none⟩,
    ⟨some 264, .load false 1 (.t 263), none⟩,
    ⟨some 265, .faddr 3 (.t 14), none⟩,
    ⟨some 266, .load false 1 (.t 265), none⟩,
    ⟨some 267, .faddr 4 (.t 14), none⟩,
    ⟨some 268, .load false 1 (.t 267), none⟩,
    ⟨some 269, .faddr 5 (.t 14), none⟩,
    ⟨some 270, .load false 1 (.t 269), none⟩,
    ⟨some 271, .build [.nils, .nils, .nils, .nils, .nils, .nils] [(0, 1, (.t 260)), (1, 1, (.t 262)), (2, 1, (.t 264)), (3, 1, (.t 266)), (4, 1, (.t 268)), (5, 1, (.t 270))], none⟩,
    ⟨some 272, .call (.k (.fn 21 [] [])) [(.t 258), (.t 271)], none⟩,
    ⟨some 273, .mv (.t 272), none⟩,
    ⟨some 274, .faddr 1 (.t 15), some (273, true)⟩,
    ⟨some 275, .load false 1 (.t 274), some (273, true)⟩,
    ⟨some 276, .faddr 1 (.t 14), some (273, true)⟩,
    ⟨some 277, .load false 1 (.t 276), some (273, true)⟩,
    ⟨some 278, .call (.k (.fn 22 [] [])) [(.t 275), (.t 277)], some (273, true)⟩,
    ⟨some 279, .pick (.t 273) (.t 278) (.k (.bool false)), none⟩,
    ⟨some 280, .mv (.t 279), none⟩,
    ⟨some 281, .faddr 2 (.t 15), some (280, true)⟩,
    ⟨some 282, .load false 1 (.t 281), some (280, true)⟩,
    ⟨some 283, .faddr 2 (.t 14), some (280, true)⟩,
    ⟨some 284, .load false 1 (.t 283), some (280, true)⟩,
    ⟨some 285, .call (.k (.fn 22 [] [])) [(.t 282), (.t 284)], some (280, true)⟩,
    ⟨some 286, .pick (.t 280) (.t 285) (.k (.bool false)), none⟩,
    ⟨some 287, .mv (.t 286), none⟩,
    ⟨some 288, .faddr 3 (.t 15), some (287, true)⟩,
    ⟨some 289, .load false 1 (.t 288), some (287, true)⟩,
    ⟨some 290, .faddr 3 (.t 14), some (287, true)⟩,
    ⟨some 291, .load false 1 (.t 290), some (287, true)⟩,
    ⟨some 292, .call (.k (.fn 22 [] [])) [(.t 289), (.t 291)], some (287, true)⟩,
    ⟨some 293, .pick (.t 287) (.t 292) (.k (.bool false)), none⟩,
    ⟨some 294, .mv (.t 293), none⟩,
    ⟨some 295, .call (.k (.fn 4 [] [])) [], some (294, true)⟩,
    ⟨some 296, .pick (.t 294) (.t 295) (.k (.bool false)), none⟩,
    ⟨some 4, .mv (.t 296), none⟩])
  (.ret))))))))))))
theorem b3 : Body Try.prog 3 c3 [.tmp 4] 297 := ⟨by kernel_rfl, _, _, Try.func3, rfl, by kernel_rfl, by kernel_rfl, rfl⟩
def c4 : ACode :=
  .seq (.reg [⟨some 0, .mv (.k (.bool false)), none⟩])
  (.seq (.reg [⟨some 9, .call (.k (.fn 23 [] [])) [], none⟩,
    ⟨some 1, .mv (.t 9), none⟩])
  (.seq (.seq (.reg [⟨some 10, .mv (.t 1), none⟩,
    ⟨some 11, .eqp false false (.t 10) (.k .nilp), none⟩])
  (.cond (.t 11) (.seq (.reg [⟨some 0, .mv (.k (.bool false)), none⟩])
    (.ret))
    (.skip)))
  (.seq (.reg [⟨some 13, .mv (.t 1), none⟩,
    ⟨some 14, .call (.k (.fn 24 [] [])) [(.t 13), (.k (.int .i64 1)), (.k (.int .i64 5)), (.k (.bool false))], none⟩,
    ⟨some 12, .mv (.t 14), none⟩,
    ⟨some 15, .ext (.t 12) 0, none⟩,
    ⟨some 16, .ext (.t 12) 1, none⟩,
    ⟨some 2, .mv (.t 15), none⟩,
    ⟨some 3, .mv (.t 16), none⟩])
  (.seq (.reg [⟨some 18, .mv (.t 1), none⟩,
    ⟨some 19, .call (.k (.fn 25 [] [])) [(.t 18), (.k (.int .i64 0))], none⟩,
    ⟨some 17, .mv (.t 19), none⟩,
    ⟨some 20, .ext (.t 17) 0, none⟩,
    ⟨some 21, .ext (.t 17) 1, none⟩,
    ⟨some 4, .mv (.t 20), none⟩,
    ⟨some 5, .mv (.t 21), none⟩])
  (.seq (.reg [⟨some 23, .mv (.t 1), none⟩,
    ⟨some 24, .call (.k (.fn 24 [] [])) [(.t 23), (.k (.int .i64 1)), (.k (.int .i64 4)), (.k (.bool true))], none⟩,
    ⟨some 22, .mv (.t 24), none⟩,
    ⟨some 25, .ext (.t 22) 0, none⟩,
    ⟨some 26, .ext (.t 22) 1, none⟩,
    ⟨some 6, .mv (.t 25), none⟩,
    ⟨some 7, .mv (.t 26), none⟩])
  (.seq (.reg [⟨some 27, .bslice 1 3 [(.int .i64 0), (.int .i64 0), (.int .i64 0)] [(0, 1, (.k (.int .i64 4))), (1, 1, (.k (.int .i64 8))), (2, 1, (.k (.int .i64 9)))], none⟩,
    ⟨some 28, .bslice 1 3 [(.int .i64 0), (.int .i64 0), (.int .i64 0)] [(0, 1, (.k (.int .i64 1))), (1, 1, (.k (.int .i64 0))), (2, 1, (.k (.int .i64 0)))], none⟩,
    ⟨some 29, .bslice 1 3 [(.int .i64 0), (.int .i64 0), (.int .i64 0)] [(0, 1, (.k (.int .i64 (-1)))), (1, 1, (.k (.int .i64 (-1)))), (2, 1, (.k (.int .i64 1)))], none⟩,
    ⟨some 30, .bslice 1 3 [(.int .i64 0), (.int .i64 0), (.int .i64 0)] [(0, 1, (.k (.int .i64 (-1)))), (1, 1, (.k (.int .i64 2))), (2, 1, (.k (.int .i64 (-1))))], none⟩,
    ⟨some 31, .bslice 1 2 [(.int .i64 0), (.int .i64 0)] [(0, 1, (.k (.int .i64 2))), (1, 1, (.k (.int .i64 0)))], none⟩,
    ⟨some 32, .bslice 1 2 [(.int .i64 0), (.int .i64 0)] [(0, 1, (.k (.int .i64 1))), (1, 1, (.k (.int .i64 0)))], none⟩,
    ⟨some 33, .build [.nils, .nils, .nils, .nils, .nils, .nils] [(0, 1, (.t 27)), (1, 1, (.t 28)), (2, 1, (.t 29)), (3, 1, (.t 30)), (4, 1, (.t 31)), (5, 1, (.t 32))], none⟩,
    ⟨some 8, .new [.nils, .nils, .nils, .nils, .nils, .nils], none⟩,
    ⟨none, .store 6 (.t 8) (.t 33), none⟩])
  (.seq (.regD [⟨some 34, .mv (.t 3), none⟩,
    ⟨some 35, .bin .eql (.t 34) (.k (.int .i64 5)), none⟩,
    ⟨some 36, .mv (.t 35), none⟩,
    ⟨some 37, .mv (.t 5), some (36, true)⟩,
    ⟨some 38, .bin .eql (.t 37) (.k (.int .i64 0)), some (36, true)⟩,
    ⟨some 39, .pick (.t 36) (.t 38) (.k (.bool false)), none⟩,
    ⟨some 40, .mv (.t 39), none⟩,
    ⟨some 41, .mv (.t 7), some (40, true)⟩,
    ⟨some 42, .bin .eql (.t 41) (.k (.int .i64 0)), some (40, true)⟩,
    ⟨some 43, .pick (.t 40) (.t 42) (.k (.bool false)), none⟩,
    ⟨some 44, .mv (.t 43), none⟩,
    ⟨some 45, .mv (.t 4), some (44, true)⟩,
    ⟨some 46, .bin .eql (.t 45) (.k (.int .i64 7)), some (44, true)⟩,
    ⟨some 47, .pick (.t 44) (.t 46) (.k (.bool false)), none⟩,
    ⟨some 48, .mv (.t 47), none⟩,
    ⟨some 49, .mv (.t 6), some (48, true)⟩,
    ⟨some 50, .bin .eql (.t 49) (.k (.int .i64 0)), some (48, true)⟩,
    ⟨some 51, .pick (.t 48) (.t 50) (.k (.bool false)), none⟩,
    ⟨some 52, .mv (.t 51), none⟩,
    ⟨some 53, .mv (.t 1), some (52, true)⟩,
    ⟨some 54, .call (.k (.fn 18 [] [])) [(.t 53)], some (52, true)⟩,
    ⟨some 55, .load true 6 (.t 8), some (52, true)⟩,
    ⟨some 56, .call (.k (.fn 21 [] [])) [(.t 54), (.t 55)], some (52, true)⟩,
    ⟨some 57, .pick (.t 52) (.t 56) (.k (.bool false)), none⟩,
    ⟨some 0, .mv (.t 57), none⟩] [[], [0], [1], [2], [3, 2], [2, 4], [5, 2], [6], [7, 6], [6, 8], [9, 6], [10], [11, 10], [10, 12], [13, 10], [14], [15, 14], [14, 16], [17, 14], [18], [19, 18, 18], [18], [20, 21, 20, 18], [18, 22], [23, 22, 0, 1, 2, 3, 4, 5, 6, 7, 8, 9, 10, 11, 12, 13, 14, 15, 16, 17, 18, 19, 20, 21, 22, 23]])
  (.ret))))))))
theorem b4 : Body Try.prog 4 c4 [.tmp 0] 58 := ⟨by kernel_rfl, _, _, Try.func4, rfl, by kernel_rfl, by kernel_rfl, rfl⟩
def c5 : ACode :=
  .seq (.reg [⟨some 6, .mv (.k .nilp), none⟩,
    ⟨some 7, .mv (.k .nilp), none⟩])
  (.seq (.reg [⟨some 14, .mv (.t 0), none⟩,
    ⟨some 15, .mv (.t 1), none⟩,
    ⟨some 16, .call (.k (.fn 26 [] [])) [(.t 14), (.t 15)], none⟩,
    ⟨some 13, .mv (.t 16), none⟩,
    ⟨some 17, .ext (.t 13) 0, none⟩,
    ⟨some 18, .ext (.t 13) 1, none⟩,
    ⟨some 8, .mv (.t 17), none⟩,
    ⟨some 9, .mv (.t 18), none⟩])
  (.seq (.reg [⟨some 20, .mv (.t 0), none⟩,
    ⟨some 21, .mv (.t 1), none⟩,
    ⟨some 22, .call (.k (.fn 27 [] [])) [(.t 20), (.t 21)], none⟩,
    ⟨some 19, .mv (.t 22), none⟩,
    ⟨some 23, .ext (.t 19) 0, none⟩,
    ⟨some 24, .ext (.t 19) 1, none⟩,
    ⟨some 10, .new [(.int .i64 0), .nils, .nils], none⟩,
    ⟨none, .store 3 (.t 10) (.t 23), none⟩,
    ⟨some 11, .mv (.t 24), none⟩])
  (.seq (.seq (.reg [⟨some 25, .mv (.t 9), none⟩,
    ⟨some 26, .bin .neq (.t 25) (.k (.int .i64 0)), none⟩,
    ⟨some 27, .mv (.t 26), none⟩,
    ⟨some 28, .mv (.t 11), some (27, false)⟩,
    ⟨some 29, .bin .neq (.t 28) (.k (.int .i64 0)), some (27, false)⟩,
    ⟨some 30, .pick (.t 27) (.k (.bool true)) (.t 29), none⟩])
  (.cond (.t 30) (.seq (.reg [⟨some 6, .mv (.k .nilp), none⟩,
      ⟨some 7, .mv (.k .nilp), none⟩])
    (.ret))
    (.skip)))
  (.seq (.seq (.reg [⟨some 12, .mv (.k (.int .i64 0)), none⟩])
  (.block 0 (.loop (.seq (.seq (.reg [⟨some 31, .mv (.t 12), none⟩,
      ⟨some 32, .mv (.t 2), none⟩,
      ⟨some 33, .len (.t 32), none⟩,
      ⟨some 34, .bin .lss (.t 31) (.t 33), none⟩])
    (.cond (.t 34) (.skip)
      (.exit 0)))
    (.seq (.block 1 (.seq (.reg [⟨some 37, .mv (.t 8), none⟩,
       ⟨some 38, .mv (.t 2), none⟩,
       ⟨some 39, .mv (.t 12), none⟩,
       ⟨some 40, .iaddrS 5 (.t 38) (.t 39), none⟩,
       ⟨some 41, .load true 5 (.t 40), none⟩,
       ⟨some 42, .call (.k (.fn 28 [] [])) [(.t 37), (.t 10), (.t 41)], none⟩,
       ⟨some 43, .un .not (.t 42), none⟩])
     (.cond (.t 43) (.seq (.reg [⟨some 6, .mv (.k .nilp), none⟩,
         ⟨some 7, .mv (.t 10), none⟩])
       (.ret))
       (.skip))))
    (.reg [⟨some 35, .mv (.t 12), none⟩,
      ⟨some 36, .bin .add (.t 35) (.k (.int .i64 1)), none⟩,
      ⟨some 12, .mv (.t 36), none⟩]))))))
  (.seq (.reg [⟨some 44, .mv (.t 8), none⟩,
    ⟨some 6, .mv (.t 44), none⟩,
    ⟨some 7, .mv (.t 10), none⟩])
  (.ret))))))
theorem b5 : Body Try.prog 5 c5 [.tmp 6, .tmp 7] 45 := ⟨by kernel_rfl, _, _, Try.func5, rfl, by kernel_rfl, by kernel_rfl, rfl⟩
def c6 : ACode :=
  .seq (.reg [⟨some 4, .mv (.k .nilp), none⟩,
    ⟨some 5, .mv (.k (.int .i64 0)), none⟩])
  (.seq (.seq (.reg [⟨some 6, .mv (.t 0), none⟩,
    ⟨some 7, .bin .lss (.t 6) (.k (.int .i64 1)), none⟩,
    ⟨some 8, .mv (.t 7), none⟩,
    ⟨some 9, .mv (.t 0), some (8, false)⟩,
    ⟨some 10, .bin .gtr (.t 9) (.k (.int .i64 2000)), some (8, false)⟩,
    ⟨some 11, .pick (.t 8) (.k (.bool true)) (.t 10), none⟩,
    ⟨some 12, .mv (.t 11), none⟩,
    ⟨some 13, .mv (.t 1), some (12, false)⟩,
    ⟨some 14, .bin .lss (.t 13) (.k (.int .i64 1)), some (12, false)⟩,
    ⟨some 15, .pick (.t 12) (.k (.bool true)) (.t 14), none⟩,
    ⟨some 16, .mv (.t 15), none⟩,
    ⟨some 17, .mv (.t 1), some (16, false)⟩,
    ⟨some 18, .bin .gtr (.t 17) (.k (.int .i64 64)), some (16, false)⟩,
    ⟨some 19, .pick (.t 16) (.k (.bool true)) (.t 18), none⟩])
  (.cond (.t 19) (.seq (.reg [⟨some 4, .mv (.k .nilp), none⟩,
      ⟨some 5, .mv (.k (.int .i64 7)), none⟩])
    (.ret))
    (.skip)))
  (.seq (.reg [⟨some 20, .mv (.t 0), none⟩,
    ⟨some 21, .mv (.t 1), none⟩,
    ⟨some 22, .call (.k (.fn 29 [] [])) [(.t 20), (.t 21)], none⟩,
    ⟨some 4, .mv (.t 22), none⟩,
    ⟨some 5, .mv (.k (.int .i64 0)), none⟩])
  (.ret)))
theorem b6 : Body Try.prog 6 c6 [.tmp 4, .tmp 5] 23 := ⟨by kernel_rfl, _, _, Try.func6, rfl, by kernel_rfl, by kernel_rfl, rfl⟩
def c7 : ACode :=
  .seq (.reg [⟨some 4, .mv (.k .nilp), none⟩,
    ⟨some 5, .mv (.k (.int .i64 0)), none⟩])
  (.seq (.seq (.reg [⟨some 6, .mv (.t 0), none⟩,
    ⟨some 7, .bin .lss (.t 6) (.k (.int .i64 1)), none⟩,
    ⟨some 8, .mv (.t 7), none⟩,
    ⟨some 9, .mv (.t 0), some (8, false)⟩,
    ⟨some 10, .bin .gtr (.t 9) (.k (.int .i64 2000)), some (8, false)⟩,
    ⟨some 11, .pick (.t 8) (.k (.bool true)) (.t 10), none⟩,
    ⟨some 12, .mv (.t 11), none⟩,
    ⟨some 13, .mv (.t 1), some (12, false)⟩,
    ⟨some 14, .bin .lss (.t 13) (.k (.int .i64 1)), some (12, false)⟩,
    ⟨some 15, .pick (.t 12) (.k (.bool true)) (.t 14), none⟩,
    ⟨some 16, .mv (.t 15), none⟩,
    ⟨some 17, .mv (.t 1), some (16, false)⟩,
    ⟨some 18, .bin .gtr (.t 17) (.k (.int .i64 64)), some (16, false)⟩,
    ⟨some 19, .pick (.t 16) (.k (.bool true)) (.t 18), none⟩])
  (.cond (.t 19) (.seq (.reg [⟨some 4, .mv (.k .nilp), none⟩,
      ⟨some 5, .mv (.k (.int .i64 7)), none⟩])
    (.ret))
    (.skip)))
  (.seq (.reg [⟨some 20, .mv (.t 0), none⟩,
    ⟨some 21, .mv (.t 1), none⟩,
    ⟨some 22, .call (.k (.fn 30 [] [])) [(.t 20), (.t 21)], none⟩,
    ⟨some 4, .mv (.t 22), none⟩,
    ⟨some 5, .mv (.k (.int .i64 0)), none⟩])
  (.ret)))
theorem b7 : Body Try.prog 7 c7 [.tmp 4, .tmp 5] 23 := ⟨by kernel_rfl, _, _, Try.func7, rfl, by kernel_rfl, by kernel_rfl, rfl⟩
def c8 : ACode :=
  .seq (.reg [⟨some 6, .box (.t 2), none⟩,
    ⟨some 8, .mv (.k (.int .i64 0)), none⟩,
    ⟨some 9, .mv (.k (.int .i64 0)), none⟩])
  (.seq (.seq (.reg [⟨some 11, .mv (.t 0), none⟩,
    ⟨some 12, .mv (.t 1), none⟩,
    ⟨some 13, .call (.k (.fn 31 [] [])) [(.t 11), (.t 12)], none⟩,
    ⟨some 10, .mv (.t 13), none⟩])
  (.seq (.reg [⟨some 14, .mv (.t 10), none⟩,
    ⟨some 15, .bin .neq (.t 14) (.k (.int .i64 0)), none⟩])
  (.cond (.t 15) (.seq (.reg [⟨some 16, .mv (.t 10), none⟩,
      ⟨some 8, .mv (.k (.int .i64 0)), none⟩,
      ⟨some 9, .mv (.t 16), none⟩])
    (.ret))
    (.skip))))
  (.seq (.reg [⟨some 17, .mv (.t 0), none⟩,
    ⟨some 18, .call (.k (.fn 32 [] [])) [(.t 17)], none⟩,
    ⟨some 8, .mv (.t 18), none⟩])
  (.seq (.seq (.reg [⟨some 19, .mv (.t 8), none⟩,
    ⟨some 20, .bin .eql (.t 19) (.k (.int .i64 (-1))), none⟩])
  (.cond (.t 20) (.seq (.reg [⟨some 8, .mv (.k (.int .i64 0)), none⟩,
      ⟨some 9, .mv (.k (.int .i64 5)), none⟩])
    (.ret))
    (.skip)))
  (.seq (.regD [⟨some 21, .mv (.t 0), none⟩,
    ⟨some 22, .nchk (.t 21), none⟩,
    ⟨some 23, .faddr 0 (.t 22), none⟩,
    ⟨some 24, .load false 1 (.t 23), none⟩,
    ⟨some 25, .mv (.t 8), none⟩,
    ⟨some 26, .load true 2 (.t 6), none⟩,
    ⟨some 27, .iaddrS 5 (.t 24) (.t 25), none⟩,
    ⟨some 28, .faddr 0 (.t 27), none⟩,
    ⟨none, .store 2 (.t 28) (.t 26), none⟩] [[], [0], [1], [2], [], [], [3, 4, 0, 1, 2, 3, 4, 5], [6, 0, 1, 2, 3, 4, 5], [7, 5, 0, 1, 2, 3, 4, 5]])
  (.seq (.reg [⟨some 29, .mv (.t 0), none⟩,
    ⟨some 30, .mv (.t 8), none⟩,
    ⟨some 31, .mv (.t 1), none⟩,
    ⟨some 32, .mv (.t 3), none⟩,
    ⟨some 33, .call (.k (.fn 33 [] [])) [(.t 29), (.t 30), (.t 31), (.t 32)], none⟩])
  (.seq (.reg [⟨some 34, .mv (.t 8), none⟩,
    ⟨some 8, .mv (.t 34), none⟩,
    ⟨some 9, .mv (.k (.int .i64 0)), none⟩])
  (.ret)))))))
theorem b8 : Body Try.prog 8 c8 [.tmp 8, .tmp 9] 35 := ⟨by kernel_rfl, _, _, Try.func8, rfl, by kernel_rfl, by kernel_rfl, rfl⟩
def c9 : ACode :=
  .seq (.reg [⟨some 8, .mv (.k (.int .i64 0)), none⟩,
    ⟨some 9, .mv (.k (.int .i64 0)), none⟩])
  (.seq (.seq (.reg [⟨some 11, .mv (.t 0), none⟩,
    ⟨some 12, .mv (.t 1), none⟩,
    ⟨some 13, .call (.k (.fn 34 [] [])) [(.t 11), (.t 12)], none⟩,
    ⟨some 10, .mv (.t 13), none⟩])
  (.seq (.reg [⟨some 14, .mv (.t 10), none⟩,
    ⟨some 15, .bin .neq (.t 14) (.k (.int .i64 0)), none⟩])
  (.cond (.t 15) (.seq (.reg [⟨some 16, .mv (.t 10), none⟩,
      ⟨some 8, .mv (.k (.int .i64 0)), none⟩,
      ⟨some 9, .mv (.t 16), none⟩])
    (.ret))
    (.skip))))
  (.seq (.reg [⟨some 17, .mv (.t 0), none⟩,
    ⟨some 18, .call (.k (.fn 35 [] [])) [(.t 17)], none⟩,
    ⟨some 8, .mv (.t 18), none⟩])
  (.seq (.seq (.reg [⟨some 19, .mv (.t 8), none⟩,
    ⟨some 20, .bin .eql (.t 19) (.k (.int .i64 (-1))), none⟩])
  (.cond (.t 20) (.seq (.reg [⟨some 8, .mv (.k (.int .i64 0)), none⟩,
      ⟨some 9, .mv (.k (.int .i64 5)), none⟩])
    (.ret))
    (.skip)))
  (.seq (.reg [⟨some 21, .mv (.t 0), none⟩,
    ⟨some 22, .nchk (.t 21), none⟩,
    ⟨some 23, .faddr 0 (.t 22), none⟩,
    ⟨some 24, .load false 1 (.t 23), none⟩,
    ⟨some 25, .mv (.t 8), none⟩,
    ⟨some 26, .mv (.t 2), none⟩,
    ⟨some 27, .iaddrS 4 (.t 24) (.t 25), none⟩,
    ⟨some 28, .faddr 0 (.t 27), none⟩,
    ⟨none, .store 1 (.t 28) (.t 26), none⟩])
  (.seq (.reg [⟨some 29, .mv (.t 0), none⟩,
    ⟨some 30, .mv (.t 8), none⟩,
    ⟨some 31, .mv (.t 1), none⟩,
    ⟨some 32, .mv (.t 3), none⟩,
    ⟨some 33, .call (.k (.fn 36 [] [])) [(.t 29), (.t 30), (.t 31), (.t 32)], none⟩])
  (.seq (.reg [⟨some 34, .mv (.t 8), none⟩,
    ⟨some 8, .mv (.t 34), none⟩,
    ⟨some 9, .mv (.k (.int .i64 0)), none⟩])
  (.ret)))))))
theorem b9 : Body Try.prog 9 c9 [.tmp 8, .tmp 9] 35 := ⟨by kernel_rfl, _, _, Try.func9, rfl, by kernel_rfl, by kernel_rfl, rfl⟩
def c10 : ACode :=
  .seq (.reg [⟨some 5, .box (.t 2), none⟩,
    ⟨some 6, .mv (.k (.int .i64 0)), none⟩,
    ⟨some 7, .mv (.k (.int .i64 0)), none⟩])
  (.seq (.seq (.reg [⟨some 10, .mv (.t 0), none⟩,
    ⟨some 11, .mv (.t 1), none⟩,
    ⟨some 12, .call (.k (.fn 37 [] [])) [(.t 10), (.t 11)], none⟩,
    ⟨some 8, .mv (.t 12), none⟩])
  (.seq (.reg [⟨some 13, .mv (.t 8), none⟩,
    ⟨some 14, .bin .neq (.t 13) (.k (.int .i64 0)), none⟩])
  (.cond (.t 14) (.seq (.reg [⟨some 15, .mv (.t 8), none⟩,
      ⟨some 6, .mv (.k (.int .i64 0)), none⟩,
      ⟨some 7, .mv (.t 15), none⟩])
    (.ret))
    (.skip))))
  (.seq (.reg [⟨some 16, .mv (.t 0), none⟩,
    ⟨some 17, .call (.k (.fn 32 [] [])) [(.t 16)], none⟩,
    ⟨some 6, .mv (.t 17), none⟩])
  (.seq (.seq (.reg [⟨some 18, .mv (.t 6), none⟩,
    ⟨some 19, .bin .eql (.t 18) (.k (.int .i64 (-1))), none⟩])
  (.cond (.t 19) (.seq (.reg [⟨some 6, .mv (.k (.int .i64 0)), none⟩,
      ⟨some 7, .mv (.k (.int .i64 5)), none⟩])
    (.ret))
    (.skip)))
  (.seq (.regD [⟨some 20, .mv (.t 0), none⟩,
    ⟨some 21, .nchk (.t 20), none⟩,
    ⟨some 22, .faddr 0 (.t 21), none⟩,
    ⟨some 23, .load false 1 (.t 22), none⟩,
    ⟨some 24, .mv (.t 6), none⟩,
    ⟨some 25, .load true 2 (.t 5), none⟩,
    ⟨some 26, .iaddrS 5 (.t 23) (.t 24), none⟩,
    ⟨some 27, .faddr 0 (.t 26), none⟩,
    ⟨none, .store 2 (.t 27) (.t 25), none⟩] [[], [0], [1], [2], [], [], [3, 4, 0, 1, 2, 3, 4, 5], [6, 0, 1, 2, 3, 4, 5], [7, 5, 0, 1, 2, 3, 4, 5]])
  (.seq (.reg [⟨some 28, .mv (.t 0), none⟩,
    ⟨some 29, .nchk (.t 28), none⟩,
    ⟨some 30, .faddr 0 (.t 29), none⟩,
    ⟨some 31, .load false 1 (.t 30), none⟩,
    ⟨some 32, .mv (.t 1), none⟩,
    ⟨some 33, .iaddrS 5 (.t 31) (.t 32), none⟩,
    ⟨some 9, .mv (.t 33), none⟩])
  (.seq (.regD [⟨some 34, .mv (.t 0), none⟩,
    ⟨some 35, .mv (.t 6), none⟩,
    ⟨some 36, .mv (.t 9), none⟩,
    ⟨some 37, .nchk (.t 36), none⟩,
    ⟨some 38, .faddr 2 (.t 37), none⟩,
    ⟨some 39, .load false 1 (.t 38), none⟩,
    ⟨some 40, .mv (.t 1), none⟩,
    ⟨some 41, .mv (.t 9), none⟩,
    ⟨some 42, .nchk (.t 41), none⟩,
    ⟨some 43, .faddr 3 (.t 42), none⟩,
    ⟨some 44, .load false 1 (.t 43), none⟩,
    ⟨some 45, .call (.k (.fn 38 [] [])) [(.t 34), (.t 35), (.t 39), (.t 40), (.t 44)], none⟩] [[], [], [], [2], [3], [4], [], [], [7], [8], [9], [0, 1, 5, 6, 10]])
  (.seq (.reg [⟨some 46, .mv (.t 6), none⟩,
    ⟨some 6, .mv (.t 46), none⟩,
    ⟨some 7, .mv (.k (.int .i64 0)), none⟩])
  (.ret))))))))
theorem b10 : Body Try.prog 10 c10 [.tmp 6, .tmp 7] 47 := ⟨by kernel_rfl, _, _, Try.func10, rfl, by kernel_rfl, by kernel_rfl, rfl⟩
def c11 : ACode :=
  .seq (.reg [⟨some 6, .mv (.k (.int .i64 0)), none⟩,
    ⟨some 7, .mv (.k (.int .i64 0)), none⟩])
  (.seq (.seq (.reg [⟨some 10, .mv (.t 0), none⟩,
    ⟨some 11, .mv (.t 1), none⟩,
    ⟨some 12, .call (.k (.fn 39 [] [])) [(.t 10), (.t 11)], none⟩,
    ⟨some 8, .mv (.t 12), none⟩])
  (.seq (.reg [⟨some 13, .mv (.t 8), none⟩,
    ⟨some 14, .bin .neq (.t 13) (.k (.int .i64 0)), none⟩])
  (.cond (.t 14) (.seq (.reg [⟨some 15, .mv (.t 8), none⟩,
      ⟨some 6, .mv (.k (.int .i64 0)), none⟩,
      ⟨some 7, .mv (.t 15), none⟩])
    (.ret))
    (.skip))))
  (.seq (.reg [⟨some 16, .mv (.t 0), none⟩,
    ⟨some 17, .call (.k (.fn 35 [] [])) [(.t 16)], none⟩,
    ⟨some 6, .mv (.t 17), none⟩])
  (.seq (.seq (.reg [⟨some 18, .mv (.t 6), none⟩,
    ⟨some 19, .bin .eql (.t 18) (.k (.int .i64 (-1))), none⟩])
  (.cond (.t 19) (.seq (.reg [⟨some 6, .mv (.k (.int .i64 0)), none⟩,
      ⟨some 7, .mv (.k (.int .i64 5)), none⟩])
    (.ret))
    (.skip)))
  (.seq (.reg [⟨some 20, .mv (.t 0), none⟩,
    ⟨some 21, .nchk (.t 20), none⟩,
    ⟨some 22, .faddr 0 (.t 21), none⟩,
    ⟨some 23, .load false 1 (.t 22), none⟩,
    ⟨some 24, .mv (.t 6), none⟩,
    ⟨some 25, .mv (.t 2), none⟩,
    ⟨some 26, .iaddrS 4 (.t 23) (.t 24), none⟩,
    ⟨some 27, .faddr 0 (.t 26), none⟩,
    ⟨none, .store 1 (.t 27) (.t 25), none⟩])
  (.seq (.reg [⟨some 28, .mv (.t 0), none⟩,
    ⟨some 29, .nchk (.t 28), none⟩,
    ⟨some 30, .faddr 0 (.t 29), none⟩,
    ⟨some 31, .load false 1 (.t 30), none⟩,
    ⟨some 32, .mv (.t 1), none⟩,
    ⟨some 33, .iaddrS 4 (.t 31) (.t 32), none⟩,
    ⟨some 9, .mv (.t 33), none⟩])
  (.seq (.regD [⟨some 34, .mv (.t 0), none⟩,
    ⟨some 35, .mv (.t 6), none⟩,
    ⟨some 36, .mv (.t 9), none⟩,
    ⟨some 37, .nchk (.t 36), none⟩,
    ⟨some 38, .faddr 1 (.t 37), none⟩,
    ⟨some 39, .load false 1 (.t 38), none⟩,
    ⟨some 40, .mv (.t 1), none⟩,
    ⟨some 41, .mv (.t 9), none⟩,
    ⟨some 42, .nchk (.t 41), none⟩,
    ⟨some 43, .faddr 2 (.t 42), none⟩,
    ⟨some 44, .load false 1 (.t 43), none⟩,
    ⟨some 45, .call (.k (.fn 40 [] [])) [(.t 34), (.t 35), (.t 39), (.t 40), (.t 44)], none⟩] [[], [], [], [2], [3], [4], [], [], [7], [8], [9], [0, 1, 5, 6, 10]])
  (.seq (.reg [⟨some 46, .mv (.t 6), none⟩,
    ⟨some 6, .mv (.t 46), none⟩,
    ⟨some 7, .mv (.k (.int .i64 0)), none⟩])
  (.ret))))))))
theorem b11 : Body Try.prog 11 c11 [.tmp 6, .tmp 7] 47 := ⟨by kernel_rfl, _, _, Try.func11, rfl, by kernel_rfl, by kernel_rfl, rfl⟩
def c12 : ACode :=
  .seq (.reg [⟨some 4, .new [(.str ⟨#[]⟩), (.int .i64 0)], none⟩,
    ⟨some 5, .mv (.k (.int .i64 0)), none⟩])
  (.seq (.seq (.reg [⟨some 7, .mv (.t 0), none⟩,
    ⟨some 8, .mv (.t 1), none⟩,
    ⟨some 9, .call (.k (.fn 37 [] [])) [(.t 7), (.t 8)], none⟩,
    ⟨some 6, .mv (.t 9), none⟩])
  (.seq (.reg [⟨some 10, .mv (.t 6), none⟩,
    ⟨some 11, .bin .neq (.t 10) (.k (.int .i64 0)), none⟩])
  (.cond (.t 11) (.seq (.reg [⟨some 12, .load true 2 (.t 4), none⟩,
      ⟨some 13, .mv (.t 6), none⟩,
      ⟨none, .store 2 (.t 4) (.t 12), none⟩,
      ⟨some 5, .mv (.t 13), none⟩])
    (.ret))
    (.skip))))
  (.seq (.reg [⟨some 14, .mv (.t 0), none⟩,
    ⟨some 15, .mv (.t 1), none⟩,
    ⟨some 16, .call (.k (.fn 41 [] [])) [(.t 14), (.t 15)], none⟩])
  (.seq (.regD [⟨some 17, .mv (.t 0), none⟩,
    ⟨some 18, .nchk (.t 17), none⟩,
    ⟨some 19, .faddr 0 (.t 18), none⟩,
    ⟨some 20, .load false 1 (.t 19), none⟩,
    ⟨some 21, .mv (.t 1), none⟩,
    ⟨some 22, .mv (.t 0), none⟩,
    ⟨some 23, .nchk (.t 22), none⟩,
    ⟨some 24, .faddr 0 (.t 23), none⟩,
    ⟨some 25, .load false 1 (.t 24), none⟩,
    ⟨some 26, .mv (.t 1), none⟩,
    ⟨some 27, .iaddrS 5 (.t 25) (.t 26), none⟩,
    ⟨some 28, .faddr 0 (.t 27), none⟩,
    ⟨some 29, .load true 2 (.t 28), none⟩,
    ⟨some 30, .load true 2 (.t 4), none⟩,
    ⟨none, .store 2 (.t 4) (.t 29), none⟩,
    ⟨some 31, .iaddrS 5 (.t 20) (.t 21), none⟩,
    ⟨some 32, .faddr 0 (.t 31), none⟩,
    ⟨none, .store 2 (.t 32) (.t 30), none⟩] [[], [0], [1], [2], [], [], [5], [6], [7], [], [8, 9], [10], [11], [], [12, 5, 6, 7, 8, 9, 10, 11, 12, 13], [3, 4, 0, 1, 2, 3, 4, 5, 6, 7, 8, 9, 10, 11, 12, 13, 14], [15, 0, 1, 2, 3, 4, 5, 6, 7, 8, 9, 10, 11, 12, 13, 14], [16, 13, 14, 0, 1, 2, 3, 4, 5, 6, 7, 8, 9, 10, 11, 12, 13, 14]])
  (.seq (.reg [⟨some 33, .mv (.t 0), none⟩,
    ⟨some 34, .mv (.t 0), none⟩,
    ⟨some 35, .nchk (.t 34), none⟩,
    ⟨some 36, .faddr 2 (.t 35), none⟩,
    ⟨some 37, .load false 1 (.t 36), none⟩,
    ⟨some 38, .mv (.t 1), none⟩,
    ⟨some 39, .minmax false (.t 37) [(.t 38)], none⟩,
    ⟨some 40, .nchk (.t 33), none⟩,
    ⟨some 41, .faddr 2 (.t 40), none⟩,
    ⟨none, .store 1 (.t 41) (.t 39), none⟩])
  (.seq (.reg [⟨some 42, .load true 2 (.t 4), none⟩,
    ⟨none, .store 2 (.t 4) (.t 42), none⟩,
    ⟨some 5, .mv (.k (.int .i64 0)), none⟩])
  (.ret))))))
theorem b12 : Body Try.prog 12 c12 [.cell 4 true 2, .tmp 5] 43 := ⟨by kernel_rfl, _, _, Try.func12, rfl, by kernel_rfl, by kernel_rfl, rfl⟩
def c13 : ACode :=
  .seq (.reg [⟨some 4, .mv (.k .nilp), none⟩,
    ⟨some 5, .mv (.k (.int .i64 0)), none⟩])
  (.seq (.seq (.reg [⟨some 7, .mv (.t 0), none⟩,
    ⟨some 8, .mv (.t 1), none⟩,
    ⟨some 9, .call (.k (.fn 39 [] [])) [(.t 7), (.t 8)], none⟩,
    ⟨some 6, .mv (.t 9), none⟩])
  (.seq (.reg [⟨some 10, .mv (.t 6), none⟩,
    ⟨some 11, .bin .neq (.t 10) (.k (.int .i64 0)), none⟩])
  (.cond (.t 11) (.seq (.reg [⟨some 12, .mv (.t 4), none⟩,
      ⟨some 13, .mv (.t 6), none⟩,
      ⟨some 4, .mv (.t 12), none⟩,
      ⟨some 5, .mv (.t 13), none⟩])
    (.ret))
    (.skip))))
  (.seq (.reg [⟨some 14, .mv (.t 0), none⟩,
    ⟨some 15, .mv (.t 1), none⟩,
    ⟨some 16, .call (.k (.fn 42 [] [])) [(.t 14), (.t 15)], none⟩])
  (.seq (.regD [⟨some 17, .mv (.t 0), none⟩,
    ⟨some 18, .nchk (.t 17), none⟩,
    ⟨some 19, .faddr 0 (.t 18), none⟩,
    ⟨some 20, .load false 1 (.t 19), none⟩,
    ⟨some 21, .mv (.t 1), none⟩,
    ⟨some 22, .mv (.t 0), none⟩,
    ⟨some 23, .nchk (.t 22), none⟩,
    ⟨some 24, .faddr 0 (.t 23), none⟩,
    ⟨some 25, .load false 1 (.t 24), none⟩,
    ⟨some 26, .mv (.t 1), none⟩,
    ⟨some 27, .iaddrS 4 (.t 25) (.t 26), none⟩,
    ⟨some 28, .faddr 0 (.t 27), none⟩,
    ⟨some 29, .load false 1 (.t 28), none⟩,
    ⟨some 30, .mv (.t 4), none⟩,
    ⟨some 4, .mv (.t 29), none⟩,
    ⟨some 31, .iaddrS 4 (.t 20) (.t 21), none⟩,
    ⟨some 32, .faddr 0 (.t 31), none⟩,
    ⟨none, .store 1 (.t 32) (.t 30), none⟩] [[], [0], [1], [2], [], [], [5], [6], [7], [], [8, 9], [10], [11], [], [12, 5, 6, 7, 8, 9, 10, 11, 12, 13], [3, 4, 0, 1, 2, 3, 4, 5, 6, 7, 8, 9, 10, 11, 12, 13, 14], [15, 0, 1, 2, 3, 4, 5, 6, 7, 8, 9, 10, 11, 12, 13, 14], [16, 13, 14, 0, 1, 2, 3, 4, 5, 6, 7, 8, 9, 10, 11, 12, 13, 14]])
  (.seq (.reg [⟨some 33, .mv (.t 0), none⟩,
    ⟨some 34, .mv (.t 0), none⟩,
    ⟨some 35, .nchk (.t 34), none⟩,
    ⟨some 36, .faddr 2 (.t 35), none⟩,
    ⟨some 37, .load false 1 (.t 36), none⟩,
    ⟨some 38, .mv (.t 1), none⟩,
    ⟨some 39, .minmax false (.t 37) [(.t 38)], none⟩,
    ⟨some 40, .nchk (.t 33), none⟩,
    ⟨some 41, .faddr 2 (.t 40), none⟩,
    ⟨none, .store 1 (.t 41) (.t 39), none⟩])
  (.seq (.reg [⟨some 42, .mv (.t 4), none⟩,
    ⟨some 4, .mv (.t 42), none⟩,
    ⟨some 5, .mv (.k (.int .i64 0)), none⟩])
  (.ret))))))
theorem b13 : Body Try.prog 13 c13 [.tmp 4, .tmp 5] 43 := ⟨by kernel_rfl, _, _, Try.func13, rfl, by kernel_rfl, by kernel_rfl, rfl⟩
def c14 : ACode :=
  .seq (.reg [⟨some 8, .mv (.k (.int .i64 0)), none⟩])
  (.seq (.seq (.reg [⟨some 11, .mv (.t 0), none⟩,
    ⟨some 12, .mv (.t 1), none⟩,
    ⟨some 13, .call (.k (.fn 37 [] [])) [(.t 11), (.t 12)], none⟩,
    ⟨some 9, .mv (.t 13), none⟩])
  (.seq (.reg [⟨some 14, .mv (.t 9), none⟩,
    ⟨some 15, .bin .neq (.t 14) (.k (.int .i64 0)), none⟩])
  (.cond (.t 15) (.seq (.reg [⟨some 16, .mv (.t 9), none⟩,
      ⟨some 8, .mv (.t 16), none⟩])
    (.ret))
    (.skip))))
  (.seq (.seq (.reg [⟨some 17, .mv (.t 0), none⟩,
    ⟨some 18, .mv (.t 2), none⟩,
    ⟨some 19, .call (.k (.fn 31 [] [])) [(.t 17), (.t 18)], none⟩,
    ⟨some 10, .mv (.t 19), none⟩])
  (.seq (.reg [⟨some 20, .mv (.t 10), none⟩,
    ⟨some 21, .bin .neq (.t 20) (.k (.int .i64 0)), none⟩])
  (.cond (.t 21) (.seq (.reg [⟨some 22, .mv (.t 10), none⟩,
      ⟨some 8, .mv (.t 22), none⟩])
    (.ret))
    (.skip))))
  (.seq (.reg [⟨some 23, .mv (.t 0), none⟩,
    ⟨some 24, .mv (.t 1), none⟩,
    ⟨some 25, .call (.k (.fn 41 [] [])) [(.t 23), (.t 24)], none⟩])
  (.seq (.reg [⟨some 26, .mv (.t 0), none⟩,
    ⟨some 27, .mv (.t 1), none⟩,
    ⟨some 28, .mv (.t 2), none⟩,
    ⟨some 29, .mv (.t 3), none⟩,
    ⟨some 30, .call (.k (.fn 33 [] [])) [(.t 26), (.t 27), (.t 28), (.t 29)], none⟩])
  (.seq (.reg [⟨some 8, .mv (.k (.int .i64 0)), none⟩])
  (.ret))))))
theorem b14 : Body Try.prog 14 c14 [.tmp 8] 31 := ⟨by kernel_rfl, _, _, Try.func14, rfl, by kernel_rfl, by kernel_rfl, rfl⟩
def c15 : ACode :=
  .seq (.reg [⟨some 8, .mv (.k (.int .i64 0)), none⟩])
  (.seq (.seq (.reg [⟨some 11, .mv (.t 0), none⟩,
    ⟨some 12, .mv (.t 1), none⟩,
    ⟨some 13, .call (.k (.fn 39 [] [])) [(.t 11), (.t 12)], none⟩,
    ⟨some 9, .mv (.t 13), none⟩])
  (.seq (.reg [⟨some 14, .mv (.t 9), none⟩,
    ⟨some 15, .bin .neq (.t 14) (.k (.int .i64 0)), none⟩])
  (.cond (.t 15) (.seq (.reg [⟨some 16, .mv (.t 9), none⟩,
      ⟨some 8, .mv (.t 16), none⟩])
    (.ret))
    (.skip))))
  (.seq (.seq (.reg [⟨some 17, .mv (.t 0), none⟩,
    ⟨some 18, .mv (.t 2), none⟩,
    ⟨some 19, .call (.k (.fn 34 [] [])) [(.t 17), (.t 18)], none⟩,
    ⟨some 10, .mv (.t 19), none⟩])
  (.seq (.reg [⟨some 20, .mv (.t 10), none⟩,
    ⟨some 21, .bin .neq (.t 20) (.k (.int .i64 0)), none⟩])
  (.cond (.t 21) (.seq (.reg [⟨some 22, .mv (.t 10), none⟩,
      ⟨some 8, .mv (.t 22), none⟩])
    (.ret))
    (.skip))))
  (.seq (.reg [⟨some 23, .mv (.t 0), none⟩,
    ⟨some 24, .mv (.t 1), none⟩,
    ⟨some 25, .call (.k (.fn 42 [] [])) [(.t 23), (.t 24)], none⟩])
  (.seq (.reg [⟨some 26, .mv (.t 0), none⟩,
    ⟨some 27, .mv (.t 1), none⟩,
    ⟨some 28, .mv (.t 2), none⟩,
    ⟨some 29, .mv (.t 3), none⟩,
    ⟨some 30, .call (.k (.fn 36 [] [])) [(.t 26), (.t 27), (.t 28), (.t 29)], none⟩])
  (.seq (.reg [⟨some 8, .mv (.k (.int .i64 0)), none⟩])
  (.ret))))))
theorem b15 : Body Try.prog 15 c15 [.tmp 8] 31 := ⟨by kernel_rfl, _, _, Try.func15, rfl, by kernel_rfl, by kernel_rfl, rfl⟩
def c16 : ACode :=
  .seq (.reg [⟨some 5, .box (.t 2), none⟩,
    ⟨some 6, .mv (.k (.int .i64 0)), none⟩])
  (.seq (.seq (.reg [⟨some 8, .mv (.t 0), none⟩,
    ⟨some 9, .mv (.t 1), none⟩,
    ⟨some 10, .call (.k (.fn 37 [] [])) [(.t 8), (.t 9)], none⟩,
    ⟨some 7, .mv (.t 10), none⟩])
  (.seq (.reg [⟨some 11, .mv (.t 7), none⟩,
    ⟨some 12, .bin .neq (.t 11) (.k (.int .i64 0)), none⟩])
  (.cond (.t 12) (.seq (.reg [⟨some 13, .mv (.t 7), none⟩,
      ⟨some 6, .mv (.t 13), none⟩])
    (.ret))
    (.skip))))
  (.seq (.regD [⟨some 14, .mv (.t 0), none⟩,
    ⟨some 15, .nchk (.t 14), none⟩,
    ⟨some 16, .faddr 0 (.t 15), none⟩,
    ⟨some 17, .load false 1 (.t 16), none⟩,
    ⟨some 18, .mv (.t 1), none⟩,
    ⟨some 19, .load true 2 (.t 5), none⟩,
    ⟨some 20, .iaddrS 5 (.t 17) (.t 18), none⟩,
    ⟨some 21, .faddr 0 (.t 20), none⟩,
    ⟨none, .store 2 (.t 21) (.t 19), none⟩] [[], [0], [1], [2], [], [], [3, 4, 0, 1, 2, 3, 4, 5], [6, 0, 1, 2, 3, 4, 5], [7, 5, 0, 1, 2, 3, 4, 5]])
  (.seq (.reg [⟨some 6, .mv (.k (.int .i64 0)), none⟩])
  (.ret))))
theorem b16 : Body Try.prog 16 c16 [.tmp 6] 22 := ⟨by kernel_rfl, _, _, Try.func16, rfl, by kernel_rfl, by kernel_rfl, rfl⟩
def c17 : ACode :=
  .seq (.reg [⟨some 6, .mv (.k (.int .i64 0)), none⟩])
  (.seq (.seq (.reg [⟨some 8, .mv (.t 0), none⟩,
    ⟨some 9, .mv (.t 1), none⟩,
    ⟨some 10, .call (.k (.fn 39 [] [])) [(.t 8), (.t 9)], none⟩,
    ⟨some 7, .mv (.t 10), none⟩])
  (.seq (.reg [⟨some 11, .mv (.t 7), none⟩,
    ⟨some 12, .bin .neq (.t 11) (.k (.int .i64 0)), none⟩])
  (.cond (.t 12) (.seq (.reg [⟨some 13, .mv (.t 7), none⟩,
      ⟨some 6, .mv (.t 13), none⟩])
    (.ret))
    (.skip))))
  (.seq (.reg [⟨some 14, .mv (.t 0), none⟩,
    ⟨some 15, .nchk (.t 14), none⟩,
    ⟨some 16, .faddr 0 (.t 15), none⟩,
    ⟨some 17, .load false 1 (.t 16), none⟩,
    ⟨some 18, .mv (.t 1), none⟩,
    ⟨some 19, .mv (.t 2), none⟩,
    ⟨some 20, .iaddrS 4 (.t 17) (.t 18), none⟩,
    ⟨some 21, .faddr 0 (.t 20), none⟩,
    ⟨none, .store 1 (.t 21) (.t 19), none⟩])
  (.seq (.reg [⟨some 6, .mv (.k (.int .i64 0)), none⟩])
  (.ret))))
theorem b17 : Body Try.prog 17 c17 [.tmp 6] 22 := ⟨by kernel_rfl, _, _, Try.func17, rfl, by kernel_rfl, by kernel_rfl, rfl⟩
def c18 : ACode :=
  .seq (.reg [⟨some 2, .new [.nils, .nils, .nils, .nils, .nils, .nils], none⟩])
  (.seq (.reg [⟨some 3, .new [.nils, .nils, .nils, .nils, .nils, .nils], none⟩])
  (.seq (.seq (.reg [⟨some 8, .mv (.t 0), none⟩,
    ⟨some 9, .call (.k (.fn 43 [] [])) [(.t 8)], none⟩,
    ⟨some 10, .un .not (.t 9), none⟩])
  (.cond (.t 10) (.seq (.reg [⟨some 11, .load true 6 (.t 3), none⟩,
      ⟨none, .store 6 (.t 2) (.t 11), none⟩])
    (.ret))
    (.skip)))
  (.seq (.seq (.reg [⟨some 12, .mv (.t 0), none⟩,
    ⟨some 13, .nchk (.t 12), none⟩,
    ⟨some 14, .faddr 0 (.t 13), none⟩,
    ⟨some 15, .load false 1 (.t 14), none⟩,
    ⟨some 16, .len (.t 15), none⟩,
    ⟨some 17, .mv (.k (.int .i64 0)), none⟩])
  (.block 0 (.loop (.seq (.reg [⟨some 18, .bin .lss (.t 17) (.t 16), none⟩])
    (.seq (.cond (.t 18) (.skip)
      (.exit 0))
    (.seq (.block 1 (.seq (.reg [⟨some 19, .iaddrS 4 (.t 15) (.t 17), none⟩,
       ⟨some 20, .load true 4 (.t 19), none⟩,
       ⟨some 5, .new [(.int .i64 0), (.int .i64 0), (.int .i64 0), (.int .i64 0)], none⟩,
       ⟨none, .store 4 (.t 5) (.t 20), none⟩])
     (.seq (.regD [⟨some 21, .faddr 0 (.t 3), none⟩,
       ⟨some 22, .load false 1 (.t 21), none⟩,
       ⟨some 23, .faddr 0 (.t 5), none⟩,
       ⟨some 24, .load false 1 (.t 23), none⟩,
       ⟨some 25, .bslice 1 1 [(.int .i64 0)] [(0, 1, (.t 24))], none⟩,
       ⟨some 26, .append 1 8 (.t 22) (.t 25), none⟩,
       ⟨some 27, .faddr 1 (.t 3), none⟩,
       ⟨some 28, .load false 1 (.t 27), none⟩,
       ⟨some 29, .faddr 1 (.t 5), none⟩,
       ⟨some 30, .load false 1 (.t 29), none⟩,
       ⟨some 31, .bslice 1 1 [(.int .i64 0)] [(0, 1, (.t 30))], none⟩,
       ⟨some 32, .append 1 8 (.t 28) (.t 31), none⟩,
       ⟨some 33, .faddr 0 (.t 3), none⟩,
       ⟨none, .store 1 (.t 33) (.t 26), none⟩,
       ⟨some 34, .faddr 1 (.t 3), none⟩,
       ⟨none, .store 1 (.t 34) (.t 32), none⟩] [[], [0], [], [2], [3], [1, 4], [], [6], [], [8], [9], [7, 10, 5], [0, 1, 2, 3, 4, 5, 6, 7], [12, 5, 11, 0, 1, 2, 3, 4, 5, 6, 7], [0, 1, 2, 3, 4, 5, 6, 7, 8, 9, 10, 11, 12, 13], [14, 11, 13, 0, 1, 2, 3, 4, 5, 6, 7, 8, 9, 10, 11, 12, 13]])
     (.regD [⟨some 35, .faddr 2 (.t 3), none⟩,
       ⟨some 36, .load false 1 (.t 35), none⟩,
       ⟨some 37, .faddr 2 (.t 5), none⟩,
       ⟨some 38, .load false 1 (.t 37), none⟩,
       ⟨some 39, .bslice 1 1 [(.int .i64 0)] [(0, 1, (.t 38))], none⟩,
       ⟨some 40, .append 1 8 (.t 36) (.t 39), none⟩,
       ⟨some 41, .faddr 3 (.t 3), none⟩,
       ⟨some 42, .load false 1 (.t 41), none⟩,
       ⟨some 43, .faddr 3 (.t 5), none⟩,
       ⟨some 44, .load false 1 (.t 43), none⟩,
       ⟨some 45, .bslice 1 1 [(.int .i64 0)] [(0, 1, (.t 44))], none⟩,
       ⟨some 46, .append 1 8 (.t 42) (.t 45), none⟩,
       ⟨some 47, .faddr 2 (.t 3), none⟩,
       ⟨none, .store 1 (.t 47) (.t 40), none⟩,
       ⟨some 48, .faddr 3 (.t 3), none⟩,
       ⟨none, .store 1 (.t 48) (.t 46), none⟩] [[], [0], [], [2], [3], [1, 4], [], [6], [], [8], [9], [7, 10, 5], [0, 1, 2, 3, 4, 5, 6, 7], [12, 5, 11, 0, 1, 2, 3, 4, 5, 6, 7], [0, 1, 2, 3, 4, 5, 6, 7, 8, 9, 10, 11, 12, 13], [14, 11, 13, 0, 1, 2, 3, 4, 5, 6, 7, 8, 9, 10, 11, 12, 13]]))))
    (.reg [⟨some 49, .bin .add (.t 17) (.k (.int .i64 1)), none⟩,
      ⟨some 17, .mv (.t 49), none⟩])))))))
  (.seq (.seq (.reg [⟨some 50, .mv (.t 0), none⟩,
    ⟨some 51, .nchk (.t 50), none⟩,
    ⟨some 52, .faddr 1 (.t 51), none⟩,
    ⟨some 53, .load false 1 (.t 52), none⟩,
    ⟨some 54, .len (.t 53), none⟩,
    ⟨some 55, .mv (.k (.int .i64 0)), none⟩])
  (.block 2 (.loop (.seq (.reg [⟨some 56, .bin .lss (.t 55) (.t 54), none⟩])
    (.seq (.cond (.t 56) (.skip)
      (.exit 2))
    (.seq (.block 3 (.seq (.reg [⟨some 57, .iaddrS 3 (.t 53) (.t 55), none⟩,
       ⟨some 58, .load true 3 (.t 57), none⟩,
       ⟨some 7, .new [(.int .i64 0), (.int .i64 0), (.int .i64 0)], none⟩,
       ⟨none, .store 3 (.t 7) (.t 58), none⟩])
     (.regD [⟨some 59, .faddr 4 (.t 3), none⟩,
       ⟨some 60, .load false 1 (.t 59), none⟩,
       ⟨some 61, .faddr 0 (.t 7), none⟩,
       ⟨some 62, .load false 1 (.t 61), none⟩,
       ⟨some 63, .bslice 1 1 [(.int .i64 0)] [(0, 1, (.t 62))], none⟩,
       ⟨some 64, .append 1 8 (.t 60) (.t 63), none⟩,
       ⟨some 65, .faddr 5 (.t 3), none⟩,
       ⟨some 66, .load false 1 (.t 65), none⟩,
       ⟨some 67, .faddr 1 (.t 7), none⟩,
       ⟨some 68, .load false 1 (.t 67), none⟩,
       ⟨some 69, .bslice 1 1 [(.int .i64 0)] [(0, 1, (.t 68))], none⟩,
       ⟨some 70, .append 1 8 (.t 66) (.t 69), none⟩,
       ⟨some 71, .faddr 4 (.t 3), none⟩,
       ⟨none, .store 1 (.t 71) (.t 64), none⟩,
       ⟨some 72, .faddr 5 (.t 3), none⟩,
       ⟨none, .store 1 (.t 72) (.t 70), none⟩] [[], [0], [], [2], [3], [1, 4], [], [6], [], [8], [9], [7, 10, 5], [0, 1, 2, 3, 4, 5, 6, 7], [12, 5, 11, 0, 1, 2, 3, 4, 5, 6, 7], [0, 1, 2, 3, 4, 5, 6, 7, 8, 9, 10, 11, 12, 13], [14, 11, 13, 0, 1, 2, 3, 4, 5, 6, 7, 8, 9, 10, 11, 12, 13]])))
    (.reg [⟨some 73, .bin .add (.t 55) (.k (.int .i64 1)), none⟩,
      ⟨some 55, .mv (.t 73), none⟩])))))))
  (.seq (.reg [⟨some 74, .load true 6 (.t 3), none⟩,
    ⟨none, .store 6 (.t 2) (.t 74), none⟩])
  (.ret))))))
theorem b18 : Body Try.prog 18 c18 [.cell 2 true 6] 75 := ⟨by kernel_rfl, _, _, Try.func18, rfl, by kernel_rfl, by kernel_rfl, rfl⟩
def c19 : ACode :=
  .seq (.reg [⟨some 2, .new [.nils, .nils, .nils, .nils, .nils, .nils], none⟩])
  (.seq (.reg [⟨some 3, .new [.nils, .nils, .nils, .nils, .nils, .nils], none⟩])
  (.seq (.seq (.reg [⟨some 8, .mv (.t 0), none⟩,
    ⟨some 9, .call (.k (.fn 44 [] [])) [(.t 8)], none⟩,
    ⟨some 10, .un .not (.t 9), none⟩])
  (.cond (.t 10) (.seq (.reg [⟨some 11, .load true 6 (.t 3), none⟩,
      ⟨none, .store 6 (.t 2) (.t 11), none⟩])
    (.ret))
    (.skip)))
  (.seq (.seq (.reg [⟨some 12, .mv (.t 0), none⟩,
    ⟨some 13, .nchk (.t 12), none⟩,
    ⟨some 14, .faddr 0 (.t 13), none⟩,
    ⟨some 15, .load false 1 (.t 14), none⟩,
    ⟨some 16, .len (.t 15), none⟩,
    ⟨some 17, .mv (.k (.int .i64 0)), none⟩])
  (.block 0 (.loop (.seq (.reg [⟨some 18, .bin .lss (.t 17) (.t 16), none⟩])
    (.seq (.cond (.t 18) (.skip)
      (.exit 0))
    (.seq (.block 1 (.seq (.reg [⟨some 19, .iaddrS 5 (.t 15) (.t 17), none⟩,
       ⟨some 20, .load true 5 (.t 19), none⟩,
       ⟨some 5, .new [(.str ⟨#[]⟩), (.int .i64 0), (.int .i64 0), (.int .i64 0), (.int .i64 0)], none⟩,
       ⟨none, .store 5 (.t 5) (.t 20), none⟩])
     (.seq (.regD [⟨some 21, .faddr 0 (.t 3), none⟩,
       ⟨some 22, .load false 1 (.t 21), none⟩,
       ⟨some 23, .faddr 0 (.t 5), none⟩,
       ⟨some 24, .load true 2 (.t 23), none⟩,
       ⟨some 25, .bslice 2 1 [(.str ⟨#[]⟩), (.int .i64 0)] [(0, 2, (.t 24))], none⟩,
       ⟨some 26, .append 2 24 (.t 22) (.t 25), none⟩,
       ⟨some 27, .faddr 1 (.t 3), none⟩,
       ⟨some 28, .load false 1 (.t 27), none⟩,
       ⟨some 29, .faddr 2 (.t 5), none⟩,
       ⟨some 30, .load false 1 (.t 29), none⟩,
       ⟨some 31, .bslice 1 1 [(.int .i64 0)] [(0, 1, (.t 30))], none⟩,
       ⟨some 32, .append 1 8 (.t 28) (.t 31), none⟩,
       ⟨some 33, .faddr 0 (.t 3), none⟩,
       ⟨none, .store 1 (.t 33) (.t 26), none⟩,
       ⟨some 34, .faddr 1 (.t 3), none⟩,
       ⟨none, .store 1 (.t 34) (.t 32), none⟩] [[], [0], [], [2], [3], [1, 4], [], [6], [], [8], [9], [7, 10, 5], [0, 1, 2, 3, 4, 5, 6, 7], [12, 5, 11, 0, 1, 2, 3, 4, 5, 6, 7], [0, 1, 2, 3, 4, 5, 6, 7, 8, 9, 10, 11, 12, 13], [14, 11, 13, 0, 1, 2, 3, 4, 5, 6, 7, 8, 9, 10, 11, 12, 13]])
     (.regD [⟨some 35, .faddr 2 (.t 3), none⟩,
       ⟨some 36, .load false 1 (.t 35), none⟩,
       ⟨some 37, .faddr 3 (.t 5), none⟩,
       ⟨some 38, .load false 1 (.t 37), none⟩,
       ⟨some 39, .bslice 1 1 [(.int .i64 0)] [(0, 1, (.t 38))], none⟩,
       ⟨some 40, .append 1 8 (.t 36) (.t 39), none⟩,
       ⟨some 41, .faddr 3 (.t 3), none⟩,
       ⟨some 42, .load false 1 (.t 41), none⟩,
       ⟨some 43, .faddr 4 (.t 5), none⟩,
       ⟨some 44, .load false 1 (.t 43), none⟩,
       ⟨some 45, .bslice 1 1 [(.int .i64 0)] [(0, 1, (.t 44))], none⟩,
       ⟨some 46, .append 1 8 (.t 42) (.t 45), none⟩,
       ⟨some 47, .faddr 2 (.t 3), none⟩,
       ⟨none, .store 1 (.t 47) (.t 40), none⟩,
       ⟨some 48, .faddr 3 (.t 3), none⟩,
       ⟨none, .store 1 (.t 48) (.t 46), none⟩] [[], [0], [], [2], [3], [1, 4], [], [6], [], [8], [9], [7, 10, 5], [0, 1, 2, 3, 4, 5, 6, 7], [12, 5, 11, 0, 1, 2, 3, 4, 5, 6, 7], [0, 1, 2, 3, 4, 5, 6, 7, 8, 9, 10, 11, 12, 13], [14, 11, 13, 0, 1, 2, 3, 4, 5, 6, 7, 8, 9, 10, 11, 12, 13]]))))
    (.reg [⟨some 49, .bin .add (.t 17) (.k (.int .i64 1)), none⟩,
      ⟨some 17, .mv (.t 49), none⟩])))))))
  (.seq (.seq (.reg [⟨some 50, .mv (.t 0), none⟩,
    ⟨some 51, .nchk (.t 50), none⟩,
    ⟨some 52, .faddr 1 (.t 51), none⟩,
    ⟨some 53, .load false 1 (.t 52), none⟩,
    ⟨some 54, .len (.t 53), none⟩,
    ⟨some 55, .mv (.k (.int .i64 0)), none⟩])
  (.block 2 (.loop (.seq (.reg [⟨some 56, .bin .lss (.t 55) (.t 54), none⟩])
    (.seq (.cond (.t 56) (.skip)
      (.exit 2))
    (.seq (.block 3 (.seq (.reg [⟨some 57, .iaddrS 3 (.t 53) (.t 55), none⟩,
       ⟨some 58, .load true 3 (.t 57), none⟩,
       ⟨some 7, .new [(.int .i64 0), (.int .i64 0), (.int .i64 0)], none⟩,
       ⟨none, .store 3 (.t 7) (.t 58), none⟩])
     (.regD [⟨some 59, .faddr 4 (.t 3), none⟩,
       ⟨some 60, .load false 1 (.t 59), none⟩,
       ⟨some 61, .faddr 0 (.t 7), none⟩,
       ⟨some 62, .load false 1 (.t 61), none⟩,
       ⟨some 63, .bslice 1 1 [(.int .i64 0)] [(0, 1, (.t 62))], none⟩,
       ⟨some 64, .append 1 8 (.t 60) (.t 63), none⟩,
       ⟨some 65, .faddr 5 (.t 3), none⟩,
       ⟨some 66, .load false 1 (.t 65), none⟩,
       ⟨some 67, .faddr 1 (.t 7), none⟩,
       ⟨some 68, .load false 1 (.t 67), none⟩,
       ⟨some 69, .bslice 1 1 [(.int .i64 0)] [(0, 1, (.t 68))], none⟩,
       ⟨some 70, .append 1 8 (.t 66) (.t 69), none⟩,
       ⟨some 71, .faddr 4 (.t 3), none⟩,
       ⟨none, .store 1 (.t 71) (.t 64), none⟩,
       ⟨some 72, .faddr 5 (.t 3), none⟩,
       ⟨none, .store 1 (.t 72) (.t 70), none⟩] [[], [0], [], [2], [3], [1, 4], [], [6], [], [8], [9], [7, 10, 5], [0, 1, 2, 3, 4, 5, 6, 7], [12, 5, 11, 0, 1, 2, 3, 4, 5, 6, 7], [0, 1, 2, 3, 4, 5, 6, 7, 8, 9, 10, 11, 12, 13], [14, 11, 13, 0, 1, 2, 3, 4, 5, 6, 7, 8, 9, 10, 11, 12, 13]])))
    (.reg [⟨some 73, .bin .add (.t 55) (.k (.int .i64 1)), none⟩,
      ⟨some 55, .mv (.t 73), none⟩])))))))
  (.seq (.reg [⟨some 74, .load true 6 (.t 3), none⟩,
    ⟨none, .store 6 (.t 2) (.t 74), none⟩])
  (.ret))))))
theorem b19 : Body Try.prog 19 c19 [.cell 2 true 6] 75 := ⟨by kernel_rfl, _, _, Try.func19, rfl, by kernel_rfl, by kernel_rfl, rfl⟩
def c20 : ACode :=
  .seq (.reg [⟨some 2, .new [.nils, .nils, .nils, .nils, .nils, .nils], none⟩])
  (.seq (.reg [⟨some 3, .new [.nils, .nils, .nils, .nils, .nils, .nils], none⟩])
  (.seq (.seq (.reg [⟨some 8, .mv (.t 0), none⟩,
    ⟨some 9, .call (.k (.fn 45 [] [])) [(.t 8)], none⟩,
    ⟨some 10, .un .not (.t 9), none⟩])
  (.cond (.t 10) (.seq (.reg [⟨some 11, .load true 6 (.t 3), none⟩,
      ⟨none, .store 6 (.t 2) (.t 11), none⟩])
    (.ret))
    (.skip)))
  (.seq (.seq (.reg [⟨some 12, .mv (.t 0), none⟩,
    ⟨some 13, .nchk (.t 12), none⟩,
    ⟨some 14, .faddr 0 (.t 13), none⟩,
    ⟨some 15, .load false 1 (.t 14), none⟩,
    ⟨some 16, .len (.t 15), none⟩,
    ⟨some 17, .mv (.k (.int .i64 0)), none⟩])
  (.block 0 (.loop (.seq (.reg [⟨some 18, .bin .lss (.t 17) (.t 16), none⟩])
    (.seq (.cond (.t 18) (.skip)
      (.exit 0))
    (.seq (.block 1 (.seq (.reg [⟨some 19, .iaddrS 4 (.t 15) (.t 17), none⟩,
       ⟨some 20, .load true 4 (.t 19), none⟩,
       ⟨some 5, .new [.nilp, (.int .i64 0), (.int .i64 0), (.int .i64 0)], none⟩,
       ⟨none, .store 4 (.t 5) (.t 20), none⟩])
     (.seq (.regD [⟨some 21, .faddr 0 (.t 3), none⟩,
       ⟨some 22, .load false 1 (.t 21), none⟩,
       ⟨some 23, .faddr 0 (.t 5), none⟩,
       ⟨some 24, .load false 1 (.t 23), none⟩,
       ⟨some 25, .bslice 1 1 [.nilp] [(0, 1, (.t 24))], none⟩,
       ⟨some 26, .append 1 8 (.t 22) (.t 25), none⟩,
       ⟨some 27, .faddr 1 (.t 3), none⟩,
       ⟨some 28, .load false 1 (.t 27), none⟩,
       ⟨some 29, .faddr 1 (.t 5), none⟩,
       ⟨some 30, .load false 1 (.t 29), none⟩,
       ⟨some 31, .bslice 1 1 [(.int .i64 0)] [(0, 1, (.t 30))], none⟩,
       ⟨some 32, .append 1 8 (.t 28) (.t 31), none⟩,
       ⟨some 33, .faddr 0 (.t 3), none⟩,
       ⟨none, .store 1 (.t 33) (.t 26), none⟩,
       ⟨some 34, .faddr 1 (.t 3), none⟩,
       ⟨none, .store 1 (.t 34) (.t 32), none⟩] [[], [0], [], [2], [3], [1, 4], [], [6], [], [8], [9], [7, 10, 5], [0, 1, 2, 3, 4, 5, 6, 7], [12, 5, 11, 0, 1, 2, 3, 4, 5, 6, 7], [0, 1, 2, 3, 4, 5, 6, 7, 8, 9, 10, 11, 12, 13], [14, 11, 13, 0, 1, 2, 3, 4, 5, 6, 7, 8, 9, 10, 11, 12, 13]])
     (.regD [⟨some 35, .faddr 2 (.t 3), none⟩,
       ⟨some 36, .load false 1 (.t 35), none⟩,
       ⟨some 37, .faddr 2 (.t 5), none⟩,
       ⟨some 38, .load false 1 (.t 37), none⟩,
       ⟨some 39, .bslice 1 1 [(.int .i64 0)] [(0, 1, (.t 38))], none⟩,
       ⟨some 40, .append 1 8 (.t 36) (.t 39), none⟩,
       ⟨some 41, .faddr 3 (.t 3), none⟩,
       ⟨some 42, .load false 1 (.t 41), none⟩,
       ⟨some 43, .faddr 3 (.t 5), none⟩,
       ⟨some 44, .load false 1 (.t 43), none⟩,
       ⟨some 45, .bslice 1 1 [(.int .i64 0)] [(0, 1, (.t 44))], none⟩,
       ⟨some 46, .append 1 8 (.t 42) (.t 45), none⟩,
       ⟨some 47, .faddr 2 (.t 3), none⟩,
       ⟨none, .store 1 (.t 47) (.t 40), none⟩,
       ⟨some 48, .faddr 3 (.t 3), none⟩,
       ⟨none, .store 1 (.t 48) (.t 46), none⟩] [[], [0], [], [2], [3], [1, 4], [], [6], [], [8], [9], [7, 10, 5], [0, 1, 2, 3, 4, 5, 6, 7], [12, 5, 11, 0, 1, 2, 3, 4, 5, 6, 7], [0, 1, 2, 3, 4, 5, 6, 7, 8, 9, 10, 11, 12, 13], [14, 11, 13, 0, 1, 2, 3, 4, 5, 6, 7, 8, 9, 10, 11, 12, 13]]))))
    (.reg [⟨some 49, .bin .add (.t 17) (.k (.int .i64 1)), none⟩,
      ⟨some 17, .mv (.t 49), none⟩])))))))
  (.seq (.seq (.reg [⟨some 50, .mv (.t 0), none⟩,
    ⟨some 51, .nchk (.t 50), none⟩,
    ⟨some 52, .faddr 1 (.t 51), none⟩,
    ⟨some 53, .load false 1 (.t 52), none⟩,
    ⟨some 54, .len (.t 53), none⟩,
    ⟨some 55, .mv (.k (.int .i64 0)), none⟩])
  (.block 2 (.loop (.seq (.reg [⟨some 56, .bin .lss (.t 55) (.t 54), none⟩])
    (.seq (.cond (.t 56) (.skip)
      (.exit 2))
    (.seq (.block 3 (.seq (.reg [⟨some 57, .iaddrS 3 (.t 53) (.t 55), none⟩,
       ⟨some 58, .load true 3 (.t 57), none⟩,
       ⟨some 7, .new [(.int .i64 0), (.int .i64 0), (.int .i64 0)], none⟩,
       ⟨none, .store 3 (.t 7) (.t 58), none⟩])
     (.regD [⟨some 59, .faddr 4 (.t 3), none⟩,
       ⟨some 60, .load false 1 (.t 59), none⟩,
       ⟨some 61, .faddr 0 (.t 7), none⟩,
       ⟨some 62, .load false 1 (.t 61), none⟩,
       ⟨some 63, .bslice 1 1 [(.int .i64 0)] [(0, 1, (.t 62))], none⟩,
       ⟨some 64, .append 1 8 (.t 60) (.t 63), none⟩,
       ⟨some 65, .faddr 5 (.t 3), none⟩,
       ⟨some 66, .load false 1 (.t 65), none⟩,
       ⟨some 67, .faddr 1 (.t 7), none⟩,
       ⟨some 68, .load false 1 (.t 67), none⟩,
       ⟨some 69, .bslice 1 1 [(.int .i64 0)] [(0, 1, (.t 68))], none⟩,
       ⟨some 70, .append 1 8 (.t 66) (.t 69), none⟩,
       ⟨some 71, .faddr 4 (.t 3), none⟩,
       ⟨none, .store 1 (.t 71) (.t 64), none⟩,
       ⟨some 72, .faddr 5 (.t 3), none⟩,
       ⟨none, .store 1 (.t 72) (.t 70), none⟩] [[], [0], [], [2], [3], [1, 4], [], [6], [], [8], [9], [7, 10, 5], [0, 1, 2, 3, 4, 5, 6, 7], [12, 5, 11, 0, 1, 2, 3, 4, 5, 6, 7], [0, 1, 2, 3, 4, 5, 6, 7, 8, 9, 10, 11, 12, 13], [14, 11, 13, 0, 1, 2, 3, 4, 5, 6, 7, 8, 9, 10, 11, 12, 13]])))
    (.reg [⟨some 73, .bin .add (.t 55) (.k (.int .i64 1)), none⟩,
      ⟨some 55, .mv (.t 73), none⟩])))))))
  (.seq (.reg [⟨some 74, .load true 6 (.t 3), none⟩,
    ⟨none, .store 6 (.t 2) (.t 74), none⟩])
  (.ret))))))
theorem b20 : Body Try.prog 20 c20 [.cell 2 true 6] 75 := ⟨by kernel_rfl, _, _, Try.func20, rfl, by kernel_rfl, by kernel_rfl, rfl⟩
def c21 : ACode :=
  .seq (.reg [⟨some 2, .box (.t 0), none⟩,
    ⟨some 3, .box (.t 1), none⟩,
    ⟨some 4, .mv (.k (.bool false)), none⟩])
  (.seq (.reg [⟨some 5, .faddr 0 (.t 2), none⟩,
    ⟨some 6, .load false 1 (.t 5), none⟩,
    ⟨some 7, .faddr 0 (.t 3), none⟩,
    ⟨some 8, .load false 1 (.t 7), none⟩,
    ⟨some 9, .call (.k (.fn 22 [] [])) [(.t 6), (.t 8)], none⟩,
    ⟨some 10, .mv (.t 9), none⟩,
    ⟨some 11, .faddr 1 (.t 2), some (10, true)⟩,
    ⟨some 12, .load false 1 (.t 11), some (10, true)⟩,
    ⟨some 13, .faddr 1 (.t 3), some (10, true)⟩,
    ⟨some 14, .load false 1 (.t 13), some (10, true)⟩,
    ⟨some 15, .call (.k (.fn 22 [] [])) [(.t 12), (.t 14)], some (10, true)⟩,
    ⟨some 16, .pick (.t 10) (.t 15) (.k (.bool false)), none⟩,
    ⟨some 17, .mv (.t 16), none⟩,
    ⟨some 18, .faddr 2 (.t 2), some (17, true)⟩,
    ⟨some 19, .load false 1 (.t 18), some (17, true)⟩,
    ⟨some 20, .faddr 2 (.t 3), some (17, true)⟩,
    ⟨some 21, .load false 1 (.t 20), some (17, true)⟩,
    ⟨some 22, .call (.k (.fn 22 [] [])) [(.t 19), (.t 21)], some (17, true)⟩,
    ⟨some 23, .pick (.t 17) (.t 22) (.k (.bool false)), none⟩,
    ⟨some 24, .mv (.t 23), none⟩,
    ⟨some 25, .faddr 3 (.t 2), some (24, true)⟩,
    ⟨some 26, .load false 1 (.t 25), some (24, true)⟩,
    ⟨some 27, .faddr 3 (.t 3), some (24, true)⟩,
    ⟨some 28, .load false 1 (.t 27), some (24, true)⟩,
    ⟨some 29, .call (.k (.fn 22 [] [])) [(.t 26), (.t 28)], some (24, true)⟩,
    ⟨some 30, .pick (.t 24) (.t 29) (.k (.bool false)), none⟩,
    ⟨some 31, .mv (.t 30), none⟩,
    ⟨some 32, .faddr 4 (.t 2), some (31, true)⟩,
    ⟨some 33, .load false 1 (.t 32), some (31, true)⟩,
    ⟨some 34, .faddr 4 (.t 3), some (31, true)⟩,
    ⟨some 35, .load false 1 (.t 34), some (31, true)⟩,
    ⟨some 36, .call (.k (.fn 22 [] [])) [(.t 33), (.t 35)], some (31, true)⟩,
    ⟨some 37, .pick (.t 31) (.t 36) (.k (.bool false)), none⟩,
    ⟨some 38, .mv (.t 37), none⟩,
    ⟨some 39, .faddr 5 (.t 2), some (38, true)⟩,
    ⟨some 40, .load false 1 (.t 39), some (38, true)⟩,
    ⟨some 41, .faddr 5 (.t 3), some (38, true)⟩,
    ⟨some 42, .load false 1 (.t 41), some (38, true)⟩,
    ⟨some 43, .call (.k (.fn 22 [] [])) [(.t 40), (.t 42)], some (38, true)⟩,
    ⟨some 44, .pick (.t 38) (.t 43) (.k (.bool false)), none⟩,
    ⟨some 4, .mv (.t 44), none⟩])
  (.ret))
theorem b21 : Body Try.prog 21 c21 [.tmp 4] 45 := ⟨by kernel_rfl, _, _, Try.func21, rfl, by kernel_rfl, by kernel_rfl, rfl⟩
def c22 : ACode :=
  .seq (.reg [⟨some 4, .mv (.k (.bool false)), none⟩])
  (.seq (.seq (.reg [⟨some 6, .mv (.t 0), none⟩,
    ⟨some 7, .len (.t 6), none⟩,
    ⟨some 8, .mv (.t 1), none⟩,
    ⟨some 9, .len (.t 8), none⟩,
    ⟨some 10, .bin .neq (.t 7) (.t 9), none⟩])
  (.cond (.t 10) (.seq (.reg [⟨some 4, .mv (.k (.bool false)), none⟩])
    (.ret))
    (.skip)))
  (.seq (.seq (.reg [⟨some 5, .mv (.k (.int .i64 0)), none⟩])
  (.block 0 (.loop (.seq (.seq (.reg [⟨some 11, .mv (.t 5), none⟩,
      ⟨some 12, .mv (.t 0), none⟩,
      ⟨some 13, .len (.t 12), none⟩,
      ⟨some 14, .bin .lss (.t 11) (.t 13), none⟩])
    (.cond (.t 14) (.skip)
      (.exit 0)))
    (.seq (.block 1 (.seq (.regD [⟨some 17, .mv (.t 0), none⟩,
       ⟨some 18, .mv (.t 5), none⟩,
       ⟨some 19, .iaddrS 1 (.t 17) (.t 18), none⟩,
       ⟨some 20, .load false 1 (.t 19), none⟩,
       ⟨some 21, .mv (.t 1), none⟩,
       ⟨some 22, .mv (.t 5), none⟩,
       ⟨some 23, .iaddrS 1 (.t 21) (.t 22), none⟩,
       ⟨some 24, .load false 1 (.t 23), none⟩,
       ⟨some 25, .bin .neq (.t 20) (.t 24), none⟩] [[], [], [0, 1], [2], [], [], [4, 5], [6], [3, 7]])
     (.cond (.t 25) (.seq (.reg [⟨some 4, .mv (.k (.bool false)), none⟩])
       (.ret))
       (.skip))))
    (.reg [⟨some 15, .mv (.t 5), none⟩,
      ⟨some 16, .bin .add (.t 15) (.k (.int .i64 1)), none⟩,
      ⟨some 5, .mv (.t 16), none⟩]))))))
  (.seq (.reg [⟨some 4, .mv (.k (.bool true)), none⟩])
  (.ret))))
theorem b22 : Body Try.prog 22 c22 [.tmp 4] 26 := ⟨by kernel_rfl, _, _, Try.func22, rfl, by kernel_rfl, by kernel_rfl, rfl⟩
def c23 : ACode :=
  .seq (.reg [⟨some 0, .mv (.k .nilp), none⟩])
  (.seq (.reg [⟨some 9, .call (.k (.fn 26 [] [])) [(.k (.int .i64 3)), (.k (.int .i64 2))], none⟩,
    ⟨some 8, .mv (.t 9), none⟩,
    ⟨some 10, .ext (.t 8) 0, none⟩,
    ⟨some 11, .ext (.t 8) 1, none⟩,
    ⟨some 1, .mv (.t 10), none⟩,
    ⟨some 2, .mv (.t 11), none⟩])
  (.seq (.seq (.reg [⟨some 12, .mv (.t 2), none⟩,
    ⟨some 13, .bin .neq (.t 12) (.k (.int .i64 0)), none⟩,
    ⟨some 14, .mv (.t 13), none⟩,
    ⟨some 15, .mv (.t 1), some (14, false)⟩,
    ⟨some 16, .eqp false false (.t 15) (.k .nilp), some (14, false)⟩,
    ⟨some 17, .pick (.t 14) (.k (.bool true)) (.t 16), none⟩])
  (.cond (.t 17) (.seq (.reg [⟨some 0, .mv (.k .nilp), none⟩])
    (.ret))
    (.skip)))
  (.seq (.reg [⟨some 19, .mv (.t 1), none⟩,
    ⟨some 20, .call (.k (.fn 24 [] [])) [(.t 19), (.k (.int .i64 0)), (.k (.int .i64 7)), (.k (.bool false))], none⟩,
    ⟨some 18, .mv (.t 20), none⟩,
    ⟨some 21, .ext (.t 18) 0, none⟩,
    ⟨some 22, .ext (.t 18) 1, none⟩,
    ⟨some 3, .mv (.t 21), none⟩,
    ⟨some 2, .mv (.t 22), none⟩])
  (.seq (.reg [⟨some 24, .mv (.t 1), none⟩,
    ⟨some 25, .call (.k (.fn 24 [] [])) [(.t 24), (.k (.int .i64 0)), (.k (.int .i64 8)), (.k (.bool false))], none⟩,
    ⟨some 23, .mv (.t 25), none⟩,
    ⟨some 26, .ext (.t 23) 0, none⟩,
    ⟨some 27, .ext (.t 23) 1, none⟩,
    ⟨some 4, .mv (.t 26), none⟩,
    ⟨some 5, .mv (.t 27), none⟩])
  (.seq (.reg [⟨some 29, .mv (.t 1), none⟩,
    ⟨some 30, .call (.k (.fn 46 [] [])) [(.t 29), (.k (.int .i64 0)), (.k (.int .i64 9))], none⟩,
    ⟨some 28, .mv (.t 30), none⟩,
    ⟨some 31, .ext (.t 28) 0, none⟩,
    ⟨some 32, .ext (.t 28) 1, none⟩,
    ⟨some 6, .mv (.t 31), none⟩,
    ⟨some 7, .mv (.t 32), none⟩])
  (.seq (.seq (.reg [⟨some 33, .mv (.t 2), none⟩,
    ⟨some 34, .bin .neq (.t 33) (.k (.int .i64 0)), none⟩,
    ⟨some 35, .mv (.t 34), none⟩,
    ⟨some 36, .mv (.t 5), some (35, false)⟩,
    ⟨some 37, .bin .neq (.t 36) (.k (.int .i64 0)), some (35, false)⟩,
    ⟨some 38, .pick (.t 35) (.k (.bool true)) (.t 37), none⟩,
    ⟨some 39, .mv (.t 38), none⟩,
    ⟨some 40, .mv (.t 7), some (39, false)⟩,
    ⟨some 41, .bin .neq (.t 40) (.k (.int .i64 0)), some (39, false)⟩,
    ⟨some 42, .pick (.t 39) (.k (.bool true)) (.t 41), none⟩,
    ⟨some 43, .mv (.t 42), none⟩,
    ⟨some 44, .mv (.t 3), some (43, false)⟩,
    ⟨some 45, .bin .neq (.t 44) (.k (.int .i64 0)), some (43, false)⟩,
    ⟨some 46, .pick (.t 43) (.k (.bool true)) (.t 45), none⟩,
    ⟨some 47, .mv (.t 46), none⟩,
    ⟨some 48, .mv (.t 4), some (47, false)⟩,
    ⟨some 49, .bin .neq (.t 48) (.k (.int .i64 1)), some (47, false)⟩,
    ⟨some 50, .pick (.t 47) (.k (.bool true)) (.t 49), none⟩,
    ⟨some 51, .mv (.t 50), none⟩,
    ⟨some 52, .mv (.t 6), some (51, false)⟩,
    ⟨some 53, .bin .neq (.t 52) (.k (.int .i64 2)), some (51, false)⟩,
    ⟨some 54, .pick (.t 51) (.k (.bool true)) (.t 53), none⟩])
  (.cond (.t 54) (.seq (.reg [⟨some 0, .mv (.k .nilp), none⟩])
    (.ret))
    (.skip)))
  (.seq (.reg [⟨some 55, .mv (.t 1), none⟩,
    ⟨some 0, .mv (.t 55), none⟩])
  (.ret))))))))
theorem b23 : Body Try.prog 23 c23 [.tmp 0] 56 := ⟨by kernel_rfl, _, _, Try.func23, rfl, by kernel_rfl, by kernel_rfl, rfl⟩
def c24 : ACode :=
  .seq (.reg [⟨some 8, .mv (.k (.int .i64 0)), none⟩,
    ⟨some 9, .mv (.k (.int .i64 0)), none⟩])
  (.seq (.seq (.reg [⟨some 11, .mv (.t 0), none⟩,
    ⟨some 12, .mv (.t 1), none⟩,
    ⟨some 13, .call (.k (.fn 47 [] [])) [(.t 11), (.t 12)], none⟩,
    ⟨some 10, .mv (.t 13), none⟩])
  (.seq (.reg [⟨some 14, .mv (.t 10), none⟩,
    ⟨some 15, .bin .neq (.t 14) (.k (.int .i64 0)), none⟩])
  (.cond (.t 15) (.seq (.reg [⟨some 16, .mv (.t 10), none⟩,
      ⟨some 8, .mv (.k (.int .i64 0)), none⟩,
      ⟨some 9, .mv (.t 16), none⟩])
    (.ret))
    (.skip))))
  (.seq (.reg [⟨some 17, .mv (.t 0), none⟩,
    ⟨some 18, .call (.k (.fn 48 [] [])) [(.t 17)], none⟩,
    ⟨some 8, .mv (.t 18), none⟩])
  (.seq (.seq (.reg [⟨some 19, .mv (.t 8), none⟩,
    ⟨some 20, .bin .eql (.t 19) (.k (.int .i64 (-1))), none⟩])
  (.cond (.t 20) (.seq (.reg [⟨some 8, .mv (.k (.int .i64 0)), none⟩,
      ⟨some 9, .mv (.k (.int .i64 5)), none⟩])
    (.ret))
    (.skip)))
  (.seq (.reg [⟨some 21, .mv (.t 0), none⟩,
    ⟨some 22, .nchk (.t 21), none⟩,
    ⟨some 23, .faddr 0 (.t 22), none⟩,
    ⟨some 24, .load false 1 (.t 23), none⟩,
    ⟨some 25, .mv (.t 8), none⟩,
    ⟨some 26, .mv (.t 2), none⟩,
    ⟨some 27, .iaddrS 4 (.t 24) (.t 25), none⟩,
    ⟨some 28, .faddr 0 (.t 27), none⟩,
    ⟨none, .store 1 (.t 28) (.t 26), none⟩])
  (.seq (.reg [⟨some 29, .mv (.t 0), none⟩,
    ⟨some 30, .mv (.t 8), none⟩,
    ⟨some 31, .mv (.t 1), none⟩,
    ⟨some 32, .mv (.t 3), none⟩,
    ⟨some 33, .call (.k (.fn 49 [] [])) [(.t 29), (.t 30), (.t 31), (.t 32)], none⟩])
  (.seq (.reg [⟨some 34, .mv (.t 8), none⟩,
    ⟨some 8, .mv (.t 34), none⟩,
    ⟨some 9, .mv (.k (.int .i64 0)), none⟩])
  (.ret)))))))
theorem b24 : Body Try.prog 24 c24 [.tmp 8, .tmp 9] 35 := ⟨by kernel_rfl, _, _, Try.func24, rfl, by kernel_rfl, by kernel_rfl, rfl⟩
def c25 : ACode :=
  .seq (.reg [⟨some 4, .mv (.k (.int .i64 0)), none⟩,
    ⟨some 5, .mv (.k (.int .i64 0)), none⟩])
  (.seq (.seq (.reg [⟨some 7, .mv (.t 0), none⟩,
    ⟨some 8, .mv (.t 1), none⟩,
    ⟨some 9, .call (.k (.fn 50 [] [])) [(.t 7), (.t 8)], none⟩,
    ⟨some 6, .mv (.t 9), none⟩])
  (.seq (.reg [⟨some 10, .mv (.t 6), none⟩,
    ⟨some 11, .bin .neq (.t 10) (.k (.int .i64 0)), none⟩])
  (.cond (.t 11) (.seq (.reg [⟨some 12, .mv (.t 4), none⟩,
      ⟨some 13, .mv (.t 6), none⟩,
      ⟨some 4, .mv (.t 12), none⟩,
      ⟨some 5, .mv (.t 13), none⟩])
    (.ret))
    (.skip))))
  (.seq (.reg [⟨some 14, .mv (.t 0), none⟩,
    ⟨some 15, .mv (.t 1), none⟩,
    ⟨some 16, .call (.k (.fn 51 [] [])) [(.t 14), (.t 15)], none⟩])
  (.seq (.regD [⟨some 17, .mv (.t 0), none⟩,
    ⟨some 18, .nchk (.t 17), none⟩,
    ⟨some 19, .faddr 0 (.t 18), none⟩,
    ⟨some 20, .load false 1 (.t 19), none⟩,
    ⟨some 21, .mv (.t 1), none⟩,
    ⟨some 22, .mv (.t 0), none⟩,
    ⟨some 23, .nchk (.t 22), none⟩,
    ⟨some 24, .faddr 0 (.t 23), none⟩,
    ⟨some 25, .load false 1 (.t 24), none⟩,
    ⟨some 26, .mv (.t 1), none⟩,
    ⟨some 27, .iaddrS 4 (.t 25) (.t 26), none⟩,
    ⟨some 28, .faddr 0 (.t 27), none⟩,
    ⟨some 29, .load false 1 (.t 28), none⟩,
    ⟨some 30, .mv (.t 4), none⟩,
    ⟨some 4, .mv (.t 29), none⟩,
    ⟨some 31, .iaddrS 4 (.t 20) (.t 21), none⟩,
    ⟨some 32, .faddr 0 (.t 31), none⟩,
    ⟨none, .store 1 (.t 32) (.t 30), none⟩] [[], [0], [1], [2], [], [], [5], [6], [7], [], [8, 9], [10], [11], [], [12, 5, 6, 7, 8, 9, 10, 11, 12, 13], [3, 4, 0, 1, 2, 3, 4, 5, 6, 7, 8, 9, 10, 11, 12, 13, 14], [15, 0, 1, 2, 3, 4, 5, 6, 7, 8, 9, 10, 11, 12, 13, 14], [16, 13, 14, 0, 1, 2, 3, 4, 5, 6, 7, 8, 9, 10, 11, 12, 13, 14]])
  (.seq (.reg [⟨some 33, .mv (.t 0), none⟩,
    ⟨some 34, .mv (.t 0), none⟩,
    ⟨some 35, .nchk (.t 34), none⟩,
    ⟨some 36, .faddr 2 (.t 35), none⟩,
    ⟨some 37, .load false 1 (.t 36), none⟩,
    ⟨some 38, .mv (.t 1), none⟩,
    ⟨some 39, .minmax false (.t 37) [(.t 38)], none⟩,
    ⟨some 40, .nchk (.t 33), none⟩,
    ⟨some 41, .faddr 2 (.t 40), none⟩,
    ⟨none, .store 1 (.t 41) (.t 39), none⟩])
  (.seq (.reg [⟨some 42, .mv (.t 4), none⟩,
    ⟨some 4, .mv (.t 42), none⟩,
    ⟨some 5, .mv (.k (.int .i64 0)), none⟩])
  (.ret))))))
theorem b25 : Body Try.prog 25 c25 [.tmp 4, .tmp 5] 43 := ⟨by kernel_rfl, _, _, Try.func25, rfl, by kernel_rfl, by kernel_rfl, rfl⟩
def c26 : ACode :=
  .seq (.reg [⟨some 4, .mv (.k .nilp), none⟩,
    ⟨some 5, .mv (.k (.int .i64 0)), none⟩])
  (.seq (.seq (.reg [⟨some 6, .mv (.t 0), none⟩,
    ⟨some 7, .bin .lss (.t 6) (.k (.int .i64 1)), none⟩,
    ⟨some 8, .mv (.t 7), none⟩,
    ⟨some 9, .mv (.t 0), some (8, false)⟩,
    ⟨some 10, .bin .gtr (.t 9) (.k (.int .i64 2000)), some (8, false)⟩,
    ⟨some 11, .pick (.t 8) (.k (.bool true)) (.t 10), none⟩,
    ⟨some 12, .mv (.t 11), none⟩,
    ⟨some 13, .mv (.t 1), some (12, false)⟩,
    ⟨some 14, .bin .lss (.t 13) (.k (.int .i64 1)), some (12, false)⟩,
    ⟨some 15, .pick (.t 12) (.k (.bool true)) (.t 14), none⟩,
    ⟨some 16, .mv (.t 15), none⟩,
    ⟨some 17, .mv (.t 1), some (16, false)⟩,
    ⟨some 18, .bin .gtr (.t 17) (.k (.int .i64 64)), some (16, false)⟩,
    ⟨some 19, .pick (.t 16) (.k (.bool true)) (.t 18), none⟩])
  (.cond (.t 19) (.seq (.reg [⟨some 4, .mv (.k .nilp), none⟩,
      ⟨some 5, .mv (.k (.int .i64 7)), none⟩])
    (.ret))
    (.skip)))
  (.seq (.reg [⟨some 20, .mv (.t 0), none⟩,
    ⟨some 21, .mv (.t 1), none⟩,
    ⟨some 22, .call (.k (.fn 52 [] [])) [(.t 20), (.t 21)], none⟩,
    ⟨some 4, .mv (.t 22), none⟩,
    ⟨some 5, .mv (.k (.int .i64 0)), none⟩])
  (.ret)))
theorem b26 : Body Try.prog 26 c26 [.tmp 4, .tmp 5] 23 := ⟨by kernel_rfl, _, _, Try.func26, rfl, by kernel_rfl, by kernel_rfl, rfl⟩
def c27 : ACode :=
  .seq (.reg [⟨some 4, .new [(.int .i64 0), .nils, .nils], none⟩,
    ⟨some 5, .mv (.k (.int .i64 0)), none⟩])
  (.seq (.seq (.reg [⟨some 8, .mv (.t 0), none⟩,
    ⟨some 9, .bin .lss (.t 8) (.k (.int .i64 1)), none⟩,
    ⟨some 10, .mv (.t 9), none⟩,
    ⟨some 11, .mv (.t 0), some (10, false)⟩,
    ⟨some 12, .bin .gtr (.t 11) (.k (.int .i64 2000)), some (10, false)⟩,
    ⟨some 13, .pick (.t 10) (.k (.bool true)) (.t 12), none⟩,
    ⟨some 14, .mv (.t 13), none⟩,
    ⟨some 15, .mv (.t 1), some (14, false)⟩,
    ⟨some 16, .bin .lss (.t 15) (.k (.int .i64 1)), some (14, false)⟩,
    ⟨some 17, .pick (.t 14) (.k (.bool true)) (.t 16), none⟩,
    ⟨some 18, .mv (.t 17), none⟩,
    ⟨some 19, .mv (.t 1), some (18, false)⟩,
    ⟨some 20, .bin .gtr (.t 19) (.k (.int .i64 64)), some (18, false)⟩,
    ⟨some 21, .pick (.t 18) (.k (.bool true)) (.t 20), none⟩])
  (.cond (.t 21) (.seq (.reg [⟨some 22, .build [(.int .i64 0), .nils, .nils] [], none⟩,
      ⟨none, .store 3 (.t 4) (.t 22), none⟩,
      ⟨some 5, .mv (.k (.int .i64 7)), none⟩])
    (.ret))
    (.skip)))
  (.seq (.reg [⟨some 23, .mv (.t 0), none⟩,
    ⟨some 24, .mv (.t 0), none⟩,
    ⟨some 25, .mks 1 8 [(.int .i64 0)] (.t 24) (.t 24), none⟩,
    ⟨some 26, .build [(.int .i64 0), .nils, .nils] [(0, 1, (.t 23)), (2, 1, (.t 25))], none⟩,
    ⟨some 6, .new [(.int .i64 0), .nils, .nils], none⟩,
    ⟨none, .store 3 (.t 6) (.t 26), none⟩])
  (.seq (.seq (.reg [⟨some 7, .mv (.k (.int .i64 0)), none⟩])
  (.block 0 (.loop (.seq (.seq (.reg [⟨some 27, .mv (.t 7), none⟩,
      ⟨some 28, .mv (.t 1), none⟩,
      ⟨some 29, .bin .lss (.t 27) (.t 28), none⟩])
    (.cond (.t 29) (.skip)
      (.exit 0)))
    (.seq (.block 1 (.reg [⟨some 32, .faddr 1 (.t 6), none⟩,
       ⟨some 33, .load false 1 (.t 32), none⟩,
       ⟨some 34, .bslice 1 1 [.nils] [(0, 1, (.k .nils))], none⟩,
       ⟨some 35, .append 1 24 (.t 33) (.t 34), none⟩,
       ⟨some 36, .faddr 1 (.t 6), none⟩,
       ⟨none, .store 1 (.t 36) (.t 35), none⟩]))
    (.reg [⟨some 30, .mv (.t 7), none⟩,
      ⟨some 31, .bin .add (.t 30) (.k (.int .i64 1)), none⟩,
      ⟨some 7, .mv (.t 31), none⟩]))))))
  (.seq (.reg [⟨some 37, .load true 3 (.t 6), none⟩,
    ⟨none, .store 3 (.t 4) (.t 37), none⟩,
    ⟨some 5, .mv (.k (.int .i64 0)), none⟩])
  (.ret)))))
theorem b27 : Body Try.prog 27 c27 [.cell 4 true 3, .tmp 5] 38 := ⟨by kernel_rfl, _, _, Try.func27, rfl, by kernel_rfl, by kernel_rfl, rfl⟩
def c28 : ACode :=
  .seq (.reg [⟨some 5, .box (.t 2), none⟩,
    ⟨some 6, .mv (.k (.bool false)), none⟩])
  (.seq (.seq (.reg [⟨some 39, .faddr 0 (.t 5), none⟩,
    ⟨some 40, .load false 1 (.t 39), none⟩,
    ⟨some 41, .bin .rem (.t 40) (.k (.int .u8 10)), none⟩])
  (.block 0 (.seq (.reg [⟨some 43, .bin .eql (.t 41) (.k (.int .u8 3)), none⟩,
     ⟨some 42, .mv (.t 43), none⟩])
   (.cond (.t 42) (.seq (.reg [⟨some 45, .mv (.t 0), none⟩,
       ⟨some 46, .faddr 1 (.t 5), none⟩,
       ⟨some 47, .load false 1 (.t 46), none⟩,
       ⟨some 48, .faddr 3 (.t 5), none⟩,
       ⟨some 49, .load false 1 (.t 48), none⟩,
       ⟨some 50, .call (.k (.fn 46 [] [])) [(.t 45), (.t 47), (.t 49)], none⟩,
       ⟨some 44, .mv (.t 50), none⟩,
       ⟨some 51, .ext (.t 44) 0, none⟩,
       ⟨some 52, .ext (.t 44) 1, none⟩,
       ⟨some 7, .mv (.t 51), none⟩,
       ⟨some 8, .mv (.t 52), none⟩])
     (.seq (.reg [⟨some 54, .mv (.t 1), none⟩,
       ⟨some 55, .faddr 1 (.t 5), none⟩,
       ⟨some 56, .load false 1 (.t 55), none⟩,
       ⟨some 57, .faddr 3 (.t 5), none⟩,
       ⟨some 58, .load false 1 (.t 57), none⟩,
       ⟨some 59, .call (.k (.fn 53 [] [])) [(.t 54), (.t 56), (.t 58)], none⟩,
       ⟨some 53, .mv (.t 59), none⟩,
       ⟨some 60, .ext (.t 53) 0, none⟩,
       ⟨some 61, .ext (.t 53) 1, none⟩,
       ⟨some 9, .mv (.t 60), none⟩,
       ⟨some 10, .mv (.t 61), none⟩])
     (.seq (.reg [⟨some 62, .mv (.t 7), none⟩,
       ⟨some 63, .mv (.t 9), none⟩,
       ⟨some 64, .bin .eql (.t 62) (.t 63), none⟩,
       ⟨some 65, .mv (.t 64), none⟩,
       ⟨some 66, .mv (.t 8), some (65, true)⟩,
       ⟨some 67, .mv (.t 10), some (65, true)⟩,
       ⟨some 68, .bin .eql (.t 66) (.t 67), some (65, true)⟩,
       ⟨some 69, .pick (.t 65) (.t 68) (.k (.bool false)), none⟩,
       ⟨some 6, .mv (.t 69), none⟩])
     (.ret))))
     (.seq (.reg [⟨some 71, .bin .eql (.t 41) (.k (.int .u8 4)), none⟩,
       ⟨some 70, .mv (.t 71), none⟩])
     (.cond (.t 70) (.seq (.reg [⟨some 73, .mv (.t 0), none⟩,
         ⟨some 74, .faddr 1 (.t 5), none⟩,
         ⟨some 75, .load false 1 (.t 74), none⟩,
         ⟨some 76, .call (.k (.fn 25 [] [])) [(.t 73), (.t 75)], none⟩,
         ⟨some 72, .mv (.t 76), none⟩,
         ⟨some 77, .ext (.t 72) 0, none⟩,
         ⟨some 78, .ext (.t 72) 1, none⟩,
         ⟨some 11, .mv (.t 77), none⟩,
         ⟨some 12, .mv (.t 78), none⟩])
       (.seq (.reg [⟨some 80, .mv (.t 1), none⟩,
         ⟨some 81, .faddr 1 (.t 5), none⟩,
         ⟨some 82, .load false 1 (.t 81), none⟩,
         ⟨some 83, .call (.k (.fn 54 [] [])) [(.t 80), (.t 82)], none⟩,
         ⟨some 79, .mv (.t 83), none⟩,
         ⟨some 84, .ext (.t 79) 0, none⟩,
         ⟨some 85, .ext (.t 79) 1, none⟩,
         ⟨some 13, .mv (.t 84), none⟩,
         ⟨some 14, .mv (.t 85), none⟩])
       (.seq (.reg [⟨some 86, .mv (.t 11), none⟩,
         ⟨some 87, .mv (.t 13), none⟩,
         ⟨some 88, .bin .eql (.t 86) (.t 87), none⟩,
         ⟨some 89, .mv (.t 88), none⟩,
         ⟨some 90, .mv (.t 12), some (89, true)⟩,
         ⟨some 91, .mv (.t 14), some (89, true)⟩,
         ⟨some 92, .bin .eql (.t 90) (.t 91), some (89, true)⟩,
         ⟨some 93, .pick (.t 89) (.t 92) (.k (.bool false)), none⟩,
         ⟨some 6, .mv (.t 93), none⟩])
       (.ret))))
       (.seq (.reg [⟨some 95, .bin .eql (.t 41) (.k (.int .u8 5)), none⟩,
         ⟨some 94, .mv (.t 95), none⟩])
       (.cond (.t 94) (.seq (.regD [⟨some 96, .mv (.t 0), none⟩,
           ⟨some 97, .faddr 1 (.t 5), none⟩,
           ⟨some 98, .load false 1 (.t 97), none⟩,
           ⟨some 99, .faddr 2 (.t 5), none⟩,
           ⟨some 100, .load false 1 (.t 99), none⟩,
           ⟨some 101, .faddr 4 (.t 5), none⟩,
           ⟨some 102, .load false 1 (.t 101), none⟩,
           ⟨some 103, .call (.k (.fn 55 [] [])) [(.t 96), (.t 98), (.t 100), (.t 102)], none⟩,
           ⟨some 104, .mv (.t 1), none⟩,
           ⟨some 105, .faddr 1 (.t 5), none⟩,
           ⟨some 106, .load false 1 (.t 105), none⟩,
           ⟨some 107, .faddr 2 (.t 5), none⟩,
           ⟨some 108, .load false 1 (.t 107), none⟩,
           ⟨some 109, .faddr 4 (.t 5), none⟩,
           ⟨some 110, .load false 1 (.t 109), none⟩,
           ⟨some 111, .call (.k (.fn 56 [] [])) [(.t 104), (.t 106), (.t 108), (.t 110)], none⟩,
           ⟨some 112, .bin .eql (.t 103) (.t 111), none⟩,
           ⟨some 6, .mv (.t 112), none⟩] [[], [], [1], [], [3], [], [5], [0, 2, 4, 6], [], [], [9], [], [11], [], [13], [8, 10, 12, 14, 7], [7, 15], [16, 15, 0, 1, 2, 3, 4, 5, 6, 7, 8, 9, 10, 11, 12, 13, 14, 15, 16]])
         (.ret))
         (.seq (.reg [⟨some 114, .bin .eql (.t 41) (.k (.int .u8 6)), none⟩,
           ⟨some 113, .mv (.t 114), none⟩])
         (.cond (.t 113) (.seq (.regD [⟨some 115, .mv (.t 0), none⟩,
             ⟨some 116, .faddr 1 (.t 5), none⟩,
             ⟨some 117, .load false 1 (.t 116), none⟩,
             ⟨some 118, .faddr 3 (.t 5), none⟩,
             ⟨some 119, .load false 1 (.t 118), none⟩,
             ⟨some 120, .call (.k (.fn 57 [] [])) [(.t 115), (.t 117), (.t 119)], none⟩,
             ⟨some 121, .mv (.t 1), none⟩,
             ⟨some 122, .faddr 1 (.t 5), none⟩,
             ⟨some 123, .load false 1 (.t 122), none⟩,
             ⟨some 124, .faddr 3 (.t 5), none⟩,
             ⟨some 125, .load false 1 (.t 124), none⟩,
             ⟨some 126, .call (.k (.fn 58 [] [])) [(.t 121), (.t 123), (.t 125)], none⟩,
             ⟨some 127, .bin .eql (.t 120) (.t 126), none⟩,
             ⟨some 6, .mv (.t 127), none⟩] [[], [], [1], [], [3], [0, 2, 4], [], [], [7], [], [9], [6, 8, 10, 5], [5, 11], [12, 11, 0, 1, 2, 3, 4, 5, 6, 7, 8, 9, 10, 11, 12]])
           (.ret))
           (.seq (.reg [⟨some 129, .bin .eql (.t 41) (.k (.int .u8 7)), none⟩,
             ⟨some 128, .mv (.t 129), none⟩])
           (.cond (.t 128) (.seq (.reg [⟨some 131, .mv (.t 0), none⟩,
               ⟨some 132, .faddr 1 (.t 5), none⟩,
               ⟨some 133, .load false 1 (.t 132), none⟩,
               ⟨some 134, .call (.k (.fn 59 [] [])) [(.t 131), (.t 133)], none⟩,
               ⟨some 130, .mv (.t 134), none⟩,
               ⟨some 135, .ext (.t 130) 0, none⟩,
               ⟨some 136, .ext (.t 130) 1, none⟩,
               ⟨some 15, .mv (.t 135), none⟩,
               ⟨some 16, .mv (.t 136), none⟩])
             (.seq (.reg [⟨some 138, .mv (.t 1), none⟩,
               ⟨some 139, .faddr 1 (.t 5), none⟩,
               ⟨some 140, .load false 1 (.t 139), none⟩,
               ⟨some 141, .call (.k (.fn 60 [] [])) [(.t 138), (.t 140)], none⟩,
               ⟨some 137, .mv (.t 141), none⟩,
               ⟨some 142, .ext (.t 137) 0, none⟩,
               ⟨some 143, .ext (.t 137) 1, none⟩,
               ⟨some 17, .mv (.t 142), none⟩,
               ⟨some 18, .mv (.t 143), none⟩])
             (.seq (.reg [⟨some 145, .mv (.t 0), none⟩,
               ⟨some 146, .faddr 1 (.t 5), none⟩,
               ⟨some 147, .load false 1 (.t 146), none⟩,
               ⟨some 148, .call (.k (.fn 61 [] [])) [(.t 145), (.t 147)], none⟩,
               ⟨some 144, .mv (.t 148), none⟩,
               ⟨some 149, .ext (.t 144) 0, none⟩,
               ⟨some 150, .ext (.t 144) 1, none⟩,
               ⟨some 19, .mv (.t 149), none⟩,
               ⟨some 20, .mv (.t 150), none⟩])
             (.seq (.reg [⟨some 152, .mv (.t 1), none⟩,
               ⟨some 153, .faddr 1 (.t 5), none⟩,
               ⟨some 154, .load false 1 (.t 153), none⟩,
               ⟨some 155, .call (.k (.fn 62 [] [])) [(.t 152), (.t 154)], none⟩,
               ⟨some 151, .mv (.t 155), none⟩,
               ⟨some 156, .ext (.t 151) 0, none⟩,
               ⟨some 157, .ext (.t 151) 1, none⟩,
               ⟨some 21, .mv (.t 156), none⟩,
               ⟨some 22, .mv (.t 157), none⟩])
             (.seq (.reg [⟨some 158, .mv (.t 15), none⟩,
               ⟨some 159, .mv (.t 17), none⟩,
               ⟨some 160, .bin .eql (.t 158) (.t 159), none⟩,
               ⟨some 161, .mv (.t 160), none⟩,
               ⟨some 162, .mv (.t 16), some (161, true)⟩,
               ⟨some 163, .mv (.t 18), some (161, true)⟩,
               ⟨some 164, .bin .eql (.t 162) (.t 163), some (161, true)⟩,
               ⟨some 165, .pick (.t 161) (.t 164) (.k (.bool false)), none⟩,
               ⟨some 166, .mv (.t 165), none⟩,
               ⟨some 167, .mv (.t 19), some (166, true)⟩,
               ⟨some 168, .mv (.t 21), some (166, true)⟩,
               ⟨some 169, .bin .eql (.t 167) (.t 168), some (166, true)⟩,
               ⟨some 170, .pick (.t 166) (.t 169) (.k (.bool false)), none⟩,
               ⟨some 171, .mv (.t 170), none⟩,
               ⟨some 172, .mv (.t 20), some (171, true)⟩,
               ⟨some 173, .mv (.t 22), some (171, true)⟩,
               ⟨some 174, .bin .eql (.t 172) (.t 173), some (171, true)⟩,
               ⟨some 175, .pick (.t 171) (.t 174) (.k (.bool false)), none⟩,
               ⟨some 6, .mv (.t 175), none⟩])
             (.ret))))))
             (.seq (.reg [⟨some 177, .bin .eql (.t 41) (.k (.int .u8 8)), none⟩,
               ⟨some 176, .mv (.t 177), none⟩])
             (.cond (.t 176) (.seq (.reg [⟨some 179, .mv (.t 0), none⟩,
                 ⟨some 180, .faddr 1 (.t 5), none⟩,
                 ⟨some 181, .load false 1 (.t 180), none⟩,
                 ⟨some 182, .faddr 4 (.t 5), none⟩,
                 ⟨some 183, .load false 1 (.t 182), none⟩,
                 ⟨some 184, .call (.k (.fn 63 [] [])) [(.t 179), (.t 181), (.t 183)], none⟩,
                 ⟨some 178, .mv (.t 184), none⟩,
                 ⟨some 185, .ext (.t 178) 0, none⟩,
                 ⟨some 186, .ext (.t 178) 1, none⟩,
                 ⟨some 23, .mv (.t 185), none⟩,
                 ⟨some 24, .mv (.t 186), none⟩])
               (.seq (.reg [⟨some 188, .mv (.t 1), none⟩,
                 ⟨some 189, .faddr 1 (.t 5), none⟩,
                 ⟨some 190, .load false 1 (.t 189), none⟩,
                 ⟨some 191, .faddr 4 (.t 5), none⟩,
                 ⟨some 192, .load false 1 (.t 191), none⟩,
                 ⟨some 193, .call (.k (.fn 64 [] [])) [(.t 188), (.t 190), (.t 192)], none⟩,
                 ⟨some 187, .mv (.t 193), none⟩,
                 ⟨some 194, .ext (.t 187) 0, none⟩,
                 ⟨some 195, .ext (.t 187) 1, none⟩,
                 ⟨some 25, .mv (.t 194), none⟩,
                 ⟨some 26, .mv (.t 195), none⟩])
               (.seq (.reg [⟨some 196, .mv (.t 23), none⟩,
                 ⟨some 197, .mv (.t 25), none⟩,
                 ⟨some 198, .bin .eql (.t 196) (.t 197), none⟩,
                 ⟨some 199, .mv (.t 198), none⟩,
                 ⟨some 200, .mv (.t 24), some (199, true)⟩,
                 ⟨some 201, .mv (.t 26), some (199, true)⟩,
                 ⟨some 202, .bin .eql (.t 200) (.t 201), some (199, true)⟩,
                 ⟨some 203, .pick (.t 199) (.t 202) (.k (.bool false)), none⟩,
                 ⟨some 6, .mv (.t 203), none⟩])
               (.ret))))
               (.seq (.reg [⟨some 205, .bin .eql (.t 41) (.k (.int .u8 9)), none⟩,
                 ⟨some 204, .mv (.t 205), none⟩])
               (.cond (.t 204) (.seq (.reg [⟨some 207, .mv (.t 0), none⟩,
                   ⟨some 208, .faddr 2 (.t 5), none⟩,
                   ⟨some 209, .load false 1 (.t 208), none⟩,
                   ⟨some 210, .faddr 4 (.t 5), none⟩,
                   ⟨some 211, .load false 1 (.t 210), none⟩,
                   ⟨some 212, .call (.k (.fn 65 [] [])) [(.t 207), (.t 209), (.t 211)], none⟩,
                   ⟨some 206, .mv (.t 212), none⟩,
                   ⟨some 213, .ext (.t 206) 0, none⟩,
                   ⟨some 214, .ext (.t 206) 1, none⟩,
                   ⟨some 27, .mv (.t 213), none⟩,
                   ⟨some 28, .mv (.t 214), none⟩])
                 (.seq (.reg [⟨some 216, .mv (.t 1), none⟩,
                   ⟨some 217, .faddr 2 (.t 5), none⟩,
                   ⟨some 218, .load false 1 (.t 217), none⟩,
                   ⟨some 219, .faddr 4 (.t 5), none⟩,
                   ⟨some 220, .load false 1 (.t 219), none⟩,
                   ⟨some 221, .call (.k (.fn 66 [] [])) [(.t 216), (.t 218), (.t 220)], none⟩,
                   ⟨some 215, .mv (.t 221), none⟩,
                   ⟨some 222, .ext (.t 215) 0, none⟩,
                   ⟨some 223, .ext (.t 215) 1, none⟩,
                   ⟨some 29, .mv (.t 222), none⟩,
                   ⟨some 30, .mv (.t 223), none⟩])
                 (.seq (.reg [⟨some 225, .mv (.t 0), none⟩,
                   ⟨some 226, .faddr 2 (.t 5), none⟩,
                   ⟨some 227, .load false 1 (.t 226), none⟩,
                   ⟨some 228, .call (.k (.fn 67 [] [])) [(.t 225), (.t 227)], none⟩,
                   ⟨some 224, .mv (.t 228), none⟩,
                   ⟨some 229, .ext (.t 224) 0, none⟩,
                   ⟨some 230, .ext (.t 224) 1, none⟩,
                   ⟨some 31, .mv (.t 229), none⟩,
                   ⟨some 32, .mv (.t 230), none⟩])
                 (.seq (.reg [⟨some 232, .mv (.t 1), none⟩,
                   ⟨some 233, .faddr 2 (.t 5), none⟩,
                   ⟨some 234, .load false 1 (.t 233), none⟩,
                   ⟨some 235, .call (.k (.fn 68 [] [])) [(.t 232), (.t 234)], none⟩,
                   ⟨some 231, .mv (.t 235), none⟩,
                   ⟨some 236, .ext (.t 231) 0, none⟩,
                   ⟨some 237, .ext (.t 231) 1, none⟩,
                   ⟨some 33, .mv (.t 236), none⟩,
                   ⟨some 34, .mv (.t 237), none⟩])
                 (.seq (.reg [⟨some 238, .mv (.t 27), none⟩,
                   ⟨some 239, .mv (.t 29), none⟩,
                   ⟨some 240, .bin .eql (.t 238) (.t 239), none⟩,
                   ⟨some 241, .mv (.t 240), none⟩,
                   ⟨some 242, .mv (.t 28), some (241, true)⟩,
                   ⟨some 243, .mv (.t 30), some (241, true)⟩,
                   ⟨some 244, .bin .eql (.t 242) (.t 243), some (241, true)⟩,
                   ⟨some 245, .pick (.t 241) (.t 244) (.k (.bool false)), none⟩,
                   ⟨some 246, .mv (.t 245), none⟩,
                   ⟨some 247, .mv (.t 31), some (246, true)⟩,
                   ⟨some 248, .mv (.t 33), some (246, true)⟩,
                   ⟨some 249, .bin .eql (.t 247) (.t 248), some (246, true)⟩,
                   ⟨some 250, .pick (.t 246) (.t 249) (.k (.bool false)), none⟩,
                   ⟨some 251, .mv (.t 250), none⟩,
                   ⟨some 252, .mv (.t 32), some (251, true)⟩,
                   ⟨some 253, .mv (.t 34), some (251, true)⟩,
                   ⟨some 254, .bin .eql (.t 252) (.t 253), some (251, true)⟩,
                   ⟨some 255, .pick (.t 251) (.t 254) (.k (.bool false)), none⟩,
                   ⟨some 6, .mv (.t 255), none⟩])
                 (.ret))))))
                 (.skip)))))))))))))))))
  (.seq (.reg [⟨some 257, .mv (.t 0), none⟩,
    ⟨some 258, .faddr 2 (.t 5), none⟩,
    ⟨some 259, .load false 1 (.t 258), none⟩,
    ⟨some 260, .faddr 3 (.t 5), none⟩,
    ⟨some 261, .load false 1 (.t 260), none⟩,
    ⟨some 262, .faddr 4 (.t 5), none⟩,
    ⟨some 263, .load false 1 (.t 262), none⟩,
    ⟨some 264, .call (.k (.fn 24 [] [])) [(.t 257), (.t 259), (.t 261), (.t 263)], none⟩,
    ⟨some 256, .mv (.t 264), none⟩,
    ⟨some 265, .ext (.t 256) 0, none⟩,
    ⟨some 266, .ext (.t 256) 1, none⟩,
    ⟨some 35, .mv (.t 265), none⟩,
    ⟨some 36, .mv (.t 266), none⟩])
  (.seq (.reg [⟨some 268, .mv (.t 1), none⟩,
    ⟨some 269, .faddr 2 (.t 5), none⟩,
    ⟨some 270, .load false 1 (.t 269), none⟩,
    ⟨some 271, .faddr 3 (.t 5), none⟩,
    ⟨some 272, .load false 1 (.t 271), none⟩,
    ⟨some 273, .faddr 4 (.t 5), none⟩,
    ⟨some 274, .load false 1 (.t 273), none⟩,
    ⟨some 275, .call (.k (.fn 69 [] [])) [(.t 268), (.t 270), (.t 272), (.t 274)], none⟩,
    ⟨some 267, .mv (.t 275), none⟩,
    ⟨some 276, .ext (.t 267) 0, none⟩,
    ⟨some 277, .ext (.t 267) 1, none⟩,
    ⟨some 37, .mv (.t 276), none⟩,
    ⟨some 38, .mv (.t 277), none⟩])
  (.seq (.reg [⟨some 278, .mv (.t 35), none⟩,
    ⟨some 279, .mv (.t 37), none⟩,
    ⟨some 280, .bin .eql (.t 278) (.t 279), none⟩,
    ⟨some 281, .mv (.t 280), none⟩,
    ⟨some 282, .mv (.t 36), some (281, true)⟩,
    ⟨some 283, .mv (.t 38), some (281, true)⟩,
    ⟨some 284, .bin .eql (.t 282) (.t 283), some (281, true)⟩,
    ⟨some 285, .pick (.t 281) (.t 284) (.k (.bool false)), none⟩,
    ⟨some 6, .mv (.t 285), none⟩])
  (.ret)))))
theorem b28 : Body Try.prog 28 c28 [.tmp 6] 286 := ⟨by kernel_rfl, _, _, Try.func28, rfl, by kernel_rfl, by kernel_rfl, rfl⟩
def c29 : ACode :=
  .seq (.reg [⟨some 4, .mv (.k .nilp), none⟩])
  (.seq (.regD [⟨some 8, .mv (.t 0), none⟩,
    ⟨some 9, .mks 5 48 [(.str ⟨#[]⟩), (.int .i64 0), (.int .i64 0), (.int .i64 0), (.int .i64 0)] (.t 8) (.t 8), none⟩,
    ⟨some 10, .mv (.t 1), none⟩,
    ⟨some 11, .mks 3 24 [(.int .i64 0), (.int .i64 0), (.int .i64 0)] (.t 10) (.t 10), none⟩,
    ⟨some 12, .build [.nils, .nils, (.int .i64 0)] [(0, 1, (.t 9)), (1, 1, (.t 11))], none⟩,
    ⟨some 13, .box (.t 12), none⟩,
    ⟨some 5, .mv (.t 13), none⟩] [[], [0, 0], [], [2, 2], [1, 3], [4], [5, 0, 1, 2, 3, 4, 5]])
  (.seq (.seq (.reg [⟨some 14, .mv (.t 5), none⟩,
    ⟨some 15, .nchk (.t 14), none⟩,
    ⟨some 16, .faddr 0 (.t 15), none⟩,
    ⟨some 17, .load false 1 (.t 16), none⟩,
    ⟨some 18, .len (.t 17), none⟩,
    ⟨some 19, .mv (.k (.int .i64 0)), none⟩])
  (.block 0 (.loop (.seq (.reg [⟨some 20, .bin .lss (.t 19) (.t 18), none⟩])
    (.seq (.cond (.t 20) (.skip)
      (.exit 0))
    (.seq (.block 1 (.seq (.reg [⟨some 21, .mv (.t 19), none⟩,
       ⟨some 6, .mv (.t 21), none⟩])
     (.reg [⟨some 22, .mv (.t 5), none⟩,
       ⟨some 23, .nchk (.t 22), none⟩,
       ⟨some 24, .faddr 0 (.t 23), none⟩,
       ⟨some 25, .load false 1 (.t 24), none⟩,
       ⟨some 26, .mv (.t 6), none⟩,
       ⟨some 27, .build [(.str ⟨#[]⟩), (.int .i64 0), (.int .i64 0), (.int .i64 0), (.int .i64 0)] [(2, 1, (.k (.int .i64 (-1)))), (3, 1, (.k (.int .i64 (-1)))), (4, 1, (.k (.int .i64 (-1))))], none⟩,
       ⟨some 28, .iaddrS 5 (.t 25) (.t 26), none⟩,
       ⟨none, .store 5 (.t 28) (.t 27), none⟩])))
    (.reg [⟨some 29, .bin .add (.t 19) (.k (.int .i64 1)), none⟩,
      ⟨some 19, .mv (.t 29), none⟩])))))))
  (.seq (.seq (.reg [⟨some 30, .mv (.t 5), none⟩,
    ⟨some 31, .nchk (.t 30), none⟩,
    ⟨some 32, .faddr 1 (.t 31), none⟩,
    ⟨some 33, .load false 1 (.t 32), none⟩,
    ⟨some 34, .len (.t 33), none⟩,
    ⟨some 35, .mv (.k (.int .i64 0)), none⟩])
  (.block 2 (.loop (.seq (.reg [⟨some 36, .bin .lss (.t 35) (.t 34), none⟩])
    (.seq (.cond (.t 36) (.skip)
      (.exit 2))
    (.seq (.block 3 (.seq (.reg [⟨some 37, .mv (.t 35), none⟩,
       ⟨some 7, .mv (.t 37), none⟩])
     (.reg [⟨some 38, .mv (.t 5), none⟩,
       ⟨some 39, .nchk (.t 38), none⟩,
       ⟨some 40, .faddr 1 (.t 39), none⟩,
       ⟨some 41, .load false 1 (.t 40), none⟩,
       ⟨some 42, .mv (.t 7), none⟩,
       ⟨some 43, .build [(.int .i64 0), (.int .i64 0), (.int .i64 0)] [(0, 1, (.k (.int .i64 (-1)))), (1, 1, (.k (.int .i64 (-1)))), (2, 1, (.k (.int .i64 0)))], none⟩,
       ⟨some 44, .iaddrS 3 (.t 41) (.t 42), none⟩,
       ⟨none, .store 3 (.t 44) (.t 43), none⟩])))
    (.reg [⟨some 45, .bin .add (.t 35) (.k (.int .i64 1)), none⟩,
      ⟨some 35, .mv (.t 45), none⟩])))))))
  (.seq (.reg [⟨some 46, .mv (.t 5), none⟩,
    ⟨some 4, .mv (.t 46), none⟩])
  (.ret)))))
theorem b29 : Body Try.prog 29 c29 [.tmp 4] 47 := ⟨by kernel_rfl, _, _, Try.func29, rfl, by kernel_rfl, by kernel_rfl, rfl⟩
def c30 : ACode :=
  .seq (.reg [⟨some 4, .mv (.k .nilp), none⟩])
  (.seq (.regD [⟨some 8, .mv (.t 0), none⟩,
    ⟨some 9, .mks 4 32 [.nilp, (.int .i64 0), (.int .i64 0), (.int .i64 0)] (.t 8) (.t 8), none⟩,
    ⟨some 10, .mv (.t 1), none⟩,
    ⟨some 11, .mks 3 24 [(.int .i64 0), (.int .i64 0), (.int .i64 0)] (.t 10) (.t 10), none⟩,
    ⟨some 12, .build [.nils, .nils, (.int .i64 0)] [(0, 1, (.t 9)), (1, 1, (.t 11))], none⟩,
    ⟨some 13, .box (.t 12), none⟩,
    ⟨some 5, .mv (.t 13), none⟩] [[], [0, 0], [], [2, 2], [1, 3], [4], [5, 0, 1, 2, 3, 4, 5]])
  (.seq (.seq (.reg [⟨some 14, .mv (.t 5), none⟩,
    ⟨some 15, .nchk (.t 14), none⟩,
    ⟨some 16, .faddr 0 (.t 15), none⟩,
    ⟨some 17, .load false 1 (.t 16), none⟩,
    ⟨some 18, .len (.t 17), none⟩,
    ⟨some 19, .mv (.k (.int .i64 0)), none⟩])
  (.block 0 (.loop (.seq (.reg [⟨some 20, .bin .lss (.t 19) (.t 18), none⟩])
    (.seq (.cond (.t 20) (.skip)
      (.exit 0))
    (.seq (.block 1 (.seq (.reg [⟨some 21, .mv (.t 19), none⟩,
       ⟨some 6, .mv (.t 21), none⟩])
     (.reg [⟨some 22, .mv (.t 5), none⟩,
       ⟨some 23, .nchk (.t 22), none⟩,
       ⟨some 24, .faddr 0 (.t 23), none⟩,
       ⟨some 25, .load false 1 (.t 24), none⟩,
       ⟨some 26, .mv (.t 6), none⟩,
       ⟨some 27, .build [.nilp, (.int .i64 0), (.int .i64 0), (.int .i64 0)] [(1, 1, (.k (.int .i64 (-1)))), (2, 1, (.k (.int .i64 (-1)))), (3, 1, (.k (.int .i64 (-1))))], none⟩,
       ⟨some 28, .iaddrS 4 (.t 25) (.t 26), none⟩,
       ⟨none, .store 4 (.t 28) (.t 27), none⟩])))
    (.reg [⟨some 29, .bin .add (.t 19) (.k (.int .i64 1)), none⟩,
      ⟨some 19, .mv (.t 29), none⟩])))))))
  (.seq (.seq (.reg [⟨some 30, .mv (.t 5), none⟩,
    ⟨some 31, .nchk (.t 30), none⟩,
    ⟨some 32, .faddr 1 (.t 31), none⟩,
    ⟨some 33, .load false 1 (.t 32), none⟩,
    ⟨some 34, .len (.t 33), none⟩,
    ⟨some 35, .mv (.k (.int .i64 0)), none⟩])
  (.block 2 (.loop (.seq (.reg [⟨some 36, .bin .lss (.t 35) (.t 34), none⟩])
    (.seq (.cond (.t 36) (.skip)
      (.exit 2))
    (.seq (.block 3 (.seq (.reg [⟨some 37, .mv (.t 35), none⟩,
       ⟨some 7, .mv (.t 37), none⟩])
     (.reg [⟨some 38, .mv (.t 5), none⟩,
       ⟨some 39, .nchk (.t 38), none⟩,
       ⟨some 40, .faddr 1 (.t 39), none⟩,
       ⟨some 41, .load false 1 (.t 40), none⟩,
       ⟨some 42, .mv (.t 7), none⟩,
       ⟨some 43, .build [(.int .i64 0), (.int .i64 0), (.int .i64 0)] [(0, 1, (.k (.int .i64 (-1)))), (1, 1, (.k (.int .i64 (-1)))), (2, 1, (.k (.int .i64 0)))], none⟩,
       ⟨some 44, .iaddrS 3 (.t 41) (.t 42), none⟩,
       ⟨none, .store 3 (.t 44) (.t 43), none⟩])))
    (.reg [⟨some 45, .bin .add (.t 35) (.k (.int .i64 1)), none⟩,
      ⟨some 35, .mv (.t 45), none⟩])))))))
  (.seq (.reg [⟨some 46, .mv (.t 5), none⟩,
    ⟨some 4, .mv (.t 46), none⟩])
  (.ret)))))
theorem b30 : Body Try.prog 30 c30 [.tmp 4] 47 := ⟨by kernel_rfl, _, _, Try.func30, rfl, by kernel_rfl, by kernel_rfl, rfl⟩
def c31 : ACode :=
  .seq (.reg [⟨some 4, .mv (.k (.int .i64 0)), none⟩])
  (.seq (.block 0 (.seq (.reg [⟨some 6, .mv (.t 0), none⟩,
     ⟨some 7, .call (.k (.fn 44 [] [])) [(.t 6)], none⟩,
     ⟨some 8, .un .not (.t 7), none⟩,
     ⟨some 5, .mv (.t 8), none⟩])
   (.cond (.t 5) (.seq (.reg [⟨some 4, .mv (.k (.int .i64 1)), none⟩])
     (.ret))
     (.seq (.reg [⟨some 10, .mv (.t 1), none⟩,
       ⟨some 11, .bin .lss (.t 10) (.k (.int .i64 0)), none⟩,
       ⟨some 12, .mv (.t 11), none⟩,
       ⟨some 13, .mv (.t 1), some (12, false)⟩,
       ⟨some 14, .mv (.t 0), some (12, false)⟩,
       ⟨some 15, .nchk (.t 14), some (12, false)⟩,
       ⟨some 16, .faddr 1 (.t 15), some (12, false)⟩,
       ⟨some 17, .load false 1 (.t 16), some (12, false)⟩,
       ⟨some 18, .len (.t 17), some (12, false)⟩,
       ⟨some 19, .bin .geq (.t 13) (.t 18), some (12, false)⟩,
       ⟨some 20, .pick (.t 12) (.k (.bool true)) (.t 19), none⟩,
       ⟨some 9, .mv (.t 20), none⟩])
     (.cond (.t 9) (.seq (.reg [⟨some 4, .mv (.k (.int .i64 7)), none⟩])
       (.ret))
       (.skip))))))
  (.seq (.reg [⟨some 4, .mv (.k (.int .i64 0)), none⟩])
  (.ret)))
theorem b31 : Body Try.prog 31 c31 [.tmp 4] 21 := ⟨by kernel_rfl, _, _, Try.func31, rfl, by kernel_rfl, by kernel_rfl, rfl⟩
def c32 : ACode :=
  .seq (.reg [⟨some 2, .mv (.k (.int .i64 0)), none⟩])
  (.seq (.block 0 (.loop (.seq (.seq (.regD [⟨some 3, .mv (.t 0), none⟩,
      ⟨some 4, .nchk (.t 3), none⟩,
      ⟨some 5, .faddr 2 (.t 4), none⟩,
      ⟨some 6, .load false 1 (.t 5), none⟩,
      ⟨some 7, .mv (.t 0), none⟩,
      ⟨some 8, .nchk (.t 7), none⟩,
      ⟨some 9, .faddr 0 (.t 8), none⟩,
      ⟨some 10, .load false 1 (.t 9), none⟩,
      ⟨some 11, .len (.t 10), none⟩,
      ⟨some 12, .bin .lss (.t 6) (.t 11), none⟩] [[], [0], [1], [2], [], [4], [5], [6], [7], [3, 8]])
    (.cond (.t 12) (.skip)
      (.exit 0)))
    (.seq (.block 1 (.seq (.regD [⟨some 20, .mv (.t 0), none⟩,
       ⟨some 21, .nchk (.t 20), none⟩,
       ⟨some 22, .faddr 0 (.t 21), none⟩,
       ⟨some 23, .load false 1 (.t 22), none⟩,
       ⟨some 24, .mv (.t 0), none⟩,
       ⟨some 25, .nchk (.t 24), none⟩,
       ⟨some 26, .faddr 2 (.t 25), none⟩,
       ⟨some 27, .load false 1 (.t 26), none⟩,
       ⟨some 28, .iaddrS 5 (.t 23) (.t 27), none⟩,
       ⟨some 29, .faddr 2 (.t 28), none⟩,
       ⟨some 30, .load false 1 (.t 29), none⟩,
       ⟨some 31, .bin .eql (.t 30) (.k (.int .i64 (-1))), none⟩] [[], [0], [1], [2], [], [4], [5], [6], [3, 7], [8], [9], [10]])
     (.cond (.t 31) (.seq (.reg [⟨some 32, .mv (.t 0), none⟩,
         ⟨some 33, .nchk (.t 32), none⟩,
         ⟨some 34, .faddr 2 (.t 33), none⟩,
         ⟨some 35, .load false 1 (.t 34), none⟩,
         ⟨some 2, .mv (.t 35), none⟩])
       (.ret))
       (.skip))))
    (.reg [⟨some 13, .mv (.t 0), none⟩,
      ⟨some 14, .nchk (.t 13), none⟩,
      ⟨some 15, .faddr 2 (.t 14), none⟩,
      ⟨some 16, .load false 1 (.t 15), none⟩,
      ⟨some 17, .bin .add (.t 16) (.k (.int .i64 1)), none⟩,
      ⟨some 18, .nchk (.t 13), none⟩,
      ⟨some 19, .faddr 2 (.t 18), none⟩,
      ⟨none, .store 1 (.t 19) (.t 17), none⟩])))))
  (.seq (.reg [⟨some 2, .mv (.k (.int .i64 (-1))), none⟩])
  (.ret)))
theorem b32 : Body Try.prog 32 c32 [.tmp 2] 36 := ⟨by kernel_rfl, _, _, Try.func32, rfl, by kernel_rfl, by kernel_rfl, rfl⟩
def c33 : ACode :=
  .seq (.reg [⟨some 8, .mv (.t 3), none⟩])
  (.cond (.t 8) (.reg [⟨some 9, .mv (.t 0), none⟩,
      ⟨some 10, .mv (.t 1), none⟩,
      ⟨some 11, .mv (.t 2), none⟩,
      ⟨some 12, .mv (.t 0), none⟩,
      ⟨some 13, .nchk (.t 12), none⟩,
      ⟨some 14, .faddr 1 (.t 13), none⟩,
      ⟨some 15, .load false 1 (.t 14), none⟩,
      ⟨some 16, .mv (.t 2), none⟩,
      ⟨some 17, .iaddrS 3 (.t 15) (.t 16), none⟩,
      ⟨some 18, .faddr 0 (.t 17), none⟩,
      ⟨some 19, .load false 1 (.t 18), none⟩,
      ⟨some 20, .call (.k (.fn 38 [] [])) [(.t 9), (.t 10), (.t 11), (.k (.int .i64 (-1))), (.t 19)], none⟩])
    (.reg [⟨some 21, .mv (.t 0), none⟩,
      ⟨some 22, .mv (.t 1), none⟩,
      ⟨some 23, .mv (.t 2), none⟩,
      ⟨some 24, .mv (.t 0), none⟩,
      ⟨some 25, .nchk (.t 24), none⟩,
      ⟨some 26, .faddr 1 (.t 25), none⟩,
      ⟨some 27, .load false 1 (.t 26), none⟩,
      ⟨some 28, .mv (.t 2), none⟩,
      ⟨some 29, .iaddrS 3 (.t 27) (.t 28), none⟩,
      ⟨some 30, .faddr 1 (.t 29), none⟩,
      ⟨some 31, .load false 1 (.t 30), none⟩,
      ⟨some 32, .call (.k (.fn 38 [] [])) [(.t 21), (.t 22), (.t 23), (.t 31), (.k (.int .i64 (-1)))], none⟩]))
theorem b33 : Body Try.prog 33 c33 [] 33 := ⟨by kernel_rfl, _, _, Try.func33, rfl, by kernel_rfl, by kernel_rfl, rfl⟩
def c34 : ACode :=
  .seq (.reg [⟨some 4, .mv (.k (.int .i64 0)), none⟩])
  (.seq (.block 0 (.seq (.reg [⟨some 6, .mv (.t 0), none⟩,
     ⟨some 7, .call (.k (.fn 45 [] [])) [(.t 6)], none⟩,
     ⟨some 8, .un .not (.t 7), none⟩,
     ⟨some 5, .mv (.t 8), none⟩])
   (.cond (.t 5) (.seq (.reg [⟨some 4, .mv (.k (.int .i64 1)), none⟩])
     (.ret))
     (.seq (.reg [⟨some 10, .mv (.t 1), none⟩,
       ⟨some 11, .bin .lss (.t 10) (.k (.int .i64 0)), none⟩,
       ⟨some 12, .mv (.t 11), none⟩,
       ⟨some 13, .mv (.t 1), some (12, false)⟩,
       ⟨some 14, .mv (.t 0), some (12, false)⟩,
       ⟨some 15, .nchk (.t 14), some (12, false)⟩,
       ⟨some 16, .faddr 1 (.t 15), some (12, false)⟩,
       ⟨some 17, .load false 1 (.t 16), some (12, false)⟩,
       ⟨some 18, .len (.t 17), some (12, false)⟩,
       ⟨some 19, .bin .geq (.t 13) (.t 18), some (12, false)⟩,
       ⟨some 20, .pick (.t 12) (.k (.bool true)) (.t 19), none⟩,
       ⟨some 9, .mv (.t 20), none⟩])
     (.cond (.t 9) (.seq (.reg [⟨some 4, .mv (.k (.int .i64 7)), none⟩])
       (.ret))
       (.skip))))))
  (.seq (.reg [⟨some 4, .mv (.k (.int .i64 0)), none⟩])
  (.ret)))
theorem b34 : Body Try.prog 34 c34 [.tmp 4] 21 := ⟨by kernel_rfl, _, _, Try.func34, rfl, by kernel_rfl, by kernel_rfl, rfl⟩
def c35 : ACode :=
  .seq (.reg [⟨some 2, .mv (.k (.int .i64 0)), none⟩])
  (.seq (.block 0 (.loop (.seq (.seq (.regD [⟨some 3, .mv (.t 0), none⟩,
      ⟨some 4, .nchk (.t 3), none⟩,
      ⟨some 5, .faddr 2 (.t 4), none⟩,
      ⟨some 6, .load false 1 (.t 5), none⟩,
      ⟨some 7, .mv (.t 0), none⟩,
      ⟨some 8, .nchk (.t 7), none⟩,
      ⟨some 9, .faddr 0 (.t 8), none⟩,
      ⟨some 10, .load false 1 (.t 9), none⟩,
      ⟨some 11, .len (.t 10), none⟩,
      ⟨some 12, .bin .lss (.t 6) (.t 11), none⟩] [[], [0], [1], [2], [], [4], [5], [6], [7], [3, 8]])
    (.cond (.t 12) (.skip)
      (.exit 0)))
    (.seq (.block 1 (.seq (.regD [⟨some 20, .mv (.t 0), none⟩,
       ⟨some 21, .nchk (.t 20), none⟩,
       ⟨some 22, .faddr 0 (.t 21), none⟩,
       ⟨some 23, .load false 1 (.t 22), none⟩,
       ⟨some 24, .mv (.t 0), none⟩,
       ⟨some 25, .nchk (.t 24), none⟩,
       ⟨some 26, .faddr 2 (.t 25), none⟩,
       ⟨some 27, .load false 1 (.t 26), none⟩,
       ⟨some 28, .iaddrS 4 (.t 23) (.t 27), none⟩,
       ⟨some 29, .faddr 1 (.t 28), none⟩,
       ⟨some 30, .load false 1 (.t 29), none⟩,
       ⟨some 31, .bin .eql (.t 30) (.k (.int .i64 (-1))), none⟩] [[], [0], [1], [2], [], [4], [5], [6], [3, 7], [8], [9], [10]])
     (.cond (.t 31) (.seq (.reg [⟨some 32, .mv (.t 0), none⟩,
         ⟨some 33, .nchk (.t 32), none⟩,
         ⟨some 34, .faddr 2 (.t 33), none⟩,
         ⟨some 35, .load false 1 (.t 34), none⟩,
         ⟨some 2, .mv (.t 35), none⟩])
       (.ret))
       (.skip))))
    (.reg [⟨some 13, .mv (.t 0), none⟩,
      ⟨some 14, .nchk (.t 13), none⟩,
      ⟨some 15, .faddr 2 (.t 14), none⟩,
      ⟨some 16, .load false 1 (.t 15), none⟩,
      ⟨some 17, .bin .add (.t 16) (.k (.int .i64 1)), none⟩,
      ⟨some 18, .nchk (.t 13), none⟩,
      ⟨some 19, .faddr 2 (.t 18), none⟩,
      ⟨none, .store 1 (.t 19) (.t 17), none⟩])))))
  (.seq (.reg [⟨some 2, .mv (.k (.int .i64 (-1))), none⟩])
  (.ret)))
theorem b35 : Body Try.prog 35 c35 [.tmp 2] 36 := ⟨by kernel_rfl, _, _, Try.func35, rfl, by kernel_rfl, by kernel_rfl, rfl⟩
def c36 : ACode :=
  .seq (.reg [⟨some 8, .mv (.t 3), none⟩])
  (.cond (.t 8) (.reg [⟨some 9, .mv (.t 0), none⟩,
      ⟨some 10, .mv (.t 1), none⟩,
      ⟨some 11, .mv (.t 2), none⟩,
      ⟨some 12, .mv (.t 0), none⟩,
      ⟨some 13, .nchk (.t 12), none⟩,
      ⟨some 14, .faddr 1 (.t 13), none⟩,
      ⟨some 15, .load false 1 (.t 14), none⟩,
      ⟨some 16, .mv (.t 2), none⟩,
      ⟨some 17, .iaddrS 3 (.t 15) (.t 16), none⟩,
      ⟨some 18, .faddr 0 (.t 17), none⟩,
      ⟨some 19, .load false 1 (.t 18), none⟩,
      ⟨some 20, .call (.k (.fn 40 [] [])) [(.t 9), (.t 10), (.t 11), (.k (.int .i64 (-1))), (.t 19)], none⟩])
    (.reg [⟨some 21, .mv (.t 0), none⟩,
      ⟨some 22, .mv (.t 1), none⟩,
      ⟨some 23, .mv (.t 2), none⟩,
      ⟨some 24, .mv (.t 0), none⟩,
      ⟨some 25, .nchk (.t 24), none⟩,
      ⟨some 26, .faddr 1 (.t 25), none⟩,
      ⟨some 27, .load false 1 (.t 26), none⟩,
      ⟨some 28, .mv (.t 2), none⟩,
      ⟨some 29, .iaddrS 3 (.t 27) (.t 28), none⟩,
      ⟨some 30, .faddr 1 (.t 29), none⟩,
      ⟨some 31, .load false 1 (.t 30), none⟩,
      ⟨some 32, .call (.k (.fn 40 [] [])) [(.t 21), (.t 22), (.t 23), (.t 31), (.k (.int .i64 (-1)))], none⟩]))
theorem b36 : Body Try.prog 36 c36 [] 33 := ⟨by kernel_rfl, _, _, Try.func36, rfl, by kernel_rfl, by kernel_rfl, rfl⟩
def c37 : ACode :=
  .seq (.reg [⟨some 4, .mv (.k (.int .i64 0)), none⟩])
  (.seq (.block 0 (.seq (.reg [⟨some 6, .mv (.t 0), none⟩,
     ⟨some 7, .call (.k (.fn 44 [] [])) [(.t 6)], none⟩,
     ⟨some 8, .un .not (.t 7), none⟩,
     ⟨some 5, .mv (.t 8), none⟩])
   (.cond (.t 5) (.seq (.reg [⟨some 4, .mv (.k (.int .i64 1)), none⟩])
     (.ret))
     (.seq (.reg [⟨some 10, .mv (.t 1), none⟩,
       ⟨some 11, .bin .lss (.t 10) (.k (.int .i64 0)), none⟩,
       ⟨some 12, .mv (.t 11), none⟩,
       ⟨some 13, .mv (.t 1), some (12, false)⟩,
       ⟨some 14, .mv (.t 0), some (12, false)⟩,
       ⟨some 15, .nchk (.t 14), some (12, false)⟩,
       ⟨some 16, .faddr 0 (.t 15), some (12, false)⟩,
       ⟨some 17, .load false 1 (.t 16), some (12, false)⟩,
       ⟨some 18, .len (.t 17), some (12, false)⟩,
       ⟨some 19, .bin .geq (.t 13) (.t 18), some (12, false)⟩,
       ⟨some 20, .pick (.t 12) (.k (.bool true)) (.t 19), none⟩,
       ⟨some 21, .mv (.t 20), none⟩,
       ⟨some 22, .mv (.t 0), some (21, false)⟩,
       ⟨some 23, .nchk (.t 22), some (21, false)⟩,
       ⟨some 24, .faddr 0 (.t 23), some (21, false)⟩,
       ⟨some 25, .load false 1 (.t 24), some (21, false)⟩,
       ⟨some 26, .mv (.t 1), some (21, false)⟩,
       ⟨some 27, .iaddrS 5 (.t 25) (.t 26), some (21, false)⟩,
       ⟨some 28, .faddr 2 (.t 27), some (21, false)⟩,
       ⟨some 29, .load false 1 (.t 28), some (21, false)⟩,
       ⟨some 30, .bin .eql (.t 29) (.k (.int .i64 (-1))), some (21, false)⟩,
       ⟨some 31, .pick (.t 21) (.k (.bool true)) (.t 30), none⟩,
       ⟨some 9, .mv (.t 31), none⟩])
     (.cond (.t 9) (.seq (.reg [⟨some 4, .mv (.k (.int .i64 4)), none⟩])
       (.ret))
       (.skip))))))
  (.seq (.reg [⟨some 4, .mv (.k (.int .i64 0)), none⟩])
  (.ret)))
theorem b37 : Body Try.prog 37 c37 [.tmp 4] 32 := ⟨by kernel_rfl, _, _, Try.func37, rfl, by kernel_rfl, by kernel_rfl, rfl⟩
def c38 : ACode :=
  .seq (.regD [⟨some 12, .mv (.t 0), none⟩,
    ⟨some 13, .nchk (.t 12), none⟩,
    ⟨some 14, .faddr 0 (.t 13), none⟩,
    ⟨some 15, .load false 1 (.t 14), none⟩,
    ⟨some 16, .mv (.t 1), none⟩,
    ⟨some 17, .iaddrS 5 (.t 15) (.t 16), none⟩,
    ⟨some 18, .mv (.t 0), none⟩,
    ⟨some 19, .nchk (.t 18), none⟩,
    ⟨some 20, .faddr 1 (.t 19), none⟩,
    ⟨some 21, .load false 1 (.t 20), none⟩,
    ⟨some 22, .mv (.t 2), none⟩,
    ⟨some 23, .iaddrS 3 (.t 21) (.t 22), none⟩,
    ⟨some 10, .mv (.t 17), none⟩,
    ⟨some 11, .mv (.t 23), none⟩] [[], [0], [1], [2], [], [3, 4], [], [6], [7], [8], [], [9, 10], [5, 0, 1, 2, 3, 4, 5], [11, 12, 0, 1, 2, 3, 4, 5, 6, 7, 8, 9, 10, 11, 12]])
  (.seq (.reg [⟨some 24, .mv (.t 10), none⟩,
    ⟨some 25, .mv (.t 10), none⟩,
    ⟨some 26, .mv (.t 10), none⟩,
    ⟨some 27, .mv (.t 2), none⟩,
    ⟨some 28, .mv (.t 3), none⟩,
    ⟨some 29, .mv (.t 4), none⟩,
    ⟨some 30, .nchk (.t 24), none⟩,
    ⟨some 31, .faddr 2 (.t 30), none⟩,
    ⟨none, .store 1 (.t 31) (.t 27), none⟩,
    ⟨some 32, .nchk (.t 25), none⟩,
    ⟨some 33, .faddr 4 (.t 32), none⟩,
    ⟨none, .store 1 (.t 33) (.t 28), none⟩,
    ⟨some 34, .nchk (.t 26), none⟩,
    ⟨some 35, .faddr 3 (.t 34), none⟩,
    ⟨none, .store 1 (.t 35) (.t 29), none⟩])
  (.seq (.seq (.reg [⟨some 36, .mv (.t 3), none⟩,
    ⟨some 37, .bin .eql (.t 36) (.k (.int .i64 (-1))), none⟩])
  (.cond (.t 37) (.reg [⟨some 38, .mv (.t 11), none⟩,
      ⟨some 39, .mv (.t 1), none⟩,
      ⟨some 40, .nchk (.t 38), none⟩,
      ⟨some 41, .faddr 0 (.t 40), none⟩,
      ⟨none, .store 1 (.t 41) (.t 39), none⟩])
    (.reg [⟨some 42, .mv (.t 0), none⟩,
      ⟨some 43, .nchk (.t 42), none⟩,
      ⟨some 44, .faddr 0 (.t 43), none⟩,
      ⟨some 45, .load false 1 (.t 44), none⟩,
      ⟨some 46, .mv (.t 3), none⟩,
      ⟨some 47, .mv (.t 1), none⟩,
      ⟨some 48, .iaddrS 5 (.t 45) (.t 46), none⟩,
      ⟨some 49, .faddr 3 (.t 48), none⟩,
      ⟨none, .store 1 (.t 49) (.t 47), none⟩])))
  (.seq (.seq (.reg [⟨some 50, .mv (.t 4), none⟩,
    ⟨some 51, .bin .eql (.t 50) (.k (.int .i64 (-1))), none⟩])
  (.cond (.t 51) (.reg [⟨some 52, .mv (.t 11), none⟩,
      ⟨some 53, .mv (.t 1), none⟩,
      ⟨some 54, .nchk (.t 52), none⟩,
      ⟨some 55, .faddr 1 (.t 54), none⟩,
      ⟨none, .store 1 (.t 55) (.t 53), none⟩])
    (.reg [⟨some 56, .mv (.t 0), none⟩,
      ⟨some 57, .nchk (.t 56), none⟩,
      ⟨some 58, .faddr 0 (.t 57), none⟩,
      ⟨some 59, .load false 1 (.t 58), none⟩,
      ⟨some 60, .mv (.t 4), none⟩,
      ⟨some 61, .mv (.t 1), none⟩,
      ⟨some 62, .iaddrS 5 (.t 59) (.t 60), none⟩,
      ⟨some 63, .faddr 4 (.t 62), none⟩,
      ⟨none, .store 1 (.t 63) (.t 61), none⟩])))
  (.reg [⟨some 64, .mv (.t 11), none⟩,
    ⟨some 65, .nchk (.t 64), none⟩,
    ⟨some 66, .faddr 2 (.t 65), none⟩,
    ⟨some 67, .load false 1 (.t 66), none⟩,
    ⟨some 68, .bin .add (.t 67) (.k (.int .i64 1)), none⟩,
    ⟨some 69, .nchk (.t 64), none⟩,
    ⟨some 70, .faddr 2 (.t 69), none⟩,
    ⟨none, .store 1 (.t 70) (.t 68), none⟩]))))
theorem b38 : Body Try.prog 38 c38 [] 71 := ⟨by kernel_rfl, _, _, Try.func38, rfl, by kernel_rfl, by kernel_rfl, rfl⟩
def c39 : ACode :=
  .seq (.reg [⟨some 4, .mv (.k (.int .i64 0)), none⟩])
  (.seq (.block 0 (.seq (.reg [⟨some 6, .mv (.t 0), none⟩,
     ⟨some 7, .call (.k (.fn 45 [] [])) [(.t 6)], none⟩,
     ⟨some 8, .un .not (.t 7), none⟩,
     ⟨some 5, .mv (.t 8), none⟩])
   (.cond (.t 5) (.seq (.reg [⟨some 4, .mv (.k (.int .i64 1)), none⟩])
     (.ret))
     (.seq (.reg [⟨some 10, .mv (.t 1), none⟩,
       ⟨some 11, .bin .lss (.t 10) (.k (.int .i64 0)), none⟩,
       ⟨some 12, .mv (.t 11), none⟩,
       ⟨some 13, .mv (.t 1), some (12, false)⟩,
       ⟨some 14, .mv (.t 0), some (12, false)⟩,
       ⟨some 15, .nchk (.t 14), some (12, false)⟩,
       ⟨some 16, .faddr 0 (.t 15), some (12, false)⟩,
       ⟨some 17, .load false 1 (.t 16), some (12, false)⟩,
       ⟨some 18, .len (.t 17), some (12, false)⟩,
       ⟨some 19, .bin .geq (.t 13) (.t 18), some (12, false)⟩,
       ⟨some 20, .pick (.t 12) (.k (.bool true)) (.t 19), none⟩,
       ⟨some 21, .mv (.t 20), none⟩,
       ⟨some 22, .mv (.t 0), some (21, false)⟩,
       ⟨some 23, .nchk (.t 22), some (21, false)⟩,
       ⟨some 24, .faddr 0 (.t 23), some (21, false)⟩,
       ⟨some 25, .load false 1 (.t 24), some (21, false)⟩,
       ⟨some 26, .mv (.t 1), some (21, false)⟩,
       ⟨some 27, .iaddrS 4 (.t 25) (.t 26), some (21, false)⟩,
       ⟨some 28, .faddr 1 (.t 27), some (21, false)⟩,
       ⟨some 29, .load false 1 (.t 28), some (21, false)⟩,
       ⟨some 30, .bin .eql (.t 29) (.k (.int .i64 (-1))), some (21, false)⟩,
       ⟨some 31, .pick (.t 21) (.k (.bool true)) (.t 30), none⟩,
       ⟨some 9, .mv (.t 31), none⟩])
     (.cond (.t 9) (.seq (.reg [⟨some 4, .mv (.k (.int .i64 4)), none⟩])
       (.ret))
       (.skip))))))
  (.seq (.reg [⟨some 4, .mv (.k (.int .i64 0)), none⟩])
  (.ret)))
theorem b39 : Body Try.prog 39 c39 [.tmp 4] 32 := ⟨by kernel_rfl, _, _, Try.func39, rfl, by kernel_rfl, by kernel_rfl, rfl⟩
def c40 : ACode :=
  .seq (.regD [⟨some 12, .mv (.t 0), none⟩,
    ⟨some 13, .nchk (.t 12), none⟩,
    ⟨some 14, .faddr 0 (.t 13), none⟩,
    ⟨some 15, .load false 1 (.t 14), none⟩,
    ⟨some 16, .mv (.t 1), none⟩,
    ⟨some 17, .iaddrS 4 (.t 15) (.t 16), none⟩,
    ⟨some 18, .mv (.t 0), none⟩,
    ⟨some 19, .nchk (.t 18), none⟩,
    ⟨some 20, .faddr 1 (.t 19), none⟩,
    ⟨some 21, .load false 1 (.t 20), none⟩,
    ⟨some 22, .mv (.t 2), none⟩,
    ⟨some 23, .iaddrS 3 (.t 21) (.t 22), none⟩,
    ⟨some 10, .mv (.t 17), none⟩,
    ⟨some 11, .mv (.t 23), none⟩] [[], [0], [1], [2], [], [3, 4], [], [6], [7], [8], [], [9, 10], [5, 0, 1, 2, 3, 4, 5], [11, 12, 0, 1, 2, 3, 4, 5, 6, 7, 8, 9, 10, 11, 12]])
  (.seq (.reg [⟨some 24, .mv (.t 10), none⟩,
    ⟨some 25, .mv (.t 10), none⟩,
    ⟨some 26, .mv (.t 10), none⟩,
    ⟨some 27, .mv (.t 2), none⟩,
    ⟨some 28, .mv (.t 3), none⟩,
    ⟨some 29, .mv (.t 4), none⟩,
    ⟨some 30, .nchk (.t 24), none⟩,
    ⟨some 31, .faddr 1 (.t 30), none⟩,
    ⟨none, .store 1 (.t 31) (.t 27), none⟩,
    ⟨some 32, .nchk (.t 25), none⟩,
    ⟨some 33, .faddr 3 (.t 32), none⟩,
    ⟨none, .store 1 (.t 33) (.t 28), none⟩,
    ⟨some 34, .nchk (.t 26), none⟩,
    ⟨some 35, .faddr 2 (.t 34), none⟩,
    ⟨none, .store 1 (.t 35) (.t 29), none⟩])
  (.seq (.seq (.reg [⟨some 36, .mv (.t 3), none⟩,
    ⟨some 37, .bin .eql (.t 36) (.k (.int .i64 (-1))), none⟩])
  (.cond (.t 37) (.reg [⟨some 38, .mv (.t 11), none⟩,
      ⟨some 39, .mv (.t 1), none⟩,
      ⟨some 40, .nchk (.t 38), none⟩,
      ⟨some 41, .faddr 0 (.t 40), none⟩,
      ⟨none, .store 1 (.t 41) (.t 39), none⟩])
    (.reg [⟨some 42, .mv (.t 0), none⟩,
      ⟨some 43, .nchk (.t 42), none⟩,
      ⟨some 44, .faddr 0 (.t 43), none⟩,
      ⟨some 45, .load false 1 (.t 44), none⟩,
      ⟨some 46, .mv (.t 3), none⟩,
      ⟨some 47, .mv (.t 1), none⟩,
      ⟨some 48, .iaddrS 4 (.t 45) (.t 46), none⟩,
      ⟨some 49, .faddr 2 (.t 48), none⟩,
      ⟨none, .store 1 (.t 49) (.t 47), none⟩])))
  (.seq (.seq (.reg [⟨some 50, .mv (.t 4), none⟩,
    ⟨some 51, .bin .eql (.t 50) (.k (.int .i64 (-1))), none⟩])
  (.cond (.t 51) (.reg [⟨some 52, .mv (.t 11), none⟩,
      ⟨some 53, .mv (.t 1), none⟩,
      ⟨some 54, .nchk (.t 52), none⟩,
      ⟨some 55, .faddr 1 (.t 54), none⟩,
      ⟨none, .store 1 (.t 55) (.t 53), none⟩])
    (.reg [⟨some 56, .mv (.t 0), none⟩,
      ⟨some 57, .nchk (.t 56), none⟩,
      ⟨some 58, .faddr 0 (.t 57), none⟩,
      ⟨some 59, .load false 1 (.t 58), none⟩,
      ⟨some 60, .mv (.t 4), none⟩,
      ⟨some 61, .mv (.t 1), none⟩,
      ⟨some 62, .iaddrS 4 (.t 59) (.t 60), none⟩,
      ⟨some 63, .faddr 3 (.t 62), none⟩,
      ⟨none, .store 1 (.t 63) (.t 61), none⟩])))
  (.reg [⟨some 64, .mv (.t 11), none⟩,
    ⟨some 65, .nchk (.t 64), none⟩,
    ⟨some 66, .faddr 2 (.t 65), none⟩,
    ⟨some 67, .load false 1 (.t 66), none⟩,
    ⟨some 68, .bin .add (.t 67) (.k (.int .i64 1)), none⟩,
    ⟨some 69, .nchk (.t 64), none⟩,
    ⟨some 70, .faddr 2 (.t 69), none⟩,
    ⟨none, .store 1 (.t 70) (.t 68), none⟩]))))
theorem b40 : Body Try.prog 40 c40 [] 71 := ⟨by kernel_rfl, _, _, Try.func40, rfl, by kernel_rfl, by kernel_rfl, rfl⟩
def c41 : ACode :=
  .seq (.reg [⟨some 6, .mv (.t 0), none⟩,
    ⟨some 7, .nchk (.t 6), none⟩,
    ⟨some 8, .faddr 0 (.t 7), none⟩,
    ⟨some 9, .load false 1 (.t 8), none⟩,
    ⟨some 10, .mv (.t 1), none⟩,
    ⟨some 11, .iaddrS 5 (.t 9) (.t 10), none⟩,
    ⟨some 4, .mv (.t 11), none⟩])
  (.seq (.regD [⟨some 12, .mv (.t 0), none⟩,
    ⟨some 13, .nchk (.t 12), none⟩,
    ⟨some 14, .faddr 1 (.t 13), none⟩,
    ⟨some 15, .load false 1 (.t 14), none⟩,
    ⟨some 16, .mv (.t 4), none⟩,
    ⟨some 17, .nchk (.t 16), none⟩,
    ⟨some 18, .faddr 2 (.t 17), none⟩,
    ⟨some 19, .load false 1 (.t 18), none⟩,
    ⟨some 20, .iaddrS 3 (.t 15) (.t 19), none⟩,
    ⟨some 5, .mv (.t 20), none⟩] [[], [0], [1], [2], [], [4], [5], [6], [3, 7], [8, 0, 1, 2, 3, 4, 5, 6, 7, 8]])
  (.seq (.seq (.reg [⟨some 21, .mv (.t 4), none⟩,
    ⟨some 22, .nchk (.t 21), none⟩,
    ⟨some 23, .faddr 4 (.t 22), none⟩,
    ⟨some 24, .load false 1 (.t 23), none⟩,
    ⟨some 25, .bin .eql (.t 24) (.k (.int .i64 (-1))), none⟩])
  (.cond (.t 25) (.reg [⟨some 26, .mv (.t 5), none⟩,
      ⟨some 27, .mv (.t 4), none⟩,
      ⟨some 28, .nchk (.t 27), none⟩,
      ⟨some 29, .faddr 3 (.t 28), none⟩,
      ⟨some 30, .load false 1 (.t 29), none⟩,
      ⟨some 31, .nchk (.t 26), none⟩,
      ⟨some 32, .faddr 0 (.t 31), none⟩,
      ⟨none, .store 1 (.t 32) (.t 30), none⟩])
    (.regD [⟨some 33, .mv (.t 0), none⟩,
      ⟨some 34, .nchk (.t 33), none⟩,
      ⟨some 35, .faddr 0 (.t 34), none⟩,
      ⟨some 36, .load false 1 (.t 35), none⟩,
      ⟨some 37, .mv (.t 4), none⟩,
      ⟨some 38, .nchk (.t 37), none⟩,
      ⟨some 39, .faddr 4 (.t 38), none⟩,
      ⟨some 40, .load false 1 (.t 39), none⟩,
      ⟨some 41, .mv (.t 4), none⟩,
      ⟨some 42, .nchk (.t 41), none⟩,
      ⟨some 43, .faddr 3 (.t 42), none⟩,
      ⟨some 44, .load false 1 (.t 43), none⟩,
      ⟨some 45, .iaddrS 5 (.t 36) (.t 40), none⟩,
      ⟨some 46, .faddr 3 (.t 45), none⟩,
      ⟨none, .store 1 (.t 46) (.t 44), none⟩] [[], [0], [1], [2], [], [4], [5], [6], [], [8], [9], [10], [3, 7, 0, 1, 2, 3, 4, 5, 6, 7, 8, 9, 10, 11], [12, 0, 1, 2, 3, 4, 5, 6, 7, 8, 9, 10, 11], [13, 11, 0, 1, 2, 3, 4, 5, 6, 7, 8, 9, 10, 11]])))
  (.seq (.seq (.reg [⟨some 47, .mv (.t 4), none⟩,
    ⟨some 48, .nchk (.t 47), none⟩,
    ⟨some 49, .faddr 3 (.t 48), none⟩,
    ⟨some 50, .load false 1 (.t 49), none⟩,
    ⟨some 51, .bin .eql (.t 50) (.k (.int .i64 (-1))), none⟩])
  (.cond (.t 51) (.reg [⟨some 52, .mv (.t 5), none⟩,
      ⟨some 53, .mv (.t 4), none⟩,
      ⟨some 54, .nchk (.t 53), none⟩,
      ⟨some 55, .faddr 4 (.t 54), none⟩,
      ⟨some 56, .load false 1 (.t 55), none⟩,
      ⟨some 57, .nchk (.t 52), none⟩,
      ⟨some 58, .faddr 1 (.t 57), none⟩,
      ⟨none, .store 1 (.t 58) (.t 56), none⟩])
    (.regD [⟨some 59, .mv (.t 0), none⟩,
      ⟨some 60, .nchk (.t 59), none⟩,
      ⟨some 61, .faddr 0 (.t 60), none⟩,
      ⟨some 62, .load false 1 (.t 61), none⟩,
      ⟨some 63, .mv (.t 4), none⟩,
      ⟨some 64, .nchk (.t 63), none⟩,
      ⟨some 65, .faddr 3 (.t 64), none⟩,
      ⟨some 66, .load false 1 (.t 65), none⟩,
      ⟨some 67, .mv (.t 4), none⟩,
      ⟨some 68, .nchk (.t 67), none⟩,
      ⟨some 69, .faddr 4 (.t 68), none⟩,
      ⟨some 70, .load false 1 (.t 69), none⟩,
      ⟨some 71, .iaddrS 5 (.t 62) (.t 66), none⟩,
      ⟨some 72, .faddr 4 (.t 71), none⟩,
      ⟨none, .store 1 (.t 72) (.t 70), none⟩] [[], [0], [1], [2], [], [4], [5], [6], [], [8], [9], [10], [3, 7, 0, 1, 2, 3, 4, 5, 6, 7, 8, 9, 10, 11], [12, 0, 1, 2, 3, 4, 5, 6, 7, 8, 9, 10, 11], [13, 11, 0, 1, 2, 3, 4, 5, 6, 7, 8, 9, 10, 11]])))
  (.seq (.reg [⟨some 73, .mv (.t 5), none⟩,
    ⟨some 74, .nchk (.t 73), none⟩,
    ⟨some 75, .faddr 2 (.t 74), none⟩,
    ⟨some 76, .load false 1 (.t 75), none⟩,
    ⟨some 77, .bin .sub (.t 76) (.k (.int .i64 1)), none⟩,
    ⟨some 78, .nchk (.t 73), none⟩,
    ⟨some 79, .faddr 2 (.t 78), none⟩,
    ⟨none, .store 1 (.t 79) (.t 77), none⟩])
  (.reg [⟨some 80, .mv (.t 4), none⟩,
    ⟨some 81, .mv (.t 4), none⟩,
    ⟨some 82, .mv (.t 4), none⟩,
    ⟨some 83, .nchk (.t 80), none⟩,
    ⟨some 84, .faddr 2 (.t 83), none⟩,
    ⟨none, .store 1 (.t 84) (.k (.int .i64 (-1))), none⟩,
    ⟨some 85, .nchk (.t 81), none⟩,
    ⟨some 86, .faddr 4 (.t 85), none⟩,
    ⟨none, .store 1 (.t 86) (.k (.int .i64 (-1))), none⟩,
    ⟨some 87, .nchk (.t 82), none⟩,
    ⟨some 88, .faddr 3 (.t 87), none⟩,
    ⟨none, .store 1 (.t 88) (.k (.int .i64 (-1))), none⟩])))))
theorem b41 : Body Try.prog 41 c41 [] 89 := ⟨by kernel_rfl, _, _, Try.func41, rfl, by kernel_rfl, by kernel_rfl, rfl⟩
def c42 : ACode :=
  .seq (.reg [⟨some 6, .mv (.t 0), none⟩,
    ⟨some 7, .nchk (.t 6), none⟩,
    ⟨some 8, .faddr 0 (.t 7), none⟩,
    ⟨some 9, .load false 1 (.t 8), none⟩,
    ⟨some 10, .mv (.t 1), none⟩,
    ⟨some 11, .iaddrS 4 (.t 9) (.t 10), none⟩,
    ⟨some 4, .mv (.t 11), none⟩])
  (.seq (.regD [⟨some 12, .mv (.t 0), none⟩,
    ⟨some 13, .nchk (.t 12), none⟩,
    ⟨some 14, .faddr 1 (.t 13), none⟩,
    ⟨some 15, .load false 1 (.t 14), none⟩,
    ⟨some 16, .mv (.t 4), none⟩,
    ⟨some 17, .nchk (.t 16), none⟩,
    ⟨some 18, .faddr 1 (.t 17), none⟩,
    ⟨some 19, .load false 1 (.t 18), none⟩,
    ⟨some 20, .iaddrS 3 (.t 15) (.t 19), none⟩,
    ⟨some 5, .mv (.t 20), none⟩] [[], [0], [1], [2], [], [4], [5], [6], [3, 7], [8, 0, 1, 2, 3, 4, 5, 6, 7, 8]])
  (.seq (.seq (.reg [⟨some 21, .mv (.t 4), none⟩,
    ⟨some 22, .nchk (.t 21), none⟩,
    ⟨some 23, .faddr 3 (.t 22), none⟩,
    ⟨some 24, .load false 1 (.t 23), none⟩,
    ⟨some 25, .bin .eql (.t 24) (.k (.int .i64 (-1))), none⟩])
  (.cond (.t 25) (.reg [⟨some 26, .mv (.t 5), none⟩,
      ⟨some 27, .mv (.t 4), none⟩,
      ⟨some 28, .nchk (.t 27), none⟩,
      ⟨some 29, .faddr 2 (.t 28), none⟩,
      ⟨some 30, .load false 1 (.t 29), none⟩,
      ⟨some 31, .nchk (.t 26), none⟩,
      ⟨some 32, .faddr 0 (.t 31), none⟩,
      ⟨none, .store 1 (.t 32) (.t 30), none⟩])
    (.regD [⟨some 33, .mv (.t 0), none⟩,
      ⟨some 34, .nchk (.t 33), none⟩,
      ⟨some 35, .faddr 0 (.t 34), none⟩,
      ⟨some 36, .load false 1 (.t 35), none⟩,
      ⟨some 37, .mv (.t 4), none⟩,
      ⟨some 38, .nchk (.t 37), none⟩,
      ⟨some 39, .faddr 3 (.t 38), none⟩,
      ⟨some 40, .load false 1 (.t 39), none⟩,
      ⟨some 41, .mv (.t 4), none⟩,
      ⟨some 42, .nchk (.t 41), none⟩,
      ⟨some 43, .faddr 2 (.t 42), none⟩,
      ⟨some 44, .load false 1 (.t 43), none⟩,
      ⟨some 45, .iaddrS 4 (.t 36) (.t 40), none⟩,
      ⟨some 46, .faddr 2 (.t 45), none⟩,
      ⟨none, .store 1 (.t 46) (.t 44), none⟩] [[], [0], [1], [2], [], [4], [5], [6], [], [8], [9], [10], [3, 7, 0, 1, 2, 3, 4, 5, 6, 7, 8, 9, 10, 11], [12, 0, 1, 2, 3, 4, 5, 6, 7, 8, 9, 10, 11], [13, 11, 0, 1, 2, 3, 4, 5, 6, 7, 8, 9, 10, 11]])))
  (.seq (.seq (.reg [⟨some 47, .mv (.t 4), none⟩,
    ⟨some 48, .nchk (.t 47), none⟩,
    ⟨some 49, .faddr 2 (.t 48), none⟩,
    ⟨some 50, .load false 1 (.t 49), none⟩,
    ⟨some 51, .bin .eql (.t 50) (.k (.int .i64 (-1))), none⟩])
  (.cond (.t 51) (.reg [⟨some 52, .mv (.t 5), none⟩,
      ⟨some 53, .mv (.t 4), none⟩,
      ⟨some 54, .nchk (.t 53), none⟩,
      ⟨some 55, .faddr 3 (.t 54), none⟩,
      ⟨some 56, .load false 1 (.t 55), none⟩,
      ⟨some 57, .nchk (.t 52), none⟩,
      ⟨some 58, .faddr 1 (.t 57), none⟩,
      ⟨none, .store 1 (.t 58) (.t 56), none⟩])
    (.regD [⟨some 59, .mv (.t 0), none⟩,
      ⟨some 60, .nchk (.t 59), none⟩,
      ⟨some 61, .faddr 0 (.t 60), none⟩,
      ⟨some 62, .load false 1 (.t 61), none⟩,
      ⟨some 63, .mv (.t 4), none⟩,
      ⟨some 64, .nchk (.t 63), none⟩,
      ⟨some 65, .faddr 2 (.t 64), none⟩,
      ⟨some 66, .load false 1 (.t 65), none⟩,
      ⟨some 67, .mv (.t 4), none⟩,
      ⟨some 68, .nchk (.t 67), none⟩,
      ⟨some 69, .faddr 3 (.t 68), none⟩,
      ⟨some 70, .load false 1 (.t 69), none⟩,
      ⟨some 71, .iaddrS 4 (.t 62) (.t 66), none⟩,
      ⟨some 72, .faddr 3 (.t 71), none⟩,
      ⟨none, .store 1 (.t 72) (.t 70), none⟩] [[], [0], [1], [2], [], [4], [5], [6], [], [8], [9], [10], [3, 7, 0, 1, 2, 3, 4, 5, 6, 7, 8, 9, 10, 11], [12, 0, 1, 2, 3, 4, 5, 6, 7, 8, 9, 10, 11], [13, 11, 0, 1, 2, 3, 4, 5, 6, 7, 8, 9, 10, 11]])))
  (.seq (.reg [⟨some 73, .mv (.t 5), none⟩,
    ⟨some 74, .nchk (.t 73), none⟩,
    ⟨some 75, .faddr 2 (.t 74), none⟩,
    ⟨some 76, .load false 1 (.t 75), none⟩,
    ⟨some 77, .bin .sub (.t 76) (.k (.int .i64 1)), none⟩,
    ⟨some 78, .nchk (.t 73), none⟩,
    ⟨some 79, .faddr 2 (.t 78), none⟩,
    ⟨none, .store 1 (.t 79) (.t 77), none⟩])
  (.reg [⟨some 80, .mv (.t 4), none⟩,
    ⟨some 81, .mv (.t 4), none⟩,
    ⟨some 82, .mv (.t 4), none⟩,
    ⟨some 83, .nchk (.t 80), none⟩,
    ⟨some 84, .faddr 1 (.t 83), none⟩,
    ⟨none, .store 1 (.t 84) (.k (.int .i64 (-1))), none⟩,
    ⟨some 85, .nchk (.t 81), none⟩,
    ⟨some 86, .faddr 3 (.t 85), none⟩,
    ⟨none, .store 1 (.t 86) (.k (.int .i64 (-1))), none⟩,
    ⟨some 87, .nchk (.t 82), none⟩,
    ⟨some 88, .faddr 2 (.t 87), none⟩,
    ⟨none, .store 1 (.t 88) (.k (.int .i64 (-1))), none⟩])))))
theorem b42 : Body Try.prog 42 c42 [] 89 := ⟨by kernel_rfl, _, _, Try.func42, rfl, by kernel_rfl, by kernel_rfl, rfl⟩
def c43 : ACode :=
  .seq (.reg [⟨some 2, .mv (.k (.bool false)), none⟩])
  (.seq (.reg [⟨some 3, .mv (.t 0), none⟩,
    ⟨some 4, .eqp true false (.t 3) (.k .nilp), none⟩,
    ⟨some 5, .mv (.t 4), none⟩,
    ⟨some 6, .mv (.t 0), some (5, true)⟩,
    ⟨some 7, .nchk (.t 6), some (5, true)⟩,
    ⟨some 8, .faddr 0 (.t 7), some (5, true)⟩,
    ⟨some 9, .load false 1 (.t 8), some (5, true)⟩,
    ⟨some 10, .len (.t 9), some (5, true)⟩,
    ⟨some 11, .bin .gtr (.t 10) (.k (.int .i64 0)), some (5, true)⟩,
    ⟨some 12, .pick (.t 5) (.t 11) (.k (.bool false)), none⟩,
    ⟨some 2, .mv (.t 12), none⟩])
  (.ret))
theorem b43 : Body Try.prog 43 c43 [.tmp 2] 13 := ⟨by kernel_rfl, _, _, Try.func43, rfl, by kernel_rfl, by kernel_rfl, rfl⟩
def c44 : ACode :=
  .seq (.reg [⟨some 2, .mv (.k (.bool false)), none⟩])
  (.seq (.reg [⟨some 3, .mv (.t 0), none⟩,
    ⟨some 4, .eqp true false (.t 3) (.k .nilp), none⟩,
    ⟨some 5, .mv (.t 4), none⟩,
    ⟨some 6, .mv (.t 0), some (5, true)⟩,
    ⟨some 7, .nchk (.t 6), some (5, true)⟩,
    ⟨some 8, .faddr 0 (.t 7), some (5, true)⟩,
    ⟨some 9, .load false 1 (.t 8), some (5, true)⟩,
    ⟨some 10, .len (.t 9), some (5, true)⟩,
    ⟨some 11, .bin .gtr (.t 10) (.k (.int .i64 0)), some (5, true)⟩,
    ⟨some 12, .pick (.t 5) (.t 11) (.k (.bool false)), none⟩,
    ⟨some 2, .mv (.t 12), none⟩])
  (.ret))
theorem b44 : Body Try.prog 44 c44 [.tmp 2] 13 := ⟨by kernel_rfl, _, _, Try.func44, rfl, by kernel_rfl, by kernel_rfl, rfl⟩
def c45 : ACode :=
  .seq (.reg [⟨some 2, .mv (.k (.bool false)), none⟩])
  (.seq (.reg [⟨some 3, .mv (.t 0), none⟩,
    ⟨some 4, .eqp true false (.t 3) (.k .nilp), none⟩,
    ⟨some 5, .mv (.t 4), none⟩,
    ⟨some 6, .mv (.t 0), some (5, true)⟩,
    ⟨some 7, .nchk (.t 6), some (5, true)⟩,
    ⟨some 8, .faddr 0 (.t 7), some (5, true)⟩,
    ⟨some 9, .load false 1 (.t 8), some (5, true)⟩,
    ⟨some 10, .len (.t 9), some (5, true)⟩,
    ⟨some 11, .bin .gtr (.t 10) (.k (.int .i64 0)), some (5, true)⟩,
    ⟨some 12, .pick (.t 5) (.t 11) (.k (.bool false)), none⟩,
    ⟨some 2, .mv (.t 12), none⟩])
  (.ret))
theorem b45 : Body Try.prog 45 c45 [.tmp 2] 13 := ⟨by kernel_rfl, _, _, Try.func45, rfl, by kernel_rfl, by kernel_rfl, rfl⟩
def c46 : ACode :=
  .seq (.reg [⟨some 6, .mv (.k (.int .i64 0)), none⟩,
    ⟨some 7, .mv (.k (.int .i64 0)), none⟩])
  (.seq (.seq (.reg [⟨some 10, .mv (.t 0), none⟩,
    ⟨some 11, .mv (.t 1), none⟩,
    ⟨some 12, .call (.k (.fn 50 [] [])) [(.t 10), (.t 11)], none⟩,
    ⟨some 8, .mv (.t 12), none⟩])
  (.seq (.reg [⟨some 13, .mv (.t 8), none⟩,
    ⟨some 14, .bin .neq (.t 13) (.k (.int .i64 0)), none⟩])
  (.cond (.t 14) (.seq (.reg [⟨some 15, .mv (.t 8), none⟩,
      ⟨some 6, .mv (.k (.int .i64 0)), none⟩,
      ⟨some 7, .mv (.t 15), none⟩])
    (.ret))
    (.skip))))
  (.seq (.reg [⟨some 16, .mv (.t 0), none⟩,
    ⟨some 17, .call (.k (.fn 48 [] [])) [(.t 16)], none⟩,
    ⟨some 6, .mv (.t 17), none⟩])
  (.seq (.seq (.reg [⟨some 18, .mv (.t 6), none⟩,
    ⟨some 19, .bin .eql (.t 18) (.k (.int .i64 (-1))), none⟩])
  (.cond (.t 19) (.seq (.reg [⟨some 6, .mv (.k (.int .i64 0)), none⟩,
      ⟨some 7, .mv (.k (.int .i64 5)), none⟩])
    (.ret))
    (.skip)))
  (.seq (.reg [⟨some 20, .mv (.t 0), none⟩,
    ⟨some 21, .nchk (.t 20), none⟩,
    ⟨some 22, .faddr 0 (.t 21), none⟩,
    ⟨some 23, .load false 1 (.t 22), none⟩,
    ⟨some 24, .mv (.t 6), none⟩,
    ⟨some 25, .mv (.t 2), none⟩,
    ⟨some 26, .iaddrS 4 (.t 23) (.t 24), none⟩,
    ⟨some 27, .faddr 0 (.t 26), none⟩,
    ⟨none, .store 1 (.t 27) (.t 25), none⟩])
  (.seq (.reg [⟨some 28, .mv (.t 0), none⟩,
    ⟨some 29, .nchk (.t 28), none⟩,
    ⟨some 30, .faddr 0 (.t 29), none⟩,
    ⟨some 31, .load false 1 (.t 30), none⟩,
    ⟨some 32, .mv (.t 1), none⟩,
    ⟨some 33, .iaddrS 4 (.t 31) (.t 32), none⟩,
    ⟨some 9, .mv (.t 33), none⟩])
  (.seq (.regD [⟨some 34, .mv (.t 0), none⟩,
    ⟨some 35, .mv (.t 6), none⟩,
    ⟨some 36, .mv (.t 9), none⟩,
    ⟨some 37, .nchk (.t 36), none⟩,
    ⟨some 38, .faddr 1 (.t 37), none⟩,
    ⟨some 39, .load false 1 (.t 38), none⟩,
    ⟨some 40, .mv (.t 1), none⟩,
    ⟨some 41, .mv (.t 9), none⟩,
    ⟨some 42, .nchk (.t 41), none⟩,
    ⟨some 43, .faddr 2 (.t 42), none⟩,
    ⟨some 44, .load false 1 (.t 43), none⟩,
    ⟨some 45, .call (.k (.fn 70 [] [])) [(.t 34), (.t 35), (.t 39), (.t 40), (.t 44)], none⟩] [[], [], [], [2], [3], [4], [], [], [7], [8], [9], [0, 1, 5, 6, 10]])
  (.seq (.reg [⟨some 46, .mv (.t 6), none⟩,
    ⟨some 6, .mv (.t 46), none⟩,
    ⟨some 7, .mv (.k (.int .i64 0)), none⟩])
  (.ret))))))))
theorem b46 : Body Try.prog 46 c46 [.tmp 6, .tmp 7] 47 := ⟨by kernel_rfl, _, _, Try.func46, rfl, by kernel_rfl, by kernel_rfl, rfl⟩
def c47 : ACode :=
  .seq (.reg [⟨some 4, .mv (.k (.int .i64 0)), none⟩])
  (.seq (.block 0 (.seq (.reg [⟨some 6, .mv (.t 0), none⟩,
     ⟨some 7, .call (.k (.fn 43 [] [])) [(.t 6)], none⟩,
     ⟨some 8, .un .not (.t 7), none⟩,
     ⟨some 5, .mv (.t 8), none⟩])
   (.cond (.t 5) (.seq (.reg [⟨some 4, .mv (.k (.int .i64 1)), none⟩])
     (.ret))
     (.seq (.reg [⟨some 10, .mv (.t 1), none⟩,
       ⟨some 11, .bin .lss (.t 10) (.k (.int .i64 0)), none⟩,
       ⟨some 12, .mv (.t 11), none⟩,
       ⟨some 13, .mv (.t 1), some (12, false)⟩,
       ⟨some 14, .mv (.t 0), some (12, false)⟩,
       ⟨some 15, .nchk (.t 14), some (12, false)⟩,
       ⟨some 16, .faddr 1 (.t 15), some (12, false)⟩,
       ⟨some 17, .load false 1 (.t 16), some (12, false)⟩,
       ⟨some 18, .len (.t 17), some (12, false)⟩,
       ⟨some 19, .bin .geq (.t 13) (.t 18), some (12, false)⟩,
       ⟨some 20, .pick (.t 12) (.k (.bool true)) (.t 19), none⟩,
       ⟨some 9, .mv (.t 20), none⟩])
     (.cond (.t 9) (.seq (.reg [⟨some 4, .mv (.k (.int .i64 7)), none⟩])
       (.ret))
       (.skip))))))
  (.seq (.reg [⟨some 4, .mv (.k (.int .i64 0)), none⟩])
  (.ret)))
theorem b47 : Body Try.prog 47 c47 [.tmp 4] 21 := ⟨by kernel_rfl, _, _, Try.func47, rfl, by kernel_rfl, by kernel_rfl, rfl⟩
def c48 : ACode :=
  .seq (.reg [⟨some 2, .mv (.k (.int .i64 0)), none⟩])
  (.seq (.block 0 (.loop (.seq (.seq (.regD [⟨some 3, .mv (.t 0), none⟩,
      ⟨some 4, .nchk (.t 3), none⟩,
      ⟨some 5, .faddr 2 (.t 4), none⟩,
      ⟨some 6, .load false 1 (.t 5), none⟩,
      ⟨some 7, .mv (.t 0), none⟩,
      ⟨some 8, .nchk (.t 7), none⟩,
      ⟨some 9, .faddr 0 (.t 8), none⟩,
      ⟨some 10, .load false 1 (.t 9), none⟩,
      ⟨some 11, .len (.t 10), none⟩,
      ⟨some 12, .bin .lss (.t 6) (.t 11), none⟩] [[], [0], [1], [2], [], [4], [5], [6], [7], [3, 8]])
    (.cond (.t 12) (.skip)
      (.exit 0)))
    (.seq (.block 1 (.seq (.regD [⟨some 20, .mv (.t 0), none⟩,
       ⟨some 21, .nchk (.t 20), none⟩,
       ⟨some 22, .faddr 0 (.t 21), none⟩,
       ⟨some 23, .load false 1 (.t 22), none⟩,
       ⟨some 24, .mv (.t 0), none⟩,
       ⟨some 25, .nchk (.t 24), none⟩,
       ⟨some 26, .faddr 2 (.t 25), none⟩,
       ⟨some 27, .load false 1 (.t 26), none⟩,
       ⟨some 28, .iaddrS 4 (.t 23) (.t 27), none⟩,
       ⟨some 29, .faddr 1 (.t 28), none⟩,
       ⟨some 30, .load false 1 (.t 29), none⟩,
       ⟨some 31, .bin .eql (.t 30) (.k (.int .i64 (-1))), none⟩] [[], [0], [1], [2], [], [4], [5], [6], [3, 7], [8], [9], [10]])
     (.cond (.t 31) (.seq (.reg [⟨some 32, .mv (.t 0), none⟩,
         ⟨some 33, .nchk (.t 32), none⟩,
         ⟨some 34, .faddr 2 (.t 33), none⟩,
         ⟨some 35, .load false 1 (.t 34), none⟩,
         ⟨some 2, .mv (.t 35), none⟩])
       (.ret))
       (.skip))))
    (.reg [⟨some 13, .mv (.t 0), none⟩,
      ⟨some 14, .nchk (.t 13), none⟩,
      ⟨some 15, .faddr 2 (.t 14), none⟩,
      ⟨some 16, .load false 1 (.t 15), none⟩,
      ⟨some 17, .bin .add (.t 16) (.k (.int .i64 1)), none⟩,
      ⟨some 18, .nchk (.t 13), none⟩,
      ⟨some 19, .faddr 2 (.t 18), none⟩,
      ⟨none, .store 1 (.t 19) (.t 17), none⟩])))))
  (.seq (.reg [⟨some 2, .mv (.k (.int .i64 (-1))), none⟩])
  (.ret)))
theorem b48 : Body Try.prog 48 c48 [.tmp 2] 36 := ⟨by kernel_rfl, _, _, Try.func48, rfl, by kernel_rfl, by kernel_rfl, rfl⟩
def c49 : ACode :=
  .seq (.reg [⟨some 8, .mv (.t 3), none⟩])
  (.cond (.t 8) (.reg [⟨some 9, .mv (.t 0), none⟩,
      ⟨some 10, .mv (.t 1), none⟩,
      ⟨some 11, .mv (.t 2), none⟩,
      ⟨some 12, .mv (.t 0), none⟩,
      ⟨some 13, .nchk (.t 12), none⟩,
      ⟨some 14, .faddr 1 (.t 13), none⟩,
      ⟨some 15, .load false 1 (.t 14), none⟩,
      ⟨some 16, .mv (.t 2), none⟩,
      ⟨some 17, .iaddrS 3 (.t 15) (.t 16), none⟩,
      ⟨some 18, .faddr 0 (.t 17), none⟩,
      ⟨some 19, .load false 1 (.t 18), none⟩,
      ⟨some 20, .call (.k (.fn 70 [] [])) [(.t 9), (.t 10), (.t 11), (.k (.int .i64 (-1))), (.t 19)], none⟩])
    (.reg [⟨some 21, .mv (.t 0), none⟩,
      ⟨some 22, .mv (.t 1), none⟩,
      ⟨some 23, .mv (.t 2), none⟩,
      ⟨some 24, .mv (.t 0), none⟩,
      ⟨some 25, .nchk (.t 24), none⟩,
      ⟨some 26, .faddr 1 (.t 25), none⟩,
      ⟨some 27, .load false 1 (.t 26), none⟩,
      ⟨some 28, .mv (.t 2), none⟩,
      ⟨some 29, .iaddrS 3 (.t 27) (.t 28), none⟩,
      ⟨some 30, .faddr 1 (.t 29), none⟩,
      ⟨some 31, .load false 1 (.t 30), none⟩,
      ⟨some 32, .call (.k (.fn 70 [] [])) [(.t 21), (.t 22), (.t 23), (.t 31), (.k (.int .i64 (-1)))], none⟩]))
theorem b49 : Body Try.prog 49 c49 [] 33 := ⟨by kernel_rfl, _, _, Try.func49, rfl, by kernel_rfl, by kernel_rfl, rfl⟩
def c50 : ACode :=
  .seq (.reg [⟨some 4, .mv (.k (.int .i64 0)), none⟩])
  (.seq (.block 0 (.seq (.reg [⟨some 6, .mv (.t 0), none⟩,
     ⟨some 7, .call (.k (.fn 43 [] [])) [(.t 6)], none⟩,
     ⟨some 8, .un .not (.t 7), none⟩,
     ⟨some 5, .mv (.t 8), none⟩])
   (.cond (.t 5) (.seq (.reg [⟨some 4, .mv (.k (.int .i64 1)), none⟩])
     (.ret))
     (.seq (.reg [⟨some 10, .mv (.t 1), none⟩,
       ⟨some 11, .bin .lss (.t 10) (.k (.int .i64 0)), none⟩,
       ⟨some 12, .mv (.t 11), none⟩,
       ⟨some 13, .mv (.t 1), some (12, false)⟩,
       ⟨some 14, .mv (.t 0), some (12, false)⟩,
       ⟨some 15, .nchk (.t 14), some (12, false)⟩,
       ⟨some 16, .faddr 0 (.t 15), some (12, false)⟩,
       ⟨some 17, .load false 1 (.t 16), some (12, false)⟩,
       ⟨some 18, .len (.t 17), some (12, false)⟩,
       ⟨some 19, .bin .geq (.t 13) (.t 18), some (12, false)⟩,
       ⟨some 20, .pick (.t 12) (.k (.bool true)) (.t 19), none⟩,
       ⟨some 21, .mv (.t 20), none⟩,
       ⟨some 22, .mv (.t 0), some (21, false)⟩,
       ⟨some 23, .nchk (.t 22), some (21, false)⟩,
       ⟨some 24, .faddr 0 (.t 23), some (21, false)⟩,
       ⟨some 25, .load false 1 (.t 24), some (21, false)⟩,
       ⟨some 26, .mv (.t 1), some (21, false)⟩,
       ⟨some 27, .iaddrS 4 (.t 25) (.t 26), some (21, false)⟩,
       ⟨some 28, .faddr 1 (.t 27), some (21, false)⟩,
       ⟨some 29, .load false 1 (.t 28), some (21, false)⟩,
       ⟨some 30, .bin .eql (.t 29) (.k (.int .i64 (-1))), some (21, false)⟩,
       ⟨some 31, .pick (.t 21) (.k (.bool true)) (.t 30), none⟩,
       ⟨some 9, .mv (.t 31), none⟩])
     (.cond (.t 9) (.seq (.reg [⟨some 4, .mv (.k (.int .i64 4)), none⟩])
       (.ret))
       (.skip))))))
  (.seq (.reg [⟨some 4, .mv (.k (.int .i64 0)), none⟩])
  (.ret)))
theorem b50 : Body Try.prog 50 c50 [.tmp 4] 32 := ⟨by kernel_rfl, _, _, Try.func50, rfl, by kernel_rfl, by kernel_rfl, rfl⟩
def c51 : ACode :=
  .seq (.reg [⟨some 6, .mv (.t 0), none⟩,
    ⟨some 7, .nchk (.t 6), none⟩,
    ⟨some 8, .faddr 0 (.t 7), none⟩,
    ⟨some 9, .load false 1 (.t 8), none⟩,
    ⟨some 10, .mv (.t 1), none⟩,
    ⟨some 11, .iaddrS 4 (.t 9) (.t 10), none⟩,
    ⟨some 4, .mv (.t 11), none⟩])
  (.seq (.regD [⟨some 12, .mv (.t 0), none⟩,
    ⟨some 13, .nchk (.t 12), none⟩,
    ⟨some 14, .faddr 1 (.t 13), none⟩,
    ⟨some 15, .load false 1 (.t 14), none⟩,
    ⟨some 16, .mv (.t 4), none⟩,
    ⟨some 17, .nchk (.t 16), none⟩,
    ⟨some 18, .faddr 1 (.t 17), none⟩,
    ⟨some 19, .load false 1 (.t 18), none⟩,
    ⟨some 20, .iaddrS 3 (.t 15) (.t 19), none⟩,
    ⟨some 5, .mv (.t 20), none⟩] [[], [0], [1], [2], [], [4], [5], [6], [3, 7], [8, 0, 1, 2, 3, 4, 5, 6, 7, 8]])
  (.seq (.seq (.reg [⟨some 21, .mv (.t 4), none⟩,
    ⟨some 22, .nchk (.t 21), none⟩,
    ⟨some 23, .faddr 3 (.t 22), none⟩,
    ⟨some 24, .load false 1 (.t 23), none⟩,
    ⟨some 25, .bin .eql (.t 24) (.k (.int .i64 (-1))), none⟩])
  (.cond (.t 25) (.reg [⟨some 26, .mv (.t 5), none⟩,
      ⟨some 27, .mv (.t 4), none⟩,
      ⟨some 28, .nchk (.t 27), none⟩,
      ⟨some 29, .faddr 2 (.t 28), none⟩,
      ⟨some 30, .load false 1 (.t 29), none⟩,
      ⟨some 31, .nchk (.t 26), none⟩,
      ⟨some 32, .faddr 0 (.t 31), none⟩,
      ⟨none, .store 1 (.t 32) (.t 30), none⟩])
    (.regD [⟨some 33, .mv (.t 0), none⟩,
      ⟨some 34, .nchk (.t 33), none⟩,
      ⟨some 35, .faddr 0 (.t 34), none⟩,
      ⟨some 36, .load false 1 (.t 35), none⟩,
      ⟨some 37, .mv (.t 4), none⟩,
      ⟨some 38, .nchk (.t 37), none⟩,
      ⟨some 39, .faddr 3 (.t 38), none⟩,
      ⟨some 40, .load false 1 (.t 39), none⟩,
      ⟨some 41, .mv (.t 4), none⟩,
      ⟨some 42, .nchk (.t 41), none⟩,
      ⟨some 43, .faddr 2 (.t 42), none⟩,
      ⟨some 44, .load false 1 (.t 43), none⟩,
      ⟨some 45, .iaddrS 4 (.t 36) (.t 40), none⟩,
      ⟨some 46, .faddr 2 (.t 45), none⟩,
      ⟨none, .store 1 (.t 46) (.t 44), none⟩] [[], [0], [1], [2], [], [4], [5], [6], [], [8], [9], [10], [3, 7, 0, 1, 2, 3, 4, 5, 6, 7, 8, 9, 10, 11], [12, 0, 1, 2, 3, 4, 5, 6, 7, 8, 9, 10, 11], [13, 11, 0, 1, 2, 3, 4, 5, 6, 7, 8, 9, 10, 11]])))
  (.seq (.seq (.reg [⟨some 47, .mv (.t 4), none⟩,
    ⟨some 48, .nchk (.t 47), none⟩,
    ⟨some 49, .faddr 2 (.t 48), none⟩,
    ⟨some 50, .load false 1 (.t 49), none⟩,
    ⟨some 51, .bin .eql (.t 50) (.k (.int .i64 (-1))), none⟩])
  (.cond (.t 51) (.reg [⟨some 52, .mv (.t 5), none⟩,
      ⟨some 53, .mv (.t 4), none⟩,
      ⟨some 54, .nchk (.t 53), none⟩,
      ⟨some 55, .faddr 3 (.t 54), none⟩,
      ⟨some 56, .load false 1 (.t 55), none⟩,
      ⟨some 57, .nchk (.t 52), none⟩,
      ⟨some 58, .faddr 1 (.t 57), none⟩,
      ⟨none, .store 1 (.t 58) (.t 56), none⟩])
    (.regD [⟨some 59, .mv (.t 0), none⟩,
      ⟨some 60, .nchk (.t 59), none⟩,
      ⟨some 61, .faddr 0 (.t 60), none⟩,
      ⟨some 62, .load false 1 (.t 61), none⟩,
      ⟨some 63, .mv (.t 4), none⟩,
      ⟨some 64, .nchk (.t 63), none⟩,
      ⟨some 65, .faddr 2 (.t 64), none⟩,
      ⟨some 66, .load false 1 (.t 65), none⟩,
      ⟨some 67, .mv (.t 4), none⟩,
      ⟨some 68, .nchk (.t 67), none⟩,
      ⟨some 69, .faddr 3 (.t 68), none⟩,
      ⟨some 70, .load false 1 (.t 69), none⟩,
      ⟨some 71, .iaddrS 4 (.t 62) (.t 66), none⟩,
      ⟨some 72, .faddr 3 (.t 71), none⟩,
      ⟨none, .store 1 (.t 72) (.t 70), none⟩] [[], [0], [1], [2], [], [4], [5], [6], [], [8], [9], [10], [3, 7, 0, 1, 2, 3, 4, 5, 6, 7, 8, 9, 10, 11], [12, 0, 1, 2, 3, 4, 5, 6, 7, 8, 9, 10, 11], [13, 11, 0, 1, 2, 3, 4, 5, 6, 7, 8, 9, 10, 11]])))
  (.seq (.reg [⟨some 73, .mv (.t 5), none⟩,
    ⟨some 74, .nchk (.t 73), none⟩,
    ⟨some 75, .faddr 2 (.t 74), none⟩,
    ⟨some 76, .load false 1 (.t 75), none⟩,
    ⟨some 77, .bin .sub (.t 76) (.k (.int .i64 1)), none⟩,
    ⟨some 78, .nchk (.t 73), none⟩,
    ⟨some 79, .faddr 2 (.t 78), none⟩,
    ⟨none, .store 1 (.t 79) (.t 77), none⟩])
  (.reg [⟨some 80, .mv (.t 4), none⟩,
    ⟨some 81, .mv (.t 4), none⟩,
    ⟨some 82, .mv (.t 4), none⟩,
    ⟨some 83, .nchk (.t 80), none⟩,
    ⟨some 84, .faddr 1 (.t 83), none⟩,
    ⟨none, .store 1 (.t 84) (.k (.int .i64 (-1))), none⟩,
    ⟨some 85, .nchk (.t 81), none⟩,
    ⟨some 86, .faddr 3 (.t 85), none⟩,
    ⟨none, .store 1 (.t 86) (.k (.int .i64 (-1))), none⟩,
    ⟨some 87, .nchk (.t 82), none⟩,
    ⟨some 88, .faddr 2 (.t 87), none⟩,
    ⟨none, .store 1 (.t 88) (.k (.int .i64 (-1))), none⟩])))))
theorem b51 : Body Try.prog 51 c51 [] 89 := ⟨by kernel_rfl, _, _, Try.func51, rfl, by kernel_rfl, by kernel_rfl, rfl⟩
def c52 : ACode :=
  .seq (.reg [⟨some 4, .mv (.k .nilp), none⟩])
  (.seq (.regD [⟨some 8, .mv (.t 0), none⟩,
    ⟨some 9, .mks 4 32 [(.int .i64 0), (.int .i64 0), (.int .i64 0), (.int .i64 0)] (.t 8) (.t 8), none⟩,
    ⟨some 10, .mv (.t 1), none⟩,
    ⟨some 11, .mks 3 24 [(.int .i64 0), (.int .i64 0), (.int .i64 0)] (.t 10) (.t 10), none⟩,
    ⟨some 12, .build [.nils, .nils, (.int .i64 0)] [(0, 1, (.t 9)), (1, 1, (.t 11))], none⟩,
    ⟨some 13, .box (.t 12), none⟩,
    ⟨some 5, .mv (.t 13), none⟩] [[], [0, 0], [], [2, 2], [1, 3], [4], [5, 0, 1, 2, 3, 4, 5]])
  (.seq (.seq (.reg [⟨some 14, .mv (.t 5), none⟩,
    ⟨some 15, .nchk (.t 14), none⟩,
    ⟨some 16, .faddr 0 (.t 15), none⟩,
    ⟨some 17, .load false 1 (.t 16), none⟩,
    ⟨some 18, .len (.t 17), none⟩,
    ⟨some 19, .mv (.k (.int .i64 0)), none⟩])
  (.block 0 (.loop (.seq (.reg [⟨some 20, .bin .lss (.t 19) (.t 18), none⟩])
    (.seq (.cond (.t 20) (.skip)
      (.exit 0))
    (.seq (.block 1 (.seq (.reg [⟨some 21, .mv (.t 19), none⟩,
       ⟨some 6, .mv (.t 21), none⟩])
     (.reg [⟨some 22, .mv (.t 5), none⟩,
       ⟨some 23, .nchk (.t 22), none⟩,
       ⟨some 24, .faddr 0 (.t 23), none⟩,
       ⟨some 25, .load false 1 (.t 24), none⟩,
       ⟨some 26, .mv (.t 6), none⟩,
       ⟨some 27, .build [(.int .i64 0), (.int .i64 0), (.int .i64 0), (.int .i64 0)] [(1, 1, (.k (.int .i64 (-1)))), (2, 1, (.k (.int .i64 (-1)))), (3, 1, (.k (.int .i64 (-1))))], none⟩,
       ⟨some 28, .iaddrS 4 (.t 25) (.t 26), none⟩,
       ⟨none, .store 4 (.t 28) (.t 27), none⟩])))
    (.reg [⟨some 29, .bin .add (.t 19) (.k (.int .i64 1)), none⟩,
      ⟨some 19, .mv (.t 29), none⟩])))))))
  (.seq (.seq (.reg [⟨some 30, .mv (.t 5), none⟩,
    ⟨some 31, .nchk (.t 30), none⟩,
    ⟨some 32, .faddr 1 (.t 31), none⟩,
    ⟨some 33, .load false 1 (.t 32), none⟩,
    ⟨some 34, .len (.t 33), none⟩,
    ⟨some 35, .mv (.k (.int .i64 0)), none⟩])
  (.block 2 (.loop (.seq (.reg [⟨some 36, .bin .lss (.t 35) (.t 34), none⟩])
    (.seq (.cond (.t 36) (.skip)
      (.exit 2))
    (.seq (.block 3 (.seq (.reg [⟨some 37, .mv (.t 35), none⟩,
       ⟨some 7, .mv (.t 37), none⟩])
     (.reg [⟨some 38, .mv (.t 5), none⟩,
       ⟨some 39, .nchk (.t 38), none⟩,
       ⟨some 40, .faddr 1 (.t 39), none⟩,
       ⟨some 41, .load false 1 (.t 40), none⟩,
       ⟨some 42, .mv (.t 7), none⟩,
       ⟨some 43, .build [(.int .i64 0), (.int .i64 0), (.int .i64 0)] [(0, 1, (.k (.int .i64 (-1)))), (1, 1, (.k (.int .i64 (-1)))), (2, 1, (.k (.int .i64 0)))], none⟩,
       ⟨some 44, .iaddrS 3 (.t 41) (.t 42), none⟩,
       ⟨none, .store 3 (.t 44) (.t 43), none⟩])))
    (.reg [⟨some 45, .bin .add (.t 35) (.k (.int .i64 1)), none⟩,
      ⟨some 35, .mv (.t 45), none⟩])))))))
  (.seq (.reg [⟨some 46, .mv (.t 5), none⟩,
    ⟨some 4, .mv (.t 46), none⟩])
  (.ret)))))
theorem b52 : Body Try.prog 52 c52 [.tmp 4] 47 := ⟨by kernel_rfl, _, _, Try.func52, rfl, by kernel_rfl, by kernel_rfl, rfl⟩
def c53 : ACode :=
  .seq (.reg [⟨some 6, .mv (.k (.int .i64 0)), none⟩,
    ⟨some 7, .mv (.k (.int .i64 0)), none⟩])
  (.seq (.reg [⟨some 12, .mv (.t 0), none⟩,
    ⟨some 13, .mv (.t 1), none⟩,
    ⟨some 14, .call (.k (.fn 71 [] [])) [(.t 12), (.t 13)], none⟩,
    ⟨some 11, .mv (.t 14), none⟩,
    ⟨some 15, .ext (.t 11) 0, none⟩,
    ⟨some 16, .ext (.t 11) 1, none⟩,
    ⟨some 8, .mv (.t 15), none⟩,
    ⟨some 9, .mv (.t 16), none⟩])
  (.seq (.seq (.reg [⟨some 17, .mv (.t 8), none⟩,
    ⟨some 18, .bin .lss (.t 17) (.k (.int .i64 0)), none⟩])
  (.cond (.t 18) (.seq (.reg [⟨some 6, .mv (.k (.int .i64 0)), none⟩,
      ⟨some 7, .mv (.k (.int .i64 4)), none⟩])
    (.ret))
    (.skip)))
  (.seq (.reg [⟨some 19, .mv (.t 0), none⟩,
    ⟨some 20, .call (.k (.fn 72 [] [])) [(.t 19)], none⟩,
    ⟨some 10, .mv (.t 20), none⟩])
  (.seq (.seq (.reg [⟨some 21, .mv (.t 10), none⟩,
    ⟨some 22, .bin .lss (.t 21) (.k (.int .i64 0)), none⟩])
  (.cond (.t 22) (.seq (.reg [⟨some 6, .mv (.k (.int .i64 0)), none⟩,
      ⟨some 7, .mv (.k (.int .i64 5)), none⟩])
    (.ret))
    (.skip)))
  (.seq (.reg [⟨some 23, .mv (.t 0), none⟩,
    ⟨some 24, .mv (.t 8), none⟩,
    ⟨some 25, .mv (.t 9), none⟩,
    ⟨some 26, .bin .add (.t 25) (.k (.int .i64 1)), none⟩,
    ⟨some 27, .mv (.t 10), none⟩,
    ⟨some 28, .call (.k (.fn 73 [] [])) [(.t 23), (.t 24), (.t 26), (.t 27)], none⟩])
  (.seq (.reg [⟨some 29, .mv (.t 0), none⟩,
    ⟨some 30, .nchk (.t 29), none⟩,
    ⟨some 31, .faddr 2 (.t 30), none⟩,
    ⟨some 32, .load false 1 (.t 31), none⟩,
    ⟨some 33, .mv (.t 10), none⟩,
    ⟨some 34, .mv (.t 2), none⟩,
    ⟨some 35, .iaddrS 1 (.t 32) (.t 33), none⟩,
    ⟨none, .store 1 (.t 35) (.t 34), none⟩])
  (.seq (.reg [⟨some 36, .mv (.t 10), none⟩,
    ⟨some 6, .mv (.t 36), none⟩,
    ⟨some 7, .mv (.k (.int .i64 0)), none⟩])
  (.ret))))))))
theorem b53 : Body Try.prog 53 c53 [.tmp 6, .tmp 7] 37 := ⟨by kernel_rfl, _, _, Try.func53, rfl, by kernel_rfl, by kernel_rfl, rfl⟩
def c54 : ACode :=
  .seq (.reg [⟨some 4, .mv (.k (.int .i64 0)), none⟩,
    ⟨some 5, .mv (.k (.int .i64 0)), none⟩])
  (.seq (.reg [⟨some 10, .mv (.t 0), none⟩,
    ⟨some 11, .mv (.t 1), none⟩,
    ⟨some 12, .call (.k (.fn 71 [] [])) [(.t 10), (.t 11)], none⟩,
    ⟨some 9, .mv (.t 12), none⟩,
    ⟨some 13, .ext (.t 9) 0, none⟩,
    ⟨some 14, .ext (.t 9) 1, none⟩,
    ⟨some 6, .mv (.t 13), none⟩,
    ⟨some 7, .mv (.t 14), none⟩])
  (.seq (.seq (.reg [⟨some 15, .mv (.t 6), none⟩,
    ⟨some 16, .bin .lss (.t 15) (.k (.int .i64 0)), none⟩])
  (.cond (.t 16) (.seq (.reg [⟨some 4, .mv (.k (.int .i64 0)), none⟩,
      ⟨some 5, .mv (.k (.int .i64 4)), none⟩])
    (.ret))
    (.skip)))
  (.seq (.reg [⟨some 17, .mv (.t 0), none⟩,
    ⟨some 18, .mv (.t 6), none⟩,
    ⟨some 19, .mv (.t 7), none⟩,
    ⟨some 20, .call (.k (.fn 74 [] [])) [(.t 17), (.t 18), (.t 19)], none⟩])
  (.seq (.reg [⟨some 21, .mv (.t 0), none⟩,
    ⟨some 22, .nchk (.t 21), none⟩,
    ⟨some 23, .faddr 2 (.t 22), none⟩,
    ⟨some 24, .load false 1 (.t 23), none⟩,
    ⟨some 25, .mv (.t 1), none⟩,
    ⟨some 26, .iaddrS 1 (.t 24) (.t 25), none⟩,
    ⟨some 27, .load false 1 (.t 26), none⟩,
    ⟨some 8, .mv (.t 27), none⟩])
  (.seq (.reg [⟨some 28, .mv (.t 0), none⟩,
    ⟨some 29, .nchk (.t 28), none⟩,
    ⟨some 30, .faddr 2 (.t 29), none⟩,
    ⟨some 31, .load false 1 (.t 30), none⟩,
    ⟨some 32, .mv (.t 1), none⟩,
    ⟨some 33, .iaddrS 1 (.t 31) (.t 32), none⟩,
    ⟨none, .store 1 (.t 33) (.k (.int .i64 0)), none⟩])
  (.seq (.reg [⟨some 34, .mv (.t 8), none⟩,
    ⟨some 4, .mv (.t 34), none⟩,
    ⟨some 5, .mv (.k (.int .i64 0)), none⟩])
  (.ret)))))))
theorem b54 : Body Try.prog 54 c54 [.tmp 4, .tmp 5] 35 := ⟨by kernel_rfl, _, _, Try.func54, rfl, by kernel_rfl, by kernel_rfl, rfl⟩
def c55 : ACode :=
  .seq (.reg [⟨some 8, .mv (.k (.int .i64 0)), none⟩])
  (.seq (.seq (.reg [⟨some 11, .mv (.t 0), none⟩,
    ⟨some 12, .mv (.t 1), none⟩,
    ⟨some 13, .call (.k (.fn 50 [] [])) [(.t 11), (.t 12)], none⟩,
    ⟨some 9, .mv (.t 13), none⟩])
  (.seq (.reg [⟨some 14, .mv (.t 9), none⟩,
    ⟨some 15, .bin .neq (.t 14) (.k (.int .i64 0)), none⟩])
  (.cond (.t 15) (.seq (.reg [⟨some 16, .mv (.t 9), none⟩,
      ⟨some 8, .mv (.t 16), none⟩])
    (.ret))
    (.skip))))
  (.seq (.seq (.reg [⟨some 17, .mv (.t 0), none⟩,
    ⟨some 18, .mv (.t 2), none⟩,
    ⟨some 19, .call (.k (.fn 47 [] [])) [(.t 17), (.t 18)], none⟩,
    ⟨some 10, .mv (.t 19), none⟩])
  (.seq (.reg [⟨some 20, .mv (.t 10), none⟩,
    ⟨some 21, .bin .neq (.t 20) (.k (.int .i64 0)), none⟩])
  (.cond (.t 21) (.seq (.reg [⟨some 22, .mv (.t 10), none⟩,
      ⟨some 8, .mv (.t 22), none⟩])
    (.ret))
    (.skip))))
  (.seq (.reg [⟨some 23, .mv (.t 0), none⟩,
    ⟨some 24, .mv (.t 1), none⟩,
    ⟨some 25, .call (.k (.fn 51 [] [])) [(.t 23), (.t 24)], none⟩])
  (.seq (.reg [⟨some 26, .mv (.t 0), none⟩,
    ⟨some 27, .mv (.t 1), none⟩,
    ⟨some 28, .mv (.t 2), none⟩,
    ⟨some 29, .mv (.t 3), none⟩,
    ⟨some 30, .call (.k (.fn 49 [] [])) [(.t 26), (.t 27), (.t 28), (.t 29)], none⟩])
  (.seq (.reg [⟨some 8, .mv (.k (.int .i64 0)), none⟩])
  (.ret))))))
theorem b55 : Body Try.prog 55 c55 [.tmp 8] 31 := ⟨by kernel_rfl, _, _, Try.func55, rfl, by kernel_rfl, by kernel_rfl, rfl⟩
def c56 : ACode :=
  .seq (.reg [⟨some 8, .mv (.k (.int .i64 0)), none⟩])
  (.seq (.reg [⟨some 12, .mv (.t 0), none⟩,
    ⟨some 13, .mv (.t 1), none⟩,
    ⟨some 14, .call (.k (.fn 71 [] [])) [(.t 12), (.t 13)], none⟩,
    ⟨some 11, .mv (.t 14), none⟩,
    ⟨some 15, .ext (.t 11) 0, none⟩,
    ⟨some 16, .ext (.t 11) 1, none⟩,
    ⟨some 9, .mv (.t 15), none⟩,
    ⟨some 10, .mv (.t 16), none⟩])
  (.seq (.seq (.reg [⟨some 17, .mv (.t 9), none⟩,
    ⟨some 18, .bin .lss (.t 17) (.k (.int .i64 0)), none⟩])
  (.cond (.t 18) (.seq (.reg [⟨some 8, .mv (.k (.int .i64 4)), none⟩])
    (.ret))
    (.skip)))
  (.seq (.seq (.reg [⟨some 19, .mv (.t 2), none⟩,
    ⟨some 20, .bin .lss (.t 19) (.k (.int .i64 0)), none⟩,
    ⟨some 21, .mv (.t 20), none⟩,
    ⟨some 22, .mv (.t 2), some (21, false)⟩,
    ⟨some 23, .mv (.t 0), some (21, false)⟩,
    ⟨some 24, .nchk (.t 23), some (21, false)⟩,
    ⟨some 25, .faddr 1 (.t 24), some (21, false)⟩,
    ⟨some 26, .load false 1 (.t 25), some (21, false)⟩,
    ⟨some 27, .len (.t 26), some (21, false)⟩,
    ⟨some 28, .bin .geq (.t 22) (.t 27), some (21, false)⟩,
    ⟨some 29, .pick (.t 21) (.k (.bool true)) (.t 28), none⟩])
  (.cond (.t 29) (.seq (.reg [⟨some 8, .mv (.k (.int .i64 7)), none⟩])
    (.ret))
    (.skip)))
  (.seq (.reg [⟨some 30, .mv (.t 0), none⟩,
    ⟨some 31, .mv (.t 9), none⟩,
    ⟨some 32, .mv (.t 10), none⟩,
    ⟨some 33, .call (.k (.fn 74 [] [])) [(.t 30), (.t 31), (.t 32)], none⟩])
  (.seq (.reg [⟨some 34, .mv (.t 0), none⟩,
    ⟨some 35, .mv (.t 2), none⟩,
    ⟨some 36, .mv (.t 0), none⟩,
    ⟨some 37, .mv (.t 2), none⟩,
    ⟨some 38, .mv (.t 3), none⟩,
    ⟨some 39, .call (.k (.fn 75 [] [])) [(.t 36), (.t 37), (.t 38)], none⟩,
    ⟨some 40, .mv (.t 1), none⟩,
    ⟨some 41, .call (.k (.fn 73 [] [])) [(.t 34), (.t 35), (.t 39), (.t 40)], none⟩])
  (.seq (.reg [⟨some 8, .mv (.k (.int .i64 0)), none⟩])
  (.ret)))))))
theorem b56 : Body Try.prog 56 c56 [.tmp 8] 42 := ⟨by kernel_rfl, _, _, Try.func56, rfl, by kernel_rfl, by kernel_rfl, rfl⟩
def c57 : ACode :=
  .seq (.reg [⟨some 6, .mv (.k (.int .i64 0)), none⟩])
  (.seq (.seq (.reg [⟨some 8, .mv (.t 0), none⟩,
    ⟨some 9, .mv (.t 1), none⟩,
    ⟨some 10, .call (.k (.fn 50 [] [])) [(.t 8), (.t 9)], none⟩,
    ⟨some 7, .mv (.t 10), none⟩])
  (.seq (.reg [⟨some 11, .mv (.t 7), none⟩,
    ⟨some 12, .bin .neq (.t 11) (.k (.int .i64 0)), none⟩])
  (.cond (.t 12) (.seq (.reg [⟨some 13, .mv (.t 7), none⟩,
      ⟨some 6, .mv (.t 13), none⟩])
    (.ret))
    (.skip))))
  (.seq (.reg [⟨some 14, .mv (.t 0), none⟩,
    ⟨some 15, .nchk (.t 14), none⟩,
    ⟨some 16, .faddr 0 (.t 15), none⟩,
    ⟨some 17, .load false 1 (.t 16), none⟩,
    ⟨some 18, .mv (.t 1), none⟩,
    ⟨some 19, .mv (.t 2), none⟩,
    ⟨some 20, .iaddrS 4 (.t 17) (.t 18), none⟩,
    ⟨some 21, .faddr 0 (.t 20), none⟩,
    ⟨none, .store 1 (.t 21) (.t 19), none⟩])
  (.seq (.reg [⟨some 6, .mv (.k (.int .i64 0)), none⟩])
  (.ret))))
theorem b57 : Body Try.prog 57 c57 [.tmp 6] 22 := ⟨by kernel_rfl, _, _, Try.func57, rfl, by kernel_rfl, by kernel_rfl, rfl⟩
def c58 : ACode :=
  .seq (.reg [⟨some 6, .mv (.k (.int .i64 0)), none⟩])
  (.seq (.reg [⟨some 10, .mv (.t 0), none⟩,
    ⟨some 11, .mv (.t 1), none⟩,
    ⟨some 12, .call (.k (.fn 71 [] [])) [(.t 10), (.t 11)], none⟩,
    ⟨some 9, .mv (.t 12), none⟩,
    ⟨some 13, .ext (.t 9) 0, none⟩,
    ⟨some 14, .ext (.t 9) 1, none⟩,
    ⟨some 7, .mv (.t 13), none⟩,
    ⟨some 8, .mv (.t 14), none⟩])
  (.seq (.seq (.reg [⟨some 15, .mv (.t 7), none⟩,
    ⟨some 16, .bin .lss (.t 15) (.k (.int .i64 0)), none⟩])
  (.cond (.t 16) (.seq (.reg [⟨some 6, .mv (.k (.int .i64 4)), none⟩])
    (.ret))
    (.skip)))
  (.seq (.reg [⟨some 17, .mv (.t 0), none⟩,
    ⟨some 18, .nchk (.t 17), none⟩,
    ⟨some 19, .faddr 2 (.t 18), none⟩,
    ⟨some 20, .load false 1 (.t 19), none⟩,
    ⟨some 21, .mv (.t 1), none⟩,
    ⟨some 22, .mv (.t 2), none⟩,
    ⟨some 23, .iaddrS 1 (.t 20) (.t 21), none⟩,
    ⟨none, .store 1 (.t 23) (.t 22), none⟩])
  (.seq (.reg [⟨some 6, .mv (.k (.int .i64 0)), none⟩])
  (.ret)))))
theorem b58 : Body Try.prog 58 c58 [.tmp 6] 24 := ⟨by kernel_rfl, _, _, Try.func58, rfl, by kernel_rfl, by kernel_rfl, rfl⟩
def c59 : ACode :=
  .seq (.reg [⟨some 4, .mv (.k (.int .i64 0)), none⟩,
    ⟨some 5, .mv (.k (.int .i64 0)), none⟩])
  (.seq (.seq (.reg [⟨some 7, .mv (.t 0), none⟩,
    ⟨some 8, .mv (.t 1), none⟩,
    ⟨some 9, .call (.k (.fn 50 [] [])) [(.t 7), (.t 8)], none⟩,
    ⟨some 6, .mv (.t 9), none⟩])
  (.seq (.reg [⟨some 10, .mv (.t 6), none⟩,
    ⟨some 11, .bin .neq (.t 10) (.k (.int .i64 0)), none⟩])
  (.cond (.t 11) (.seq (.reg [⟨some 12, .mv (.t 4), none⟩,
      ⟨some 13, .mv (.t 6), none⟩,
      ⟨some 4, .mv (.t 12), none⟩,
      ⟨some 5, .mv (.t 13), none⟩])
    (.ret))
    (.skip))))
  (.seq (.reg [⟨some 14, .mv (.t 0), none⟩,
    ⟨some 15, .nchk (.t 14), none⟩,
    ⟨some 16, .faddr 0 (.t 15), none⟩,
    ⟨some 17, .load false 1 (.t 16), none⟩,
    ⟨some 18, .mv (.t 1), none⟩,
    ⟨some 19, .iaddrS 4 (.t 17) (.t 18), none⟩,
    ⟨some 20, .faddr 0 (.t 19), none⟩,
    ⟨some 21, .load false 1 (.t 20), none⟩,
    ⟨some 4, .mv (.t 21), none⟩,
    ⟨some 5, .mv (.k (.int .i64 0)), none⟩])
  (.ret)))
theorem b59 : Body Try.prog 59 c59 [.tmp 4, .tmp 5] 22 := ⟨by kernel_rfl, _, _, Try.func59, rfl, by kernel_rfl, by kernel_rfl, rfl⟩
def c60 : ACode :=
  .seq (.reg [⟨some 4, .mv (.k (.int .i64 0)), none⟩,
    ⟨some 5, .mv (.k (.int .i64 0)), none⟩])
  (.seq (.reg [⟨some 9, .mv (.t 0), none⟩,
    ⟨some 10, .mv (.t 1), none⟩,
    ⟨some 11, .call (.k (.fn 71 [] [])) [(.t 9), (.t 10)], none⟩,
    ⟨some 8, .mv (.t 11), none⟩,
    ⟨some 12, .ext (.t 8) 0, none⟩,
    ⟨some 13, .ext (.t 8) 1, none⟩,
    ⟨some 6, .mv (.t 12), none⟩,
    ⟨some 7, .mv (.t 13), none⟩])
  (.seq (.seq (.reg [⟨some 14, .mv (.t 6), none⟩,
    ⟨some 15, .bin .lss (.t 14) (.k (.int .i64 0)), none⟩])
  (.cond (.t 15) (.seq (.reg [⟨some 4, .mv (.k (.int .i64 0)), none⟩,
      ⟨some 5, .mv (.k (.int .i64 4)), none⟩])
    (.ret))
    (.skip)))
  (.seq (.reg [⟨some 16, .mv (.t 0), none⟩,
    ⟨some 17, .nchk (.t 16), none⟩,
    ⟨some 18, .faddr 2 (.t 17), none⟩,
    ⟨some 19, .load false 1 (.t 18), none⟩,
    ⟨some 20, .mv (.t 1), none⟩,
    ⟨some 21, .iaddrS 1 (.t 19) (.t 20), none⟩,
    ⟨some 22, .load false 1 (.t 21), none⟩,
    ⟨some 4, .mv (.t 22), none⟩,
    ⟨some 5, .mv (.k (.int .i64 0)), none⟩])
  (.ret))))
theorem b60 : Body Try.prog 60 c60 [.tmp 4, .tmp 5] 23 := ⟨by kernel_rfl, _, _, Try.func60, rfl, by kernel_rfl, by kernel_rfl, rfl⟩
def c61 : ACode :=
  .seq (.reg [⟨some 4, .mv (.k (.int .i64 0)), none⟩,
    ⟨some 5, .mv (.k (.int .i64 0)), none⟩])
  (.seq (.seq (.reg [⟨some 7, .mv (.t 0), none⟩,
    ⟨some 8, .mv (.t 1), none⟩,
    ⟨some 9, .call (.k (.fn 50 [] [])) [(.t 7), (.t 8)], none⟩,
    ⟨some 6, .mv (.t 9), none⟩])
  (.seq (.reg [⟨some 10, .mv (.t 6), none⟩,
    ⟨some 11, .bin .neq (.t 10) (.k (.int .i64 0)), none⟩])
  (.cond (.t 11) (.seq (.reg [⟨some 12, .mv (.t 6), none⟩,
      ⟨some 4, .mv (.k (.int .i64 0)), none⟩,
      ⟨some 5, .mv (.t 12), none⟩])
    (.ret))
    (.skip))))
  (.seq (.reg [⟨some 13, .mv (.t 0), none⟩,
    ⟨some 14, .nchk (.t 13), none⟩,
    ⟨some 15, .faddr 0 (.t 14), none⟩,
    ⟨some 16, .load false 1 (.t 15), none⟩,
    ⟨some 17, .mv (.t 1), none⟩,
    ⟨some 18, .iaddrS 4 (.t 16) (.t 17), none⟩,
    ⟨some 19, .faddr 1 (.t 18), none⟩,
    ⟨some 20, .load false 1 (.t 19), none⟩,
    ⟨some 4, .mv (.t 20), none⟩,
    ⟨some 5, .mv (.k (.int .i64 0)), none⟩])
  (.ret)))
theorem b61 : Body Try.prog 61 c61 [.tmp 4, .tmp 5] 21 := ⟨by kernel_rfl, _, _, Try.func61, rfl, by kernel_rfl, by kernel_rfl, rfl⟩
def c62 : ACode :=
  .seq (.reg [⟨some 4, .mv (.k (.int .i64 0)), none⟩,
    ⟨some 5, .mv (.k (.int .i64 0)), none⟩])
  (.seq (.reg [⟨some 9, .mv (.t 0), none⟩,
    ⟨some 10, .mv (.t 1), none⟩,
    ⟨some 11, .call (.k (.fn 71 [] [])) [(.t 9), (.t 10)], none⟩,
    ⟨some 8, .mv (.t 11), none⟩,
    ⟨some 12, .ext (.t 8) 0, none⟩,
    ⟨some 13, .ext (.t 8) 1, none⟩,
    ⟨some 6, .mv (.t 12), none⟩,
    ⟨some 7, .mv (.t 13), none⟩])
  (.seq (.seq (.reg [⟨some 14, .mv (.t 6), none⟩,
    ⟨some 15, .bin .lss (.t 14) (.k (.int .i64 0)), none⟩])
  (.cond (.t 15) (.seq (.reg [⟨some 4, .mv (.k (.int .i64 0)), none⟩,
      ⟨some 5, .mv (.k (.int .i64 4)), none⟩])
    (.ret))
    (.skip)))
  (.seq (.reg [⟨some 16, .mv (.t 6), none⟩,
    ⟨some 4, .mv (.t 16), none⟩,
    ⟨some 5, .mv (.k (.int .i64 0)), none⟩])
  (.ret))))
theorem b62 : Body Try.prog 62 c62 [.tmp 4, .tmp 5] 17 := ⟨by kernel_rfl, _, _, Try.func62, rfl, by kernel_rfl, by kernel_rfl, rfl⟩
def c63 : ACode :=
  .seq (.reg [⟨some 6, .mv (.k (.int .i64 0)), none⟩,
    ⟨some 7, .mv (.k (.int .i64 0)), none⟩])
  (.seq (.seq (.reg [⟨some 9, .mv (.t 0), none⟩,
    ⟨some 10, .mv (.t 1), none⟩,
    ⟨some 11, .call (.k (.fn 50 [] [])) [(.t 9), (.t 10)], none⟩,
    ⟨some 8, .mv (.t 11), none⟩])
  (.seq (.reg [⟨some 12, .mv (.t 8), none⟩,
    ⟨some 13, .bin .neq (.t 12) (.k (.int .i64 0)), none⟩])
  (.cond (.t 13) (.seq (.reg [⟨some 14, .mv (.t 8), none⟩,
      ⟨some 6, .mv (.k (.int .i64 0)), none⟩,
      ⟨some 7, .mv (.t 14), none⟩])
    (.ret))
    (.skip))))
  (.seq (.reg [⟨some 15, .mv (.t 0), none⟩,
    ⟨some 16, .mv (.t 1), none⟩,
    ⟨some 17, .mv (.t 2), none⟩,
    ⟨some 18, .call (.k (.fn 76 [] [])) [(.t 15), (.t 16), (.t 17)], none⟩,
    ⟨some 6, .mv (.t 18), none⟩])
  (.seq (.seq (.reg [⟨some 19, .mv (.t 6), none⟩,
    ⟨some 20, .bin .eql (.t 19) (.k (.int .i64 (-1))), none⟩])
  (.cond (.t 20) (.seq (.reg [⟨some 6, .mv (.k (.int .i64 0)), none⟩,
      ⟨some 7, .mv (.k (.int .i64 9)), none⟩])
    (.ret))
    (.skip)))
  (.seq (.reg [⟨some 21, .mv (.t 6), none⟩,
    ⟨some 6, .mv (.t 21), none⟩,
    ⟨some 7, .mv (.k (.int .i64 0)), none⟩])
  (.ret)))))
theorem b63 : Body Try.prog 63 c63 [.tmp 6, .tmp 7] 22 := ⟨by kernel_rfl, _, _, Try.func63, rfl, by kernel_rfl, by kernel_rfl, rfl⟩
def c64 : ACode :=
  .seq (.reg [⟨some 6, .mv (.k (.int .i64 0)), none⟩,
    ⟨some 7, .mv (.k (.int .i64 0)), none⟩])
  (.seq (.reg [⟨some 11, .mv (.t 0), none⟩,
    ⟨some 12, .mv (.t 1), none⟩,
    ⟨some 13, .call (.k (.fn 71 [] [])) [(.t 11), (.t 12)], none⟩,
    ⟨some 10, .mv (.t 13), none⟩,
    ⟨some 14, .ext (.t 10) 0, none⟩,
    ⟨some 15, .ext (.t 10) 1, none⟩,
    ⟨some 8, .mv (.t 14), none⟩,
    ⟨some 9, .mv (.t 15), none⟩])
  (.seq (.seq (.reg [⟨some 16, .mv (.t 8), none⟩,
    ⟨some 17, .bin .lss (.t 16) (.k (.int .i64 0)), none⟩])
  (.cond (.t 17) (.seq (.reg [⟨some 6, .mv (.k (.int .i64 0)), none⟩,
      ⟨some 7, .mv (.k (.int .i64 4)), none⟩])
    (.ret))
    (.skip)))
  (.seq (.reg [⟨some 18, .mv (.t 9), none⟩,
    ⟨some 19, .bin .add (.t 18) (.k (.int .i64 1)), none⟩,
    ⟨some 9, .mv (.t 19), none⟩])
  (.seq (.seq (.reg [⟨some 20, .mv (.t 2), none⟩])
  (.cond (.t 20) (.reg [⟨some 21, .mv (.t 9), none⟩,
      ⟨some 22, .bin .sub (.t 21) (.k (.int .i64 2)), none⟩,
      ⟨some 9, .mv (.t 22), none⟩])
    (.skip)))
  (.seq (.seq (.reg [⟨some 23, .mv (.t 9), none⟩,
    ⟨some 24, .bin .lss (.t 23) (.k (.int .i64 0)), none⟩,
    ⟨some 25, .mv (.t 24), none⟩,
    ⟨some 26, .mv (.t 9), some (25, false)⟩,
    ⟨some 27, .mv (.t 0), some (25, false)⟩,
    ⟨some 28, .nchk (.t 27), some (25, false)⟩,
    ⟨some 29, .faddr 1 (.t 28), some (25, false)⟩,
    ⟨some 30, .load false 1 (.t 29), some (25, false)⟩,
    ⟨some 31, .mv (.t 8), some (25, false)⟩,
    ⟨some 32, .iaddrS 1 (.t 30) (.t 31), some (25, false)⟩,
    ⟨some 33, .load false 1 (.t 32), some (25, false)⟩,
    ⟨some 34, .len (.t 33), some (25, false)⟩,
    ⟨some 35, .bin .geq (.t 26) (.t 34), some (25, false)⟩,
    ⟨some 36, .pick (.t 25) (.k (.bool true)) (.t 35), none⟩])
  (.cond (.t 36) (.seq (.reg [⟨some 6, .mv (.k (.int .i64 0)), none⟩,
      ⟨some 7, .mv (.k (.int .i64 9)), none⟩])
    (.ret))
    (.skip)))
  (.seq (.reg [⟨some 37, .mv (.t 0), none⟩,
    ⟨some 38, .nchk (.t 37), none⟩,
    ⟨some 39, .faddr 1 (.t 38), none⟩,
    ⟨some 40, .load false 1 (.t 39), none⟩,
    ⟨some 41, .mv (.t 8), none⟩,
    ⟨some 42, .iaddrS 1 (.t 40) (.t 41), none⟩,
    ⟨some 43, .load false 1 (.t 42), none⟩,
    ⟨some 44, .mv (.t 9), none⟩,
    ⟨some 45, .iaddrS 1 (.t 43) (.t 44), none⟩,
    ⟨some 46, .load false 1 (.t 45), none⟩,
    ⟨some 6, .mv (.t 46), none⟩,
    ⟨some 7, .mv (.k (.int .i64 0)), none⟩])
  (.ret)))))))
theorem b64 : Body Try.prog 64 c64 [.tmp 6, .tmp 7] 47 := ⟨by kernel_rfl, _, _, Try.func64, rfl, by kernel_rfl, by kernel_rfl, rfl⟩
def c65 : ACode :=
  .seq (.reg [⟨some 6, .mv (.k (.int .i64 0)), none⟩,
    ⟨some 7, .mv (.k (.int .i64 0)), none⟩])
  (.seq (.seq (.reg [⟨some 9, .mv (.t 0), none⟩,
    ⟨some 10, .mv (.t 1), none⟩,
    ⟨some 11, .call (.k (.fn 47 [] [])) [(.t 9), (.t 10)], none⟩,
    ⟨some 8, .mv (.t 11), none⟩])
  (.seq (.reg [⟨some 12, .mv (.t 8), none⟩,
    ⟨some 13, .bin .neq (.t 12) (.k (.int .i64 0)), none⟩])
  (.cond (.t 13) (.seq (.reg [⟨some 14, .mv (.t 8), none⟩,
      ⟨some 6, .mv (.k (.int .i64 0)), none⟩,
      ⟨some 7, .mv (.t 14), none⟩])
    (.ret))
    (.skip))))
  (.seq (.reg [⟨some 15, .mv (.t 0), none⟩,
    ⟨some 16, .nchk (.t 15), none⟩,
    ⟨some 17, .faddr 1 (.t 16), none⟩,
    ⟨some 18, .load false 1 (.t 17), none⟩,
    ⟨some 19, .mv (.t 1), none⟩,
    ⟨some 20, .iaddrS 3 (.t 18) (.t 19), none⟩,
    ⟨some 21, .faddr 1 (.t 20), none⟩,
    ⟨some 22, .load false 1 (.t 21), none⟩,
    ⟨some 6, .mv (.t 22), none⟩])
  (.seq (.seq (.reg [⟨some 23, .mv (.t 2), none⟩])
  (.cond (.t 23) (.reg [⟨some 24, .mv (.t 0), none⟩,
      ⟨some 25, .nchk (.t 24), none⟩,
      ⟨some 26, .faddr 1 (.t 25), none⟩,
      ⟨some 27, .load false 1 (.t 26), none⟩,
      ⟨some 28, .mv (.t 1), none⟩,
      ⟨some 29, .iaddrS 3 (.t 27) (.t 28), none⟩,
      ⟨some 30, .faddr 0 (.t 29), none⟩,
      ⟨some 31, .load false 1 (.t 30), none⟩,
      ⟨some 6, .mv (.t 31), none⟩])
    (.skip)))
  (.seq (.seq (.reg [⟨some 32, .mv (.t 6), none⟩,
    ⟨some 33, .bin .eql (.t 32) (.k (.int .i64 (-1))), none⟩])
  (.cond (.t 33) (.seq (.reg [⟨some 6, .mv (.k (.int .i64 0)), none⟩,
      ⟨some 7, .mv (.k (.int .i64 4)), none⟩])
    (.ret))
    (.skip)))
  (.seq (.reg [⟨some 34, .mv (.t 6), none⟩,
    ⟨some 6, .mv (.t 34), none⟩,
    ⟨some 7, .mv (.k (.int .i64 0)), none⟩])
  (.ret))))))
theorem b65 : Body Try.prog 65 c65 [.tmp 6, .tmp 7] 35 := ⟨by kernel_rfl, _, _, Try.func65, rfl, by kernel_rfl, by kernel_rfl, rfl⟩
def c66 : ACode :=
  .seq (.reg [⟨some 6, .mv (.k (.int .i64 0)), none⟩,
    ⟨some 7, .mv (.k (.int .i64 0)), none⟩])
  (.seq (.seq (.reg [⟨some 9, .mv (.t 1), none⟩,
    ⟨some 10, .bin .lss (.t 9) (.k (.int .i64 0)), none⟩,
    ⟨some 11, .mv (.t 10), none⟩,
    ⟨some 12, .mv (.t 1), some (11, false)⟩,
    ⟨some 13, .mv (.t 0), some (11, false)⟩,
    ⟨some 14, .nchk (.t 13), some (11, false)⟩,
    ⟨some 15, .faddr 1 (.t 14), some (11, false)⟩,
    ⟨some 16, .load false 1 (.t 15), some (11, false)⟩,
    ⟨some 17, .len (.t 16), some (11, false)⟩,
    ⟨some 18, .bin .geq (.t 12) (.t 17), some (11, false)⟩,
    ⟨some 19, .pick (.t 11) (.k (.bool true)) (.t 18), none⟩])
  (.cond (.t 19) (.seq (.reg [⟨some 6, .mv (.k (.int .i64 0)), none⟩,
      ⟨some 7, .mv (.k (.int .i64 7)), none⟩])
    (.ret))
    (.skip)))
  (.seq (.reg [⟨some 20, .mv (.t 0), none⟩,
    ⟨some 21, .nchk (.t 20), none⟩,
    ⟨some 22, .faddr 1 (.t 21), none⟩,
    ⟨some 23, .load false 1 (.t 22), none⟩,
    ⟨some 24, .mv (.t 1), none⟩,
    ⟨some 25, .iaddrS 1 (.t 23) (.t 24), none⟩,
    ⟨some 26, .load false 1 (.t 25), none⟩,
    ⟨some 27, .len (.t 26), none⟩,
    ⟨some 8, .mv (.t 27), none⟩])
  (.seq (.seq (.reg [⟨some 28, .mv (.t 8), none⟩,
    ⟨some 29, .bin .eql (.t 28) (.k (.int .i64 0)), none⟩])
  (.cond (.t 29) (.seq (.reg [⟨some 6, .mv (.k (.int .i64 0)), none⟩,
      ⟨some 7, .mv (.k (.int .i64 4)), none⟩])
    (.ret))
    (.skip)))
  (.seq (.seq (.reg [⟨some 30, .mv (.t 2), none⟩])
  (.cond (.t 30) (.seq (.reg [⟨some 31, .mv (.t 0), none⟩,
      ⟨some 32, .nchk (.t 31), none⟩,
      ⟨some 33, .faddr 1 (.t 32), none⟩,
      ⟨some 34, .load false 1 (.t 33), none⟩,
      ⟨some 35, .mv (.t 1), none⟩,
      ⟨some 36, .iaddrS 1 (.t 34) (.t 35), none⟩,
      ⟨some 37, .load false 1 (.t 36), none⟩,
      ⟨some 38, .iaddrS 1 (.t 37) (.k (.int .i64 0)), none⟩,
      ⟨some 39, .load false 1 (.t 38), none⟩,
      ⟨some 6, .mv (.t 39), none⟩,
      ⟨some 7, .mv (.k (.int .i64 0)), none⟩])
    (.ret))
    (.skip)))
  (.seq (.reg [⟨some 40, .mv (.t 0), none⟩,
    ⟨some 41, .nchk (.t 40), none⟩,
    ⟨some 42, .faddr 1 (.t 41), none⟩,
    ⟨some 43, .load false 1 (.t 42), none⟩,
    ⟨some 44, .mv (.t 1), none⟩,
    ⟨some 45, .iaddrS 1 (.t 43) (.t 44), none⟩,
    ⟨some 46, .load false 1 (.t 45), none⟩,
    ⟨some 47, .mv (.t 8), none⟩,
    ⟨some 48, .bin .sub (.t 47) (.k (.int .i64 1)), none⟩,
    ⟨some 49, .iaddrS 1 (.t 46) (.t 48), none⟩,
    ⟨some 50, .load false 1 (.t 49), none⟩,
    ⟨some 6, .mv (.t 50), none⟩,
    ⟨some 7, .mv (.k (.int .i64 0)), none⟩])
  (.ret))))))
theorem b66 : Body Try.prog 66 c66 [.tmp 6, .tmp 7] 51 := ⟨by kernel_rfl, _, _, Try.func66, rfl, by kernel_rfl, by kernel_rfl, rfl⟩
def c67 : ACode :=
  .seq (.reg [⟨some 4, .mv (.k (.int .i64 0)), none⟩,
    ⟨some 5, .mv (.k (.int .i64 0)), none⟩])
  (.seq (.seq (.reg [⟨some 7, .mv (.t 0), none⟩,
    ⟨some 8, .mv (.t 1), none⟩,
    ⟨some 9, .call (.k (.fn 47 [] [])) [(.t 7), (.t 8)], none⟩,
    ⟨some 6, .mv (.t 9), none⟩])
  (.seq (.reg [⟨some 10, .mv (.t 6), none⟩,
    ⟨some 11, .bin .neq (.t 10) (.k (.int .i64 0)), none⟩])
  (.cond (.t 11) (.seq (.reg [⟨some 12, .mv (.t 6), none⟩,
      ⟨some 4, .mv (.k (.int .i64 0)), none⟩,
      ⟨some 5, .mv (.t 12), none⟩])
    (.ret))
    (.skip))))
  (.seq (.reg [⟨some 13, .mv (.t 0), none⟩,
    ⟨some 14, .nchk (.t 13), none⟩,
    ⟨some 15, .faddr 1 (.t 14), none⟩,
    ⟨some 16, .load false 1 (.t 15), none⟩,
    ⟨some 17, .mv (.t 1), none⟩,
    ⟨some 18, .iaddrS 3 (.t 16) (.t 17), none⟩,
    ⟨some 19, .faddr 2 (.t 18), none⟩,
    ⟨some 20, .load false 1 (.t 19), none⟩,
    ⟨some 4, .mv (.t 20), none⟩,
    ⟨some 5, .mv (.k (.int .i64 0)), none⟩])
  (.ret)))
theorem b67 : Body Try.prog 67 c67 [.tmp 4, .tmp 5] 21 := ⟨by kernel_rfl, _, _, Try.func67, rfl, by kernel_rfl, by kernel_rfl, rfl⟩
def c68 : ACode :=
  .seq (.reg [⟨some 4, .mv (.k (.int .i64 0)), none⟩,
    ⟨some 5, .mv (.k (.int .i64 0)), none⟩])
  (.seq (.seq (.reg [⟨some 6, .mv (.t 1), none⟩,
    ⟨some 7, .bin .lss (.t 6) (.k (.int .i64 0)), none⟩,
    ⟨some 8, .mv (.t 7), none⟩,
    ⟨some 9, .mv (.t 1), some (8, false)⟩,
    ⟨some 10, .mv (.t 0), some (8, false)⟩,
    ⟨some 11, .nchk (.t 10), some (8, false)⟩,
    ⟨some 12, .faddr 1 (.t 11), some (8, false)⟩,
    ⟨some 13, .load false 1 (.t 12), some (8, false)⟩,
    ⟨some 14, .len (.t 13), some (8, false)⟩,
    ⟨some 15, .bin .geq (.t 9) (.t 14), some (8, false)⟩,
    ⟨some 16, .pick (.t 8) (.k (.bool true)) (.t 15), none⟩])
  (.cond (.t 16) (.seq (.reg [⟨some 4, .mv (.k (.int .i64 0)), none⟩,
      ⟨some 5, .mv (.k (.int .i64 7)), none⟩])
    (.ret))
    (.skip)))
  (.seq (.reg [⟨some 17, .mv (.t 0), none⟩,
    ⟨some 18, .nchk (.t 17), none⟩,
    ⟨some 19, .faddr 1 (.t 18), none⟩,
    ⟨some 20, .load false 1 (.t 19), none⟩,
    ⟨some 21, .mv (.t 1), none⟩,
    ⟨some 22, .iaddrS 1 (.t 20) (.t 21), none⟩,
    ⟨some 23, .load false 1 (.t 22), none⟩,
    ⟨some 24, .len (.t 23), none⟩,
    ⟨some 4, .mv (.t 24), none⟩,
    ⟨some 5, .mv (.k (.int .i64 0)), none⟩])
  (.ret)))
theorem b68 : Body Try.prog 68 c68 [.tmp 4, .tmp 5] 25 := ⟨by kernel_rfl, _, _, Try.func68, rfl, by kernel_rfl, by kernel_rfl, rfl⟩
def c69 : ACode :=
  .seq (.reg [⟨some 8, .mv (.k (.int .i64 0)), none⟩,
    ⟨some 9, .mv (.k (.int .i64 0)), none⟩])
  (.seq (.seq (.reg [⟨some 11, .mv (.t 1), none⟩,
    ⟨some 12, .bin .lss (.t 11) (.k (.int .i64 0)), none⟩,
    ⟨some 13, .mv (.t 12), none⟩,
    ⟨some 14, .mv (.t 1), some (13, false)⟩,
    ⟨some 15, .mv (.t 0), some (13, false)⟩,
    ⟨some 16, .nchk (.t 15), some (13, false)⟩,
    ⟨some 17, .faddr 1 (.t 16), some (13, false)⟩,
    ⟨some 18, .load false 1 (.t 17), some (13, false)⟩,
    ⟨some 19, .len (.t 18), some (13, false)⟩,
    ⟨some 20, .bin .geq (.t 14) (.t 19), some (13, false)⟩,
    ⟨some 21, .pick (.t 13) (.k (.bool true)) (.t 20), none⟩])
  (.cond (.t 21) (.seq (.reg [⟨some 8, .mv (.k (.int .i64 0)), none⟩,
      ⟨some 9, .mv (.k (.int .i64 7)), none⟩])
    (.ret))
    (.skip)))
  (.seq (.reg [⟨some 22, .mv (.t 0), none⟩,
    ⟨some 23, .call (.k (.fn 72 [] [])) [(.t 22)], none⟩,
    ⟨some 10, .mv (.t 23), none⟩])
  (.seq (.seq (.reg [⟨some 24, .mv (.t 10), none⟩,
    ⟨some 25, .bin .lss (.t 24) (.k (.int .i64 0)), none⟩])
  (.cond (.t 25) (.seq (.reg [⟨some 8, .mv (.k (.int .i64 0)), none⟩,
      ⟨some 9, .mv (.k (.int .i64 5)), none⟩])
    (.ret))
    (.skip)))
  (.seq (.reg [⟨some 26, .mv (.t 0), none⟩,
    ⟨some 27, .mv (.t 1), none⟩,
    ⟨some 28, .mv (.t 0), none⟩,
    ⟨some 29, .mv (.t 1), none⟩,
    ⟨some 30, .mv (.t 3), none⟩,
    ⟨some 31, .call (.k (.fn 75 [] [])) [(.t 28), (.t 29), (.t 30)], none⟩,
    ⟨some 32, .mv (.t 10), none⟩,
    ⟨some 33, .call (.k (.fn 73 [] [])) [(.t 26), (.t 27), (.t 31), (.t 32)], none⟩])
  (.seq (.reg [⟨some 34, .mv (.t 0), none⟩,
    ⟨some 35, .nchk (.t 34), none⟩,
    ⟨some 36, .faddr 2 (.t 35), none⟩,
    ⟨some 37, .load false 1 (.t 36), none⟩,
    ⟨some 38, .mv (.t 10), none⟩,
    ⟨some 39, .mv (.t 2), none⟩,
    ⟨some 40, .iaddrS 1 (.t 37) (.t 38), none⟩,
    ⟨none, .store 1 (.t 40) (.t 39), none⟩])
  (.seq (.reg [⟨some 41, .mv (.t 10), none⟩,
    ⟨some 8, .mv (.t 41), none⟩,
    ⟨some 9, .mv (.k (.int .i64 0)), none⟩])
  (.ret)))))))
theorem b69 : Body Try.prog 69 c69 [.tmp 8, .tmp 9] 42 := ⟨by kernel_rfl, _, _, Try.func69, rfl, by kernel_rfl, by kernel_rfl, rfl⟩
def c70 : ACode :=
  .seq (.regD [⟨some 12, .mv (.t 0), none⟩,
    ⟨some 13, .nchk (.t 12), none⟩,
    ⟨some 14, .faddr 0 (.t 13), none⟩,
    ⟨some 15, .load false 1 (.t 14), none⟩,
    ⟨some 16, .mv (.t 1), none⟩,
    ⟨some 17, .iaddrS 4 (.t 15) (.t 16), none⟩,
    ⟨some 18, .mv (.t 0), none⟩,
    ⟨some 19, .nchk (.t 18), none⟩,
    ⟨some 20, .faddr 1 (.t 19), none⟩,
    ⟨some 21, .load false 1 (.t 20), none⟩,
    ⟨some 22, .mv (.t 2), none⟩,
    ⟨some 23, .iaddrS 3 (.t 21) (.t 22), none⟩,
    ⟨some 10, .mv (.t 17), none⟩,
    ⟨some 11, .mv (.t 23), none⟩] [[], [0], [1], [2], [], [3, 4], [], [6], [7], [8], [], [9, 10], [5, 0, 1, 2, 3, 4, 5], [11, 12, 0, 1, 2, 3, 4, 5, 6, 7, 8, 9, 10, 11, 12]])
  (.seq (.reg [⟨some 24, .mv (.t 10), none⟩,
    ⟨some 25, .mv (.t 10), none⟩,
    ⟨some 26, .mv (.t 10), none⟩,
    ⟨some 27, .mv (.t 2), none⟩,
    ⟨some 28, .mv (.t 3), none⟩,
    ⟨some 29, .mv (.t 4), none⟩,
    ⟨some 30, .nchk (.t 24), none⟩,
    ⟨some 31, .faddr 1 (.t 30), none⟩,
    ⟨none, .store 1 (.t 31) (.t 27), none⟩,
    ⟨some 32, .nchk (.t 25), none⟩,
    ⟨some 33, .faddr 3 (.t 32), none⟩,
    ⟨none, .store 1 (.t 33) (.t 28), none⟩,
    ⟨some 34, .nchk (.t 26), none⟩,
    ⟨some 35, .faddr 2 (.t 34), none⟩,
    ⟨none, .store 1 (.t 35) (.t 29), none⟩])
  (.seq (.seq (.reg [⟨some 36, .mv (.t 3), none⟩,
    ⟨some 37, .bin .eql (.t 36) (.k (.int .i64 (-1))), none⟩])
  (.cond (.t 37) (.reg [⟨some 38, .mv (.t 11), none⟩,
      ⟨some 39, .mv (.t 1), none⟩,
      ⟨some 40, .nchk (.t 38), none⟩,
      ⟨some 41, .faddr 0 (.t 40), none⟩,
      ⟨none, .store 1 (.t 41) (.t 39), none⟩])
    (.reg [⟨some 42, .mv (.t 0), none⟩,
      ⟨some 43, .nchk (.t 42), none⟩,
      ⟨some 44, .faddr 0 (.t 43), none⟩,
      ⟨some 45, .load false 1 (.t 44), none⟩,
      ⟨some 46, .mv (.t 3), none⟩,
      ⟨some 47, .mv (.t 1), none⟩,
      ⟨some 48, .iaddrS 4 (.t 45) (.t 46), none⟩,
      ⟨some 49, .faddr 2 (.t 48), none⟩,
      ⟨none, .store 1 (.t 49) (.t 47), none⟩])))
  (.seq (.seq (.reg [⟨some 50, .mv (.t 4), none⟩,
    ⟨some 51, .bin .eql (.t 50) (.k (.int .i64 (-1))), none⟩])
  (.cond (.t 51) (.reg [⟨some 52, .mv (.t 11), none⟩,
      ⟨some 53, .mv (.t 1), none⟩,
      ⟨some 54, .nchk (.t 52), none⟩,
      ⟨some 55, .faddr 1 (.t 54), none⟩,
      ⟨none, .store 1 (.t 55) (.t 53), none⟩])
    (.reg [⟨some 56, .mv (.t 0), none⟩,
      ⟨some 57, .nchk (.t 56), none⟩,
      ⟨some 58, .faddr 0 (.t 57), none⟩,
      ⟨some 59, .load false 1 (.t 58), none⟩,
      ⟨some 60, .mv (.t 4), none⟩,
      ⟨some 61, .mv (.t 1), none⟩,
      ⟨some 62, .iaddrS 4 (.t 59) (.t 60), none⟩,
      ⟨some 63, .faddr 3 (.t 62), none⟩,
      ⟨none, .store 1 (.t 63) (.t 61), none⟩])))
  (.reg [⟨some 64, .mv (.t 11), none⟩,
    ⟨some 65, .nchk (.t 64), none⟩,
    ⟨some 66, .faddr 2 (.t 65), none⟩,
    ⟨some 67, .load false 1 (.t 66), none⟩,
    ⟨some 68, .bin .add (.t 67) (.k (.int .i64 1)), none⟩,
    ⟨some 69, .nchk (.t 64), none⟩,
    ⟨some 70, .faddr 2 (.t 69), none⟩,
    ⟨none, .store 1 (.t 70) (.t 68), none⟩]))))
theorem b70 : Body Try.prog 70 c70 [] 71 := ⟨by kernel_rfl, _, _, Try.func70, rfl, by kernel_rfl, by kernel_rfl, rfl⟩
def c71 : ACode :=
  .seq (.reg [⟨some 4, .mv (.k (.int .i64 0)), none⟩,
    ⟨some 5, .mv (.k (.int .i64 0)), none⟩])
  (.seq (.seq (.reg [⟨some 6, .mv (.k (.int .i64 0)), none⟩])
  (.block 0 (.loop (.seq (.seq (.reg [⟨some 8, .mv (.t 6), none⟩,
      ⟨some 9, .mv (.t 0), none⟩,
      ⟨some 10, .nchk (.t 9), none⟩,
      ⟨some 11, .faddr 1 (.t 10), none⟩,
      ⟨some 12, .load false 1 (.t 11), none⟩,
      ⟨some 13, .len (.t 12), none⟩,
      ⟨some 14, .bin .lss (.t 8) (.t 13), none⟩])
    (.cond (.t 14) (.skip)
      (.exit 0)))
    (.seq (.block 1 (.seq (.reg [⟨some 7, .mv (.k (.int .i64 0)), none⟩])
     (.block 2 (.loop (.seq (.seq (.reg [⟨some 17, .mv (.t 7), none⟩,
         ⟨some 18, .mv (.t 0), none⟩,
         ⟨some 19, .nchk (.t 18), none⟩,
         ⟨some 20, .faddr 1 (.t 19), none⟩,
         ⟨some 21, .load false 1 (.t 20), none⟩,
         ⟨some 22, .mv (.t 6), none⟩,
         ⟨some 23, .iaddrS 1 (.t 21) (.t 22), none⟩,
         ⟨some 24, .load false 1 (.t 23), none⟩,
         ⟨some 25, .len (.t 24), none⟩,
         ⟨some 26, .bin .lss (.t 17) (.t 25), none⟩])
       (.cond (.t 26) (.skip)
         (.exit 2)))
       (.seq (.block 3 (.seq (.reg [⟨some 29, .mv (.t 0), none⟩,
          ⟨some 30, .nchk (.t 29), none⟩,
          ⟨some 31, .faddr 1 (.t 30), none⟩,
          ⟨some 32, .load false 1 (.t 31), none⟩,
          ⟨some 33, .mv (.t 6), none⟩,
          ⟨some 34, .iaddrS 1 (.t 32) (.t 33), none⟩,
          ⟨some 35, .load false 1 (.t 34), none⟩,
          ⟨some 36, .mv (.t 7), none⟩,
          ⟨some 37, .iaddrS 1 (.t 35) (.t 36), none⟩,
          ⟨some 38, .load false 1 (.t 37), none⟩,
          ⟨some 39, .mv (.t 1), none⟩,
          ⟨some 40, .bin .eql (.t 38) (.t 39), none⟩])
        (.cond (.t 40) (.seq (.reg [⟨some 41, .mv (.t 6), none⟩,
            ⟨some 42, .mv (.t 7), none⟩,
            ⟨some 4, .mv (.t 41), none⟩,
            ⟨some 5, .mv (.t 42), none⟩])
          (.ret))
          (.skip))))
       (.reg [⟨some 27, .mv (.t 7), none⟩,
         ⟨some 28, .bin .add (.t 27) (.k (.int .i64 1)), none⟩,
         ⟨some 7, .mv (.t 28), none⟩])))))))
    (.reg [⟨some 15, .mv (.t 6), none⟩,
      ⟨some 16, .bin .add (.t 15) (.k (.int .i64 1)), none⟩,
      ⟨some 6, .mv (.t 16), none⟩]))))))
  (.seq (.reg [⟨some 4, .mv (.k (.int .i64 (-1))), none⟩,
    ⟨some 5, .mv (.k (.int .i64 (-1))), none⟩])
  (.ret)))
theorem b71 : Body Try.prog 71 c71 [.tmp 4, .tmp 5] 43 := ⟨by kernel_rfl, _, _, Try.func71, rfl, by kernel_rfl, by kernel_rfl, rfl⟩
def c72 : ACode :=
  .seq (.reg [⟨some 2, .mv (.k (.int .i64 0)), none⟩])
  (.seq (.seq (.reg [⟨some 3, .mv (.k (.int .i64 0)), none⟩])
  (.block 0 (.loop (.seq (.seq (.reg [⟨some 6, .mv (.t 3), none⟩,
      ⟨some 7, .mv (.t 0), none⟩,
      ⟨some 8, .nchk (.t 7), none⟩,
      ⟨some 9, .faddr 0 (.t 8), none⟩,
      ⟨some 10, .load false 1 (.t 9), none⟩,
      ⟨some 11, .bin .lss (.t 6) (.t 10), none⟩])
    (.cond (.t 11) (.skip)
      (.exit 0)))
    (.seq (.block 1 (.seq (.reg [⟨some 15, .mv (.t 0), none⟩,
       ⟨some 16, .mv (.t 3), none⟩,
       ⟨some 17, .call (.k (.fn 71 [] [])) [(.t 15), (.t 16)], none⟩,
       ⟨some 14, .mv (.t 17), none⟩,
       ⟨some 18, .ext (.t 14) 0, none⟩,
       ⟨some 19, .ext (.t 14) 1, none⟩,
       ⟨some 4, .mv (.t 18), none⟩,
       ⟨some 5, .mv (.t 19), none⟩])
     (.seq (.reg [⟨some 20, .mv (.t 4), none⟩,
       ⟨some 21, .bin .lss (.t 20) (.k (.int .i64 0)), none⟩])
     (.cond (.t 21) (.seq (.reg [⟨some 22, .mv (.t 3), none⟩,
         ⟨some 2, .mv (.t 22), none⟩])
       (.ret))
       (.skip)))))
    (.reg [⟨some 12, .mv (.t 3), none⟩,
      ⟨some 13, .bin .add (.t 12) (.k (.int .i64 1)), none⟩,
      ⟨some 3, .mv (.t 13), none⟩]))))))
  (.seq (.reg [⟨some 2, .mv (.k (.int .i64 (-1))), none⟩])
  (.ret)))
theorem b72 : Body Try.prog 72 c72 [.tmp 2] 23 := ⟨by kernel_rfl, _, _, Try.func72, rfl, by kernel_rfl, by kernel_rfl, rfl⟩
def c73 : ACode :=
  .seq (.reg [⟨some 9, .mv (.t 0), none⟩,
    ⟨some 10, .nchk (.t 9), none⟩,
    ⟨some 11, .faddr 1 (.t 10), none⟩,
    ⟨some 12, .load false 1 (.t 11), none⟩,
    ⟨some 13, .mv (.t 1), none⟩,
    ⟨some 14, .iaddrS 1 (.t 12) (.t 13), none⟩,
    ⟨some 15, .load false 1 (.t 14), none⟩,
    ⟨some 8, .mv (.t 15), none⟩])
  (.regD [⟨some 16, .mv (.t 0), none⟩,
    ⟨some 17, .nchk (.t 16), none⟩,
    ⟨some 18, .faddr 1 (.t 17), none⟩,
    ⟨some 19, .load false 1 (.t 18), none⟩,
    ⟨some 20, .mv (.t 1), none⟩,
    ⟨some 21, .bslice 1 0 [] [], none⟩,
    ⟨some 22, .mv (.t 8), none⟩,
    ⟨some 23, .mv (.t 2), none⟩,
    ⟨some 24, .slS 1 (.t 22) none (some (.t 23)) none, none⟩,
    ⟨some 25, .append 1 8 (.t 21) (.t 24), none⟩,
    ⟨some 26, .mv (.t 3), none⟩,
    ⟨some 27, .bslice 1 1 [(.int .i64 0)] [(0, 1, (.t 26))], none⟩,
    ⟨some 28, .append 1 8 (.t 25) (.t 27), none⟩,
    ⟨some 29, .mv (.t 8), none⟩,
    ⟨some 30, .mv (.t 2), none⟩,
    ⟨some 31, .slS 1 (.t 29) (some (.t 30)) none none, none⟩,
    ⟨some 32, .append 1 8 (.t 28) (.t 31), none⟩,
    ⟨some 33, .iaddrS 1 (.t 19) (.t 20), none⟩,
    ⟨none, .store 1 (.t 33) (.t 32), none⟩] [[], [0], [1], [2], [], [], [], [], [6, 7], [5, 8], [], [10], [9, 11, 9], [], [], [13, 14], [12, 15, 12], [3, 4, 0, 1, 2, 3, 4, 5, 6, 7, 8, 9, 10, 11, 12, 13, 14, 15, 16], [17, 16, 16, 0, 1, 2, 3, 4, 5, 6, 7, 8, 9, 10, 11, 12, 13, 14, 15, 16]])
theorem b73 : Body Try.prog 73 c73 [] 34 := ⟨by kernel_rfl, _, _, Try.func73, rfl, by kernel_rfl, by kernel_rfl, rfl⟩
def c74 : ACode :=
  .seq (.reg [⟨some 7, .mv (.t 0), none⟩,
    ⟨some 8, .nchk (.t 7), none⟩,
    ⟨some 9, .faddr 1 (.t 8), none⟩,
    ⟨some 10, .load false 1 (.t 9), none⟩,
    ⟨some 11, .mv (.t 1), none⟩,
    ⟨some 12, .iaddrS 1 (.t 10) (.t 11), none⟩,
    ⟨some 13, .load false 1 (.t 12), none⟩,
    ⟨some 6, .mv (.t 13), none⟩])
  (.regD [⟨some 14, .mv (.t 0), none⟩,
    ⟨some 15, .nchk (.t 14), none⟩,
    ⟨some 16, .faddr 1 (.t 15), none⟩,
    ⟨some 17, .load false 1 (.t 16), none⟩,
    ⟨some 18, .mv (.t 1), none⟩,
    ⟨some 19, .bslice 1 0 [] [], none⟩,
    ⟨some 20, .mv (.t 6), none⟩,
    ⟨some 21, .mv (.t 2), none⟩,
    ⟨some 22, .slS 1 (.t 20) none (some (.t 21)) none, none⟩,
    ⟨some 23, .append 1 8 (.t 19) (.t 22), none⟩,
    ⟨some 24, .mv (.t 6), none⟩,
    ⟨some 25, .mv (.t 2), none⟩,
    ⟨some 26, .bin .add (.t 25) (.k (.int .i64 1)), none⟩,
    ⟨some 27, .slS 1 (.t 24) (some (.t 26)) none none, none⟩,
    ⟨some 28, .append 1 8 (.t 23) (.t 27), none⟩,
    ⟨some 29, .iaddrS 1 (.t 17) (.t 18), none⟩,
    ⟨none, .store 1 (.t 29) (.t 28), none⟩] [[], [0], [1], [2], [], [], [], [], [6, 7], [5, 8], [], [], [11], [10, 12], [9, 13, 9], [3, 4, 0, 1, 2, 3, 4, 5, 6, 7, 8, 9, 10, 11, 12, 13, 14], [15, 14, 14, 0, 1, 2, 3, 4, 5, 6, 7, 8, 9, 10, 11, 12, 13, 14]])
theorem b74 : Body Try.prog 74 c74 [] 30 := ⟨by kernel_rfl, _, _, Try.func74, rfl, by kernel_rfl, by kernel_rfl, rfl⟩
def c75 : ACode :=
  .seq (.reg [⟨some 6, .mv (.k (.int .i64 0)), none⟩])
  (.seq (.seq (.reg [⟨some 7, .mv (.t 2), none⟩])
  (.cond (.t 7) (.seq (.reg [⟨some 6, .mv (.k (.int .i64 0)), none⟩])
    (.ret))
    (.skip)))
  (.seq (.reg [⟨some 8, .mv (.t 0), none⟩,
    ⟨some 9, .nchk (.t 8), none⟩,
    ⟨some 10, .faddr 1 (.t 9), none⟩,
    ⟨some 11, .load false 1 (.t 10), none⟩,
    ⟨some 12, .mv (.t 1), none⟩,
    ⟨some 13, .iaddrS 1 (.t 11) (.t 12), none⟩,
    ⟨some 14, .load false 1 (.t 13), none⟩,
    ⟨some 15, .len (.t 14), none⟩,
    ⟨some 6, .mv (.t 15), none⟩])
  (.ret)))
theorem b75 : Body Try.prog 75 c75 [.tmp 6] 16 := ⟨by kernel_rfl, _, _, Try.func75, rfl, by kernel_rfl, by kernel_rfl, rfl⟩
def c76 : ACode :=
  .seq (.reg [⟨some 6, .mv (.k (.int .i64 0)), none⟩])
  (.seq (.seq (.reg [⟨some 7, .mv (.t 2), none⟩])
  (.cond (.t 7) (.seq (.reg [⟨some 8, .mv (.t 0), none⟩,
      ⟨some 9, .nchk (.t 8), none⟩,
      ⟨some 10, .faddr 0 (.t 9), none⟩,
      ⟨some 11, .load false 1 (.t 10), none⟩,
      ⟨some 12, .mv (.t 1), none⟩,
      ⟨some 13, .iaddrS 4 (.t 11) (.t 12), none⟩,
      ⟨some 14, .faddr 3 (.t 13), none⟩,
      ⟨some 15, .load false 1 (.t 14), none⟩,
      ⟨some 6, .mv (.t 15), none⟩])
    (.ret))
    (.skip)))
  (.seq (.reg [⟨some 16, .mv (.t 0), none⟩,
    ⟨some 17, .nchk (.t 16), none⟩,
    ⟨some 18, .faddr 0 (.t 17), none⟩,
    ⟨some 19, .load false 1 (.t 18), none⟩,
    ⟨some 20, .mv (.t 1), none⟩,
    ⟨some 21, .iaddrS 4 (.t 19) (.t 20), none⟩,
    ⟨some 22, .faddr 2 (.t 21), none⟩,
    ⟨some 23, .load false 1 (.t 22), none⟩,
    ⟨some 6, .mv (.t 23), none⟩])
  (.ret)))
theorem b76 : Body Try.prog 76 c76 [.tmp 6] 24 := ⟨by kernel_rfl, _, _, Try.func76, rfl, by kernel_rfl, by kernel_rfl, rfl⟩
end Go.Proofs.Ytkjimnhmiojcdaa
