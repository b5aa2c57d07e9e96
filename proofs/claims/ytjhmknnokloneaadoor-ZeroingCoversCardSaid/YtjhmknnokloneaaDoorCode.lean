/-
  Abstract code of functions, printed by a program, and that it is theirs.
-/
import Derived.Test.YtjhmknnokloneaaDoorProg
import Derived.Test.YtjhmknnokloneaaDoorCodeA
set_option linter.unusedSimpArgs false
set_option linter.unusedVariables false
namespace Go.Proofs.YtjhmknnokloneaaDoor
open Go.Am
def tabL : List (Nat × ACode × List ARes × Nat) := [(7, c7, [.tmp 2], 144),
  (10, c10, [.tmp 0], 84),
  (11, c11, [.cell 6 true 1, .tmp 7], 38),
  (13, c13, [.cell 6 true 1, .tmp 7], 38),
  (15, c15, [.tmp 4], 65),
  (18, c18, [.tmp 6, .tmp 7], 55),
  (23, c23, [.tmp 4], 26),
  (24, c24, [.cell 4 true 1, .tmp 5], 33),
  (26, c26, [.tmp 2], 85),
  (27, c27, [.tmp 2], 123),
  (28, c28, [.tmp 8], 94),
  (29, c29, [.tmp 2], 21),
  (30, c30, [.tmp 4], 69),
  (33, c33, [.cell 4 true 2], 8),
  (34, c34, [.cell 2 true 1], 5),
  (35, c35, [.tmp 6], 29),
  (36, c36, [.tmp 2], 41),
  (37, c37, [.tmp 4], 6),
  (38, c38, [.cell 2 true 1], 26),
  (40, c40, [.tmp 2], 34),
  (42, c42, [.tmp 2], 29),
  (44, c44, [.tmp 4], 9),
  (45, c45, [.tmp 2], 24),
  (46, c46, [.tmp 4], 12),
  (47, c47, [.tmp 4], 26),
  (48, c48, [.tmp 2], 24),
  (49, c49, [], 28),
  (50, c50, [.tmp 2], 66),
  (52, c52, [.tmp 2], 14),
  (53, c53, [.tmp 4], 21),
  (54, c54, [.tmp 4], 9),
  (55, c55, [.tmp 2], 24),
  (56, c56, [.tmp 2], 8),
  (58, c58, [.tmp 4], 19),
  (59, c59, [.tmp 6], 33),
  (60, c60, [.tmp 4], 19),
  (61, c61, [.tmp 4], 23)]
def tab : Tab := fun f => findT f tabL
theorem tab_ok : tabOk Tryd.prog tab := tabOk_of (L := tabL) ⟨b7, b10, b11, b13, b15, b18, b23, b24, b26, b27, b28, b29, b30, b33, b34, b35, b36, b37, b38, b40, b42, b44, b45, b46, b47, b48, b49, b50, b52, b53, b54, b55, b56, b58, b59, b60, b61, trivial⟩
end Go.Proofs.YtjhmknnokloneaaDoor
