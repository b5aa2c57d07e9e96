/-
  Abstract code of functions, printed by a program, and that it is theirs.
-/
import Derived.Test.YtggkpagngnnjjaaProg
import Derived.Test.YtggkpagngnnjjaaCodeA
set_option linter.unusedSimpArgs false
set_option linter.unusedVariables false
namespace Go.Proofs.Ytggkpagngnnjjaa
open Go.Am
def tabL : List (Nat × ACode × List ARes × Nat) := [(7, c7, [.tmp 6], 208),
  (10, c10, [.tmp 2], 76),
  (11, c11, [.tmp 0], 63),
  (12, c12, [.tmp 2, .tmp 3], 39),
  (13, c13, [.tmp 2], 4),
  (14, c14, [.tmp 4, .tmp 5], 41),
  (16, c16, [.tmp 4], 52),
  (17, c17, [.cell 2 true 4], 32),
  (18, c18, [.tmp 2], 66),
  (19, c19, [.tmp 2], 54),
  (21, c21, [.tmp 4, .tmp 5], 20),
  (24, c24, [.tmp 4], 26),
  (25, c25, [.tmp 6, .tmp 7], 31),
  (26, c26, [.tmp 4, .tmp 5], 24),
  (27, c27, [.tmp 6], 30),
  (28, c28, [.cell 0 true 4], 7),
  (33, c33, [.tmp 4], 19),
  (34, c34, [.tmp 2], 21),
  (35, c35, [.tmp 4], 24),
  (36, c36, [], 76),
  (37, c37, [], 19),
  (38, c38, [.tmp 2], 12),
  (39, c39, [.tmp 6], 8),
  (40, c40, [.tmp 4, .tmp 5], 33),
  (41, c41, [.cell 4 true 2, .tmp 5], 43),
  (42, c42, [.tmp 4], 19),
  (43, c43, [.tmp 2], 21),
  (44, c44, [.tmp 4], 17),
  (45, c45, [.tmp 4], 31),
  (46, c46, [.tmp 6], 24),
  (47, c47, [.tmp 7], 14),
  (48, c48, [.tmp 4, .tmp 5], 23),
  (55, c55, [.tmp 6, .tmp 7], 35),
  (56, c56, [.cell 4 true 2, .tmp 5], 22),
  (57, c57, [.tmp 6, .tmp 7], 22),
  (58, c58, [.tmp 6, .tmp 7], 47),
  (59, c59, [.tmp 8, .tmp 9], 35),
  (60, c60, [], 39),
  (61, c61, [.tmp 6], 24),
  (62, c62, [.tmp 4], 32),
  (63, c63, [], 89),
  (64, c64, [.tmp 2], 18),
  (65, c65, [.tmp 4], 20),
  (66, c66, [.tmp 4], 20),
  (67, c67, [.tmp 4], 47),
  (71, c71, [.tmp 4], 21),
  (72, c72, [.tmp 2], 36),
  (73, c73, [], 71),
  (74, c74, [], 33),
  (75, c75, [.tmp 2], 13),
  (76, c76, [.tmp 2], 6),
  (77, c77, [.tmp 2], 6)]
def tab : Tab := fun f => findT f tabL
theorem tab_ok : tabOk Try.prog tab := tabOk_of (L := tabL) ⟨b7, b10, b11, b12, b13, b14, b16, b17, b18, b19, b21, b24, b25, b26, b27, b28, b33, b34, b35, b36, b37, b38, b39, b40, b41, b42, b43, b44, b45, b46, b47, b48, b55, b56, b57, b58, b59, b60, b61, b62, b63, b64, b65, b66, b67, b71, b72, b73, b74, b75, b76, b77, trivial⟩
end Go.Proofs.Ytggkpagngnnjjaa
