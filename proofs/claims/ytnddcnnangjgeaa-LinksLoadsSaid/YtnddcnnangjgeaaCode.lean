/-
  Abstract code of functions, printed by a program, and that it is theirs.
-/
import Derived.Test.YtnddcnnangjgeaaProg
import Derived.Test.YtnddcnnangjgeaaCodeA
set_option linter.unusedSimpArgs false
set_option linter.unusedVariables false
namespace Go.Proofs.Ytnddcnnangjgeaa
open Go.Am
def tabL : List (Nat × ACode × List ARes × Nat) := [(4, c4, [.tmp 2], 109),
  (7, c7, [.tmp 6], 116),
  (10, c10, [.tmp 0], 56),
  (11, c11, [.tmp 4], 26),
  (12, c12, [.tmp 6], 23),
  (13, c13, [.tmp 4, .tmp 5], 43),
  (14, c14, [.tmp 8, .tmp 9], 35),
  (15, c15, [.tmp 6, .tmp 7], 22),
  (16, c16, [.tmp 4, .tmp 5], 21),
  (17, c17, [.tmp 4, .tmp 5], 21),
  (18, c18, [.tmp 0], 58),
  (19, c19, [.cell 2 true 2, .tmp 3], 118),
  (20, c20, [.cell 2 true 2, .tmp 3], 135),
  (21, c21, [.tmp 2, .tmp 3], 60),
  (22, c22, [.cell 2 true 3, .tmp 3], 70),
  (23, c23, [.tmp 4], 45),
  (24, c24, [.cell 2 true 6], 75),
  (25, c25, [.cell 2 true 6], 132),
  (41, c41, [.tmp 6, .tmp 7], 47),
  (42, c42, [.tmp 4, .tmp 5], 23),
  (43, c43, [.cell 4 true 3, .tmp 5], 38),
  (44, c44, [.tmp 4, .tmp 5], 22),
  (45, c45, [.tmp 6], 22),
  (46, c46, [.tmp 6], 286),
  (47, c47, [.tmp 6], 8),
  (48, c48, [.tmp 4, .tmp 5], 23),
  (49, c49, [.tmp 4, .tmp 5], 35),
  (50, c50, [.tmp 8], 31),
  (51, c51, [.tmp 8], 42),
  (53, c53, [.tmp 4], 32),
  (54, c54, [], 89),
  (55, c55, [.tmp 4], 21),
  (56, c56, [.tmp 2], 36),
  (57, c57, [], 33),
  (58, c58, [.tmp 6], 24),
  (59, c59, [.tmp 2], 63),
  (60, c60, [.tmp 4], 78),
  (61, c61, [.tmp 2], 53),
  (62, c62, [.tmp 6], 69),
  (63, c63, [.tmp 4], 47),
  (64, c64, [.tmp 2], 13),
  (81, c81, [], 71),
  (82, c82, [.tmp 6, .tmp 7], 37),
  (83, c83, [.tmp 6], 24),
  (84, c84, [.tmp 4, .tmp 5], 17),
  (85, c85, [.tmp 6, .tmp 7], 47),
  (86, c86, [.tmp 6, .tmp 7], 35),
  (87, c87, [.tmp 6, .tmp 7], 51),
  (88, c88, [.tmp 4, .tmp 5], 25),
  (89, c89, [.tmp 8, .tmp 9], 42),
  (90, c90, [], 39),
  (91, c91, [.tmp 4, .tmp 5], 43),
  (92, c92, [], 30),
  (93, c93, [], 34),
  (94, c94, [.tmp 6], 16),
  (95, c95, [.tmp 2], 23)]
def tab : Tab := fun f => findT f tabL
theorem tab_ok : tabOk Try.prog tab := tabOk_of (L := tabL) ⟨b4, b7, b10, b11, b12, b13, b14, b15, b16, b17, b18, b19, b20, b21, b22, b23, b24, b25, b41, b42, b43, b44, b45, b46, b47, b48, b49, b50, b51, b53, b54, b55, b56, b57, b58, b59, b60, b61, b62, b63, b64, b81, b82, b83, b84, b85, b86, b87, b88, b89, b90, b91, b92, b93, b94, b95, trivial⟩
end Go.Proofs.Ytnddcnnangjgeaa
