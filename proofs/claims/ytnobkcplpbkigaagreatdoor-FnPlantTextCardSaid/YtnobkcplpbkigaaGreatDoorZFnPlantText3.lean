import Derived.Test.YtnobkcplpbkigaaGreatDoorZFnPlantText2
import Derived.Shelf.Lay
import Derived.Shelf.Sort.AssemblyIn
import Derived.Ground.SoProg
import Derived.Ground.GgsProg
import Derived.Deep.QuietTactic
import Derived.BigQuiet
import Derived.Test.YtnobkcplpbkigaaGreatDoorProg
import Derived.KernelRfl
set_option linter.unusedVariables false
set_option linter.unusedSimpArgs false
namespace Go.Proofs.YtnobkcplpbkigaaGreatDoor.PT
open Go Go.Aw Go.RowKit Go.Proofs
set_option maxRecDepth 100000
set_option maxHeartbeats 40000000
variable {G : Nat → Option Obj}
def tab : List (TypeId × TI) := [(2, ⟨1, 8, false, 0, 0, [], [.int .i64 0], some .i64, false, false, false, [], [0], []⟩),
  (3, ⟨1, 8, false, 0, 0, [], [.int .i64 0], some .i64, false, false, false, [], [0], []⟩),
  (4, ⟨1, 1, false, 0, 0, [], [.bool false], none, false, false, true, [], [0], []⟩),
  (5, ⟨1, 1, false, 0, 0, [], [.int .u8 0], some .u8, false, false, false, [], [0], []⟩),
  (6, ⟨1, 1, false, 0, 0, [], [.int .u8 0], some .u8, false, false, false, [], [0], []⟩),
  (7, ⟨4, 24, true, 0, 0, [(0, 2), (1, 3), (2, 4), (3, 6)], [.int .i64 0, .int .i64 0, .bool false, .int .u8 0], none, false, false, false, [(0, 1), (1, 1), (2, 1), (3, 1)], [0, 0, 0, 0], []⟩),
  (8, ⟨4, 24, true, 0, 0, [(0, 2), (1, 3), (2, 4), (3, 6)], [.int .i64 0, .int .i64 0, .bool false, .int .u8 0], none, false, false, false, [(0, 1), (1, 1), (2, 1), (3, 1)], [0, 0, 0, 0], []⟩),
  (9, ⟨1, 16, false, 0, 0, [], [.str ⟨#[]⟩], none, true, false, false, [], [0], []⟩),
  (10, ⟨1, 16, false, 0, 0, [], [.str ⟨#[]⟩], none, true, false, false, [], [0], []⟩),
  (11, ⟨1, 16, false, 0, 0, [], [.str ⟨#[]⟩], none, true, false, false, [], [0], []⟩),
  (12, ⟨1, 8, false, 0, 0, [], [.int .u64 0], some .u64, false, false, false, [], [0], []⟩),
  (13, ⟨2, 24, true, 0, 0, [(0, 9), (1, 12)], [.str ⟨#[]⟩, .int .u64 0], none, false, false, false, [(0, 1), (1, 1)], [0, 0], []⟩),
  (14, ⟨2, 24, true, 0, 0, [(0, 9), (1, 12)], [.str ⟨#[]⟩, .int .u64 0], none, false, false, false, [(0, 1), (1, 1)], [0, 0], []⟩),
  (15, ⟨1, 8, false, 0, 0, [], [.und], none, false, false, false, [], [0], []⟩),
  (16, ⟨1, 8, false, 0, 0, [], [.und], none, false, false, false, [], [0], []⟩),
  (17, ⟨1, 8, false, 0, 0, [], [.und], none, false, false, false, [], [0], []⟩),
  (18, ⟨1, 8, true, 0, 0, [(0, 17)], [.und], none, false, false, false, [(0, 1)], [0], []⟩),
  (19, ⟨1, 8, true, 0, 0, [(0, 17)], [.und], none, false, false, false, [(0, 1)], [0], []⟩),
  (21, ⟨1, 4, false, 0, 0, [], [.int .i32 0], some .i32, false, false, false, [], [0], []⟩),
  (22, ⟨1, 24, false, 5, 0, [], [.nil], none, false, true, false, [], [1], []⟩),
  (23, ⟨1, 24, false, 9, 0, [], [.nil], none, false, true, false, [], [1], []⟩),
  (24, ⟨1, 24, false, 47, 0, [], [.nil], none, false, true, false, [], [2], []⟩),
  (25, ⟨1, 24, false, 49, 0, [], [.nil], none, false, true, false, [], [3], []⟩),
  (26, ⟨1, 24, false, 52, 0, [], [.nil], none, false, true, false, [], [4], []⟩),
  (27, ⟨4, 96, true, 0, 0, [(0, 23), (1, 24), (2, 25), (3, 26)], [.nil, .nil, .nil, .nil], none, false, false, false, [(0, 1), (1, 1), (2, 1), (3, 1)], [1, 2, 3, 4], []⟩),
  (28, ⟨4, 96, true, 0, 0, [(0, 23), (1, 24), (2, 25), (3, 26)], [.nil, .nil, .nil, .nil], none, false, false, false, [(0, 1), (1, 1), (2, 1), (3, 1)], [1, 2, 3, 4], []⟩),
  (32, ⟨2, 16, true, 0, 0, [(0, 3), (1, 3)], [.int .i64 0, .int .i64 0], none, false, false, false, [(0, 1), (1, 1)], [0, 0], []⟩),
  (33, ⟨2, 16, true, 0, 0, [(0, 3), (1, 3)], [.int .i64 0, .int .i64 0], none, false, false, false, [(0, 1), (1, 1)], [0, 0], [1, 1]⟩),
  (44, ⟨1, 8, false, 0, 0, [], [.und], none, false, false, false, [], [0], []⟩),
  (46, ⟨2, 32, true, 0, 0, [(0, 9), (1, 9)], [.str ⟨#[]⟩, .str ⟨#[]⟩], none, false, false, false, [(0, 1), (1, 1)], [0, 0], []⟩),
  (47, ⟨2, 32, true, 0, 0, [(0, 9), (1, 9)], [.str ⟨#[]⟩, .str ⟨#[]⟩], none, false, false, false, [(0, 1), (1, 1)], [0, 0], [2, 2]⟩),
  (48, ⟨3, 40, true, 0, 0, [(0, 9), (1, 3), (2, 9)], [.str ⟨#[]⟩, .int .i64 0, .str ⟨#[]⟩], none, false, false, false, [(0, 1), (1, 1), (2, 1)], [0, 0, 0], []⟩),
  (49, ⟨3, 40, true, 0, 0, [(0, 9), (1, 3), (2, 9)], [.str ⟨#[]⟩, .int .i64 0, .str ⟨#[]⟩], none, false, false, false, [(0, 1), (1, 1), (2, 1)], [0, 0, 0], [2, 1, 2]⟩),
  (51, ⟨4, 64, true, 0, 0, [(0, 9), (1, 9), (2, 9), (3, 9)], [.str ⟨#[]⟩, .str ⟨#[]⟩, .str ⟨#[]⟩, .str ⟨#[]⟩], none, false, false, false, [(0, 1), (1, 1), (2, 1), (3, 1)], [0, 0, 0, 0], []⟩),
  (52, ⟨4, 64, true, 0, 0, [(0, 9), (1, 9), (2, 9), (3, 9)], [.str ⟨#[]⟩, .str ⟨#[]⟩, .str ⟨#[]⟩, .str ⟨#[]⟩], none, false, false, false, [(0, 1), (1, 1), (2, 1), (3, 1)], [0, 0, 0, 0], [2, 2, 2, 2]⟩),
  (55, ⟨1, 24, false, 79, 0, [], [.nil], none, false, true, false, [], [2], []⟩),
  (65, ⟨1, 8, false, 0, 0, [], [.und], none, false, false, false, [], [0], []⟩),
  (77, ⟨2, 32, true, 0, 0, [(0, 22), (1, 3)], [.nil, .int .i64 0], none, false, false, false, [(0, 1), (1, 1)], [1, 0], []⟩),
  (78, ⟨2, 32, true, 0, 0, [(0, 22), (1, 3)], [.nil, .int .i64 0], none, false, false, false, [(0, 1), (1, 1)], [1, 0], []⟩),
  (79, ⟨2, 32, true, 9, 2, [], [.str ⟨#[]⟩, .str ⟨#[]⟩], none, false, false, false, [(0, 1), (1, 1)], [0, 0], [2, 2]⟩),
  (94, ⟨1, 24, false, 3, 0, [], [.nil], none, false, true, false, [], [1], []⟩),
  (102, ⟨1, 8, false, 0, 0, [], [.int .u64 0], some .u64, false, false, false, [], [0], []⟩),
  (110, ⟨1, 8, false, 0, 0, [], [.int .u64 0], some .u64, false, false, false, [], [0], []⟩),
  (116, ⟨24, 24, true, 5, 24, [], [.int .u8 0, .int .u8 0, .int .u8 0, .int .u8 0, .int .u8 0, .int .u8 0, .int .u8 0, .int .u8 0, .int .u8 0, .int .u8 0, .int .u8 0, .int .u8 0, .int .u8 0, .int .u8 0, .int .u8 0, .int .u8 0, .int .u8 0, .int .u8 0, .int .u8 0, .int .u8 0, .int .u8 0, .int .u8 0, .int .u8 0, .int .u8 0], none, false, false, false, [(0, 1), (1, 1), (2, 1), (3, 1), (4, 1), (5, 1), (6, 1), (7, 1), (8, 1), (9, 1), (10, 1), (11, 1), (12, 1), (13, 1), (14, 1), (15, 1), (16, 1), (17, 1), (18, 1), (19, 1), (20, 1), (21, 1), (22, 1), (23, 1)], [0, 0, 0, 0, 0, 0, 0, 0, 0, 0, 0, 0, 0, 0, 0, 0, 0, 0, 0, 0, 0, 0, 0, 0], [1, 1, 1, 1, 1, 1, 1, 1, 1, 1, 1, 1, 1, 1, 1, 1, 1, 1, 1, 1, 1, 1, 1, 1]⟩),
  (117, ⟨1, 8, false, 0, 0, [], [.int .u64 0], some .u64, false, false, false, [], [0], []⟩),
  (124, ⟨1, 8, true, 0, 0, [(0, 17)], [.und], none, false, false, false, [(0, 1)], [0], []⟩),
  (125, ⟨1, 8, true, 0, 0, [(0, 17)], [.und], none, false, false, false, [(0, 1)], [0], []⟩),
  (126, ⟨1, 8, false, 0, 0, [], [.und], none, false, false, false, [], [0], []⟩),
  (128, ⟨1, 4, false, 0, 0, [], [.int .u32 0], some .u32, false, false, false, [], [0], []⟩),
  (130, ⟨1, 8, false, 0, 0, [], [.int .i64 0], some .i64, false, false, false, [], [0], []⟩),
  (137, ⟨20, 160, true, 117, 20, [], [.int .u64 0, .int .u64 0, .int .u64 0, .int .u64 0, .int .u64 0, .int .u64 0, .int .u64 0, .int .u64 0, .int .u64 0, .int .u64 0, .int .u64 0, .int .u64 0, .int .u64 0, .int .u64 0, .int .u64 0, .int .u64 0, .int .u64 0, .int .u64 0, .int .u64 0, .int .u64 0], none, false, false, false, [(0, 1), (1, 1), (2, 1), (3, 1), (4, 1), (5, 1), (6, 1), (7, 1), (8, 1), (9, 1), (10, 1), (11, 1), (12, 1), (13, 1), (14, 1), (15, 1), (16, 1), (17, 1), (18, 1), (19, 1)], [0, 0, 0, 0, 0, 0, 0, 0, 0, 0, 0, 0, 0, 0, 0, 0, 0, 0, 0, 0], [1, 1, 1, 1, 1, 1, 1, 1, 1, 1, 1, 1, 1, 1, 1, 1, 1, 1, 1, 1]⟩),
  (138, ⟨65, 65, true, 5, 65, [], [.int .u8 0, .int .u8 0, .int .u8 0, .int .u8 0, .int .u8 0, .int .u8 0, .int .u8 0, .int .u8 0, .int .u8 0, .int .u8 0, .int .u8 0, .int .u8 0, .int .u8 0, .int .u8 0, .int .u8 0, .int .u8 0, .int .u8 0, .int .u8 0, .int .u8 0, .int .u8 0, .int .u8 0, .int .u8 0, .int .u8 0, .int .u8 0, .int .u8 0, .int .u8 0, .int .u8 0, .int .u8 0, .int .u8 0, .int .u8 0, .int .u8 0, .int .u8 0, .int .u8 0, .int .u8 0, .int .u8 0, .int .u8 0, .int .u8 0, .int .u8 0, .int .u8 0, .int .u8 0, .int .u8 0, .int .u8 0, .int .u8 0, .int .u8 0, .int .u8 0, .int .u8 0, .int .u8 0, .int .u8 0, .int .u8 0, .int .u8 0, .int .u8 0, .int .u8 0, .int .u8 0, .int .u8 0, .int .u8 0, .int .u8 0, .int .u8 0, .int .u8 0, .int .u8 0, .int .u8 0, .int .u8 0, .int .u8 0, .int .u8 0, .int .u8 0, .int .u8 0], none, false, false, false, [(0, 1), (1, 1), (2, 1), (3, 1), (4, 1), (5, 1), (6, 1), (7, 1), (8, 1), (9, 1), (10, 1), (11, 1), (12, 1), (13, 1), (14, 1), (15, 1), (16, 1), (17, 1), (18, 1), (19, 1), (20, 1), (21, 1), (22, 1), (23, 1), (24, 1), (25, 1), (26, 1), (27, 1), (28, 1), (29, 1), (30, 1), (31, 1), (32, 1), (33, 1), (34, 1), (35, 1), (36, 1), (37, 1), (38, 1), (39, 1), (40, 1), (41, 1), (42, 1), (43, 1), (44, 1), (45, 1), (46, 1), (47, 1), (48, 1), (49, 1), (50, 1), (51, 1), (52, 1), (53, 1), (54, 1), (55, 1), (56, 1), (57, 1), (58, 1), (59, 1), (60, 1), (61, 1), (62, 1), (63, 1), (64, 1)], [0, 0, 0, 0, 0, 0, 0, 0, 0, 0, 0, 0, 0, 0, 0, 0, 0, 0, 0, 0, 0, 0, 0, 0, 0, 0, 0, 0, 0, 0, 0, 0, 0, 0, 0, 0, 0, 0, 0, 0, 0, 0, 0, 0, 0, 0, 0, 0, 0, 0, 0, 0, 0, 0, 0, 0, 0, 0, 0, 0, 0, 0, 0, 0, 0], []⟩),
  (144, ⟨1, 8, false, 0, 0, [], [.int .u64 0], some .u64, false, false, false, [], [0], []⟩),
  (148, ⟨1, 8, false, 0, 0, [], [.und], none, false, false, false, [], [0], []⟩),
  (151, ⟨1, 8, false, 0, 0, [], [.int .i64 0], some .i64, false, false, false, [], [0], []⟩),
  (158, ⟨1, 8, false, 0, 0, [], [.und], none, false, false, false, [], [0], []⟩),
  (161, ⟨32, 32, true, 5, 32, [], [.int .u8 0, .int .u8 0, .int .u8 0, .int .u8 0, .int .u8 0, .int .u8 0, .int .u8 0, .int .u8 0, .int .u8 0, .int .u8 0, .int .u8 0, .int .u8 0, .int .u8 0, .int .u8 0, .int .u8 0, .int .u8 0, .int .u8 0, .int .u8 0, .int .u8 0, .int .u8 0, .int .u8 0, .int .u8 0, .int .u8 0, .int .u8 0, .int .u8 0, .int .u8 0, .int .u8 0, .int .u8 0, .int .u8 0, .int .u8 0, .int .u8 0, .int .u8 0], none, false, false, false, [(0, 1), (1, 1), (2, 1), (3, 1), (4, 1), (5, 1), (6, 1), (7, 1), (8, 1), (9, 1), (10, 1), (11, 1), (12, 1), (13, 1), (14, 1), (15, 1), (16, 1), (17, 1), (18, 1), (19, 1), (20, 1), (21, 1), (22, 1), (23, 1), (24, 1), (25, 1), (26, 1), (27, 1), (28, 1), (29, 1), (30, 1), (31, 1)], [0, 0, 0, 0, 0, 0, 0, 0, 0, 0, 0, 0, 0, 0, 0, 0, 0, 0, 0, 0, 0, 0, 0, 0, 0, 0, 0, 0, 0, 0, 0, 0], [1, 1, 1, 1, 1, 1, 1, 1, 1, 1, 1, 1, 1, 1, 1, 1, 1, 1, 1, 1, 1, 1, 1, 1, 1, 1, 1, 1, 1, 1, 1, 1]⟩),
  (162, ⟨64, 64, true, 5, 64, [], [.int .u8 0, .int .u8 0, .int .u8 0, .int .u8 0, .int .u8 0, .int .u8 0, .int .u8 0, .int .u8 0, .int .u8 0, .int .u8 0, .int .u8 0, .int .u8 0, .int .u8 0, .int .u8 0, .int .u8 0, .int .u8 0, .int .u8 0, .int .u8 0, .int .u8 0, .int .u8 0, .int .u8 0, .int .u8 0, .int .u8 0, .int .u8 0, .int .u8 0, .int .u8 0, .int .u8 0, .int .u8 0, .int .u8 0, .int .u8 0, .int .u8 0, .int .u8 0, .int .u8 0, .int .u8 0, .int .u8 0, .int .u8 0, .int .u8 0, .int .u8 0, .int .u8 0, .int .u8 0, .int .u8 0, .int .u8 0, .int .u8 0, .int .u8 0, .int .u8 0, .int .u8 0, .int .u8 0, .int .u8 0, .int .u8 0, .int .u8 0, .int .u8 0, .int .u8 0, .int .u8 0, .int .u8 0, .int .u8 0, .int .u8 0, .int .u8 0, .int .u8 0, .int .u8 0, .int .u8 0, .int .u8 0, .int .u8 0, .int .u8 0, .int .u8 0], none, false, false, false, [(0, 1), (1, 1), (2, 1), (3, 1), (4, 1), (5, 1), (6, 1), (7, 1), (8, 1), (9, 1), (10, 1), (11, 1), (12, 1), (13, 1), (14, 1), (15, 1), (16, 1), (17, 1), (18, 1), (19, 1), (20, 1), (21, 1), (22, 1), (23, 1), (24, 1), (25, 1), (26, 1), (27, 1), (28, 1), (29, 1), (30, 1), (31, 1), (32, 1), (33, 1), (34, 1), (35, 1), (36, 1), (37, 1), (38, 1), (39, 1), (40, 1), (41, 1), (42, 1), (43, 1), (44, 1), (45, 1), (46, 1), (47, 1), (48, 1), (49, 1), (50, 1), (51, 1), (52, 1), (53, 1), (54, 1), (55, 1), (56, 1), (57, 1), (58, 1), (59, 1), (60, 1), (61, 1), (62, 1), (63, 1)], [0, 0, 0, 0, 0, 0, 0, 0, 0, 0, 0, 0, 0, 0, 0, 0, 0, 0, 0, 0, 0, 0, 0, 0, 0, 0, 0, 0, 0, 0, 0, 0, 0, 0, 0, 0, 0, 0, 0, 0, 0, 0, 0, 0, 0, 0, 0, 0, 0, 0, 0, 0, 0, 0, 0, 0, 0, 0, 0, 0, 0, 0, 0, 0], []⟩),
  (163, ⟨256, 256, true, 5, 256, [], [.int .u8 0, .int .u8 0, .int .u8 0, .int .u8 0, .int .u8 0, .int .u8 0, .int .u8 0, .int .u8 0, .int .u8 0, .int .u8 0, .int .u8 0, .int .u8 0, .int .u8 0, .int .u8 0, .int .u8 0, .int .u8 0, .int .u8 0, .int .u8 0, .int .u8 0, .int .u8 0, .int .u8 0, .int .u8 0, .int .u8 0, .int .u8 0, .int .u8 0, .int .u8 0, .int .u8 0, .int .u8 0, .int .u8 0, .int .u8 0, .int .u8 0, .int .u8 0, .int .u8 0, .int .u8 0, .int .u8 0, .int .u8 0, .int .u8 0, .int .u8 0, .int .u8 0, .int .u8 0, .int .u8 0, .int .u8 0, .int .u8 0, .int .u8 0, .int .u8 0, .int .u8 0, .int .u8 0, .int .u8 0, .int .u8 0, .int .u8 0, .int .u8 0, .int .u8 0, .int .u8 0, .int .u8 0, .int .u8 0, .int .u8 0, .int .u8 0, .int .u8 0, .int .u8 0, .int .u8 0, .int .u8 0, .int .u8 0, .int .u8 0, .int .u8 0, .int .u8 0, .int .u8 0, .int .u8 0, .int .u8 0, .int .u8 0, .int .u8 0, .int .u8 0, .int .u8 0, .int .u8 0, .int .u8 0, .int .u8 0, .int .u8 0, .int .u8 0, .int .u8 0, .int .u8 0, .int .u8 0, .int .u8 0, .int .u8 0, .int .u8 0, .int .u8 0, .int .u8 0, .int .u8 0, .int .u8 0, .int .u8 0, .int .u8 0, .int .u8 0, .int .u8 0, .int .u8 0, .int .u8 0, .int .u8 0, .int .u8 0, .int .u8 0, .int .u8 0, .int .u8 0, .int .u8 0, .int .u8 0, .int .u8 0, .int .u8 0, .int .u8 0, .int .u8 0, .int .u8 0, .int .u8 0, .int .u8 0, .int .u8 0, .int .u8 0, .int .u8 0, .int .u8 0, .int .u8 0, .int .u8 0, .int .u8 0, .int .u8 0, .int .u8 0, .int .u8 0, .int .u8 0, .int .u8 0, .int .u8 0, .int .u8 0, .int .u8 0, .int .u8 0, .int .u8 0, .int .u8 0, .int .u8 0, .int .u8 0, .int .u8 0, .int .u8 0, .int .u8 0, .int .u8 0, .int .u8 0, .int .u8 0, .int .u8 0, .int .u8 0, .int .u8 0, .int .u8 0, .int .u8 0, .int .u8 0, .int .u8 0, .int .u8 0, .int .u8 0, .int .u8 0, .int .u8 0, .int .u8 0, .int .u8 0, .int .u8 0, .int .u8 0, .int .u8 0, .int .u8 0, .int .u8 0, .int .u8 0, .int .u8 0, .int .u8 0, .int .u8 0, .int .u8 0, .int .u8 0, .int .u8 0, .int .u8 0, .int .u8 0, .int .u8 0, .int .u8 0, .int .u8 0, .int .u8 0, .int .u8 0, .int .u8 0, .int .u8 0, .int .u8 0, .int .u8 0, .int .u8 0, .int .u8 0, .int .u8 0, .int .u8 0, .int .u8 0, .int .u8 0, .int .u8 0, .int .u8 0, .int .u8 0, .int .u8 0, .int .u8 0, .int .u8 0, .int .u8 0, .int .u8 0, .int .u8 0, .int .u8 0, .int .u8 0, .int .u8 0, .int .u8 0, .int .u8 0, .int .u8 0, .int .u8 0, .int .u8 0, .int .u8 0, .int .u8 0, .int .u8 0, .int .u8 0, .int .u8 0, .int .u8 0, .int .u8 0, .int .u8 0, .int .u8 0, .int .u8 0, .int .u8 0, .int .u8 0, .int .u8 0, .int .u8 0, .int .u8 0, .int .u8 0, .int .u8 0, .int .u8 0, .int .u8 0, .int .u8 0, .int .u8 0, .int .u8 0, .int .u8 0, .int .u8 0, .int .u8 0, .int .u8 0, .int .u8 0, .int .u8 0, .int .u8 0, .int .u8 0, .int .u8 0, .int .u8 0, .int .u8 0, .int .u8 0, .int .u8 0, .int .u8 0, .int .u8 0, .int .u8 0, .int .u8 0, .int .u8 0, .int .u8 0, .int .u8 0, .int .u8 0, .int .u8 0, .int .u8 0, .int .u8 0, .int .u8 0, .int .u8 0, .int .u8 0, .int .u8 0, .int .u8 0, .int .u8 0, .int .u8 0, .int .u8 0, .int .u8 0, .int .u8 0, .int .u8 0, .int .u8 0, .int .u8 0, .int .u8 0, .int .u8 0, .int .u8 0, .int .u8 0, .int .u8 0], none, false, false, false, [(0, 1), (1, 1), (2, 1), (3, 1), (4, 1), (5, 1), (6, 1), (7, 1), (8, 1), (9, 1), (10, 1), (11, 1), (12, 1), (13, 1), (14, 1), (15, 1), (16, 1), (17, 1), (18, 1), (19, 1), (20, 1), (21, 1), (22, 1), (23, 1), (24, 1), (25, 1), (26, 1), (27, 1), (28, 1), (29, 1), (30, 1), (31, 1), (32, 1), (33, 1), (34, 1), (35, 1), (36, 1), (37, 1), (38, 1), (39, 1), (40, 1), (41, 1), (42, 1), (43, 1), (44, 1), (45, 1), (46, 1), (47, 1), (48, 1), (49, 1), (50, 1), (51, 1), (52, 1), (53, 1), (54, 1), (55, 1), (56, 1), (57, 1), (58, 1), (59, 1), (60, 1), (61, 1), (62, 1), (63, 1), (64, 1), (65, 1), (66, 1), (67, 1), (68, 1), (69, 1), (70, 1), (71, 1), (72, 1), (73, 1), (74, 1), (75, 1), (76, 1), (77, 1), (78, 1), (79, 1), (80, 1), (81, 1), (82, 1), (83, 1), (84, 1), (85, 1), (86, 1), (87, 1), (88, 1), (89, 1), (90, 1), (91, 1), (92, 1), (93, 1), (94, 1), (95, 1), (96, 1), (97, 1), (98, 1), (99, 1), (100, 1), (101, 1), (102, 1), (103, 1), (104, 1), (105, 1), (106, 1), (107, 1), (108, 1), (109, 1), (110, 1), (111, 1), (112, 1), (113, 1), (114, 1), (115, 1), (116, 1), (117, 1), (118, 1), (119, 1), (120, 1), (121, 1), (122, 1), (123, 1), (124, 1), (125, 1), (126, 1), (127, 1), (128, 1), (129, 1), (130, 1), (131, 1), (132, 1), (133, 1), (134, 1), (135, 1), (136, 1), (137, 1), (138, 1), (139, 1), (140, 1), (141, 1), (142, 1), (143, 1), (144, 1), (145, 1), (146, 1), (147, 1), (148, 1), (149, 1), (150, 1), (151, 1), (152, 1), (153, 1), (154, 1), (155, 1), (156, 1), (157, 1), (158, 1), (159, 1), (160, 1), (161, 1), (162, 1), (163, 1), (164, 1), (165, 1), (166, 1), (167, 1), (168, 1), (169, 1), (170, 1), (171, 1), (172, 1), (173, 1), (174, 1), (175, 1), (176, 1), (177, 1), (178, 1), (179, 1), (180, 1), (181, 1), (182, 1), (183, 1), (184, 1), (185, 1), (186, 1), (187, 1), (188, 1), (189, 1), (190, 1), (191, 1), (192, 1), (193, 1), (194, 1), (195, 1), (196, 1), (197, 1), (198, 1), (199, 1), (200, 1), (201, 1), (202, 1), (203, 1), (204, 1), (205, 1), (206, 1), (207, 1), (208, 1), (209, 1), (210, 1), (211, 1), (212, 1), (213, 1), (214, 1), (215, 1), (216, 1), (217, 1), (218, 1), (219, 1), (220, 1), (221, 1), (222, 1), (223, 1), (224, 1), (225, 1), (226, 1), (227, 1), (228, 1), (229, 1), (230, 1), (231, 1), (232, 1), (233, 1), (234, 1), (235, 1), (236, 1), (237, 1), (238, 1), (239, 1), (240, 1), (241, 1), (242, 1), (243, 1), (244, 1), (245, 1), (246, 1), (247, 1), (248, 1), (249, 1), (250, 1), (251, 1), (252, 1), (253, 1), (254, 1), (255, 1)], [0, 0, 0, 0, 0, 0, 0, 0, 0, 0, 0, 0, 0, 0, 0, 0, 0, 0, 0, 0, 0, 0, 0, 0, 0, 0, 0, 0, 0, 0, 0, 0, 0, 0, 0, 0, 0, 0, 0, 0, 0, 0, 0, 0, 0, 0, 0, 0, 0, 0, 0, 0, 0, 0, 0, 0, 0, 0, 0, 0, 0, 0, 0, 0, 0, 0, 0, 0, 0, 0, 0, 0, 0, 0, 0, 0, 0, 0, 0, 0, 0, 0, 0, 0, 0, 0, 0, 0, 0, 0, 0, 0, 0, 0, 0, 0, 0, 0, 0, 0, 0, 0, 0, 0, 0, 0, 0, 0, 0, 0, 0, 0, 0, 0, 0, 0, 0, 0, 0, 0, 0, 0, 0, 0, 0, 0, 0, 0, 0, 0, 0, 0, 0, 0, 0, 0, 0, 0, 0, 0, 0, 0, 0, 0, 0, 0, 0, 0, 0, 0, 0, 0, 0, 0, 0, 0, 0, 0, 0, 0, 0, 0, 0, 0, 0, 0, 0, 0, 0, 0, 0, 0, 0, 0, 0, 0, 0, 0, 0, 0, 0, 0, 0, 0, 0, 0, 0, 0, 0, 0, 0, 0, 0, 0, 0, 0, 0, 0, 0, 0, 0, 0, 0, 0, 0, 0, 0, 0, 0, 0, 0, 0, 0, 0, 0, 0, 0, 0, 0, 0, 0, 0, 0, 0, 0, 0, 0, 0, 0, 0, 0, 0, 0, 0, 0, 0, 0, 0, 0, 0, 0, 0, 0, 0, 0, 0, 0, 0, 0, 0, 0, 0, 0, 0, 0, 0], []⟩),
  (164, ⟨2, 2, true, 0, 0, [(0, 5), (1, 5)], [.int .u8 0, .int .u8 0], none, false, false, false, [(0, 1), (1, 1)], [0, 0], []⟩),
  (165, ⟨2, 2, true, 0, 0, [(0, 5), (1, 5)], [.int .u8 0, .int .u8 0], none, false, false, false, [(0, 1), (1, 1)], [0, 0], []⟩),
  (166, ⟨32, 32, true, 165, 16, [], [.int .u8 0, .int .u8 0, .int .u8 0, .int .u8 0, .int .u8 0, .int .u8 0, .int .u8 0, .int .u8 0, .int .u8 0, .int .u8 0, .int .u8 0, .int .u8 0, .int .u8 0, .int .u8 0, .int .u8 0, .int .u8 0, .int .u8 0, .int .u8 0, .int .u8 0, .int .u8 0, .int .u8 0, .int .u8 0, .int .u8 0, .int .u8 0, .int .u8 0, .int .u8 0, .int .u8 0, .int .u8 0, .int .u8 0, .int .u8 0, .int .u8 0, .int .u8 0], none, false, false, false, [(0, 2), (2, 2), (4, 2), (6, 2), (8, 2), (10, 2), (12, 2), (14, 2), (16, 2), (18, 2), (20, 2), (22, 2), (24, 2), (26, 2), (28, 2), (30, 2)], [0, 0, 0, 0, 0, 0, 0, 0, 0, 0, 0, 0, 0, 0, 0, 0, 0, 0, 0, 0, 0, 0, 0, 0, 0, 0, 0, 0, 0, 0, 0, 0], []⟩),
  (169, ⟨1, 8, false, 0, 0, [], [.int .u64 0], some .u64, false, false, false, [], [0], []⟩),
  (172, ⟨1, 8, false, 0, 0, [], [.und], none, false, false, false, [], [0], []⟩),
  (175, ⟨4, 40, true, 0, 0, [(0, 17), (1, 17), (2, 17), (3, 9)], [.und, .und, .und, .str ⟨#[]⟩], none, false, false, false, [(0, 1), (1, 1), (2, 1), (3, 1)], [0, 0, 0, 0], []⟩),
  (176, ⟨4, 40, true, 0, 0, [(0, 17), (1, 17), (2, 17), (3, 9)], [.und, .und, .und, .str ⟨#[]⟩], none, false, false, false, [(0, 1), (1, 1), (2, 1), (3, 1)], [0, 0, 0, 0], []⟩),
  (180, ⟨1, 1, false, 0, 0, [], [.int .u8 0], some .u8, false, false, false, [], [0], []⟩),
  (181, ⟨1, 1, false, 0, 0, [], [.int .u8 0], some .u8, false, false, false, [], [0], []⟩),
  (183, ⟨1, 8, false, 0, 0, [], [.und], none, false, false, false, [], [0], []⟩),
  (184, ⟨1, 4, false, 0, 0, [], [.int .i32 0], some .i32, false, false, false, [], [0], []⟩),
  (185, ⟨1, 4, false, 0, 0, [], [.int .i32 0], some .i32, false, false, false, [], [0], []⟩),
  (188, ⟨2, 24, true, 0, 0, [(0, 9), (1, 181)], [.str ⟨#[]⟩, .int .u8 0], none, false, false, false, [(0, 1), (1, 1)], [0, 0], []⟩),
  (189, ⟨2, 24, true, 0, 0, [(0, 9), (1, 181)], [.str ⟨#[]⟩, .int .u8 0], none, false, false, false, [(0, 1), (1, 1)], [0, 0], []⟩)]
theorem tok : TOk Tryz.prog (lk tab) := aLS tab (by kernel_rfl)
theorem hP : Tryz.prog.follows .mixedOrders = true := by kernel_rfl
def aR (x : ByteArray) : List V := [.str x]
def aM (l : List ByteArray) : V := .sl 1 l.length (l.map aR)
theorem yT (x : ByteArray) : (aR x).all V.bare = true := rfl
theorem aV (l : List ByteArray) (i : Int) (h0 : 0 ≤ i) (h1 : i < (l.length : Int)) : (l.map aR)[i.toNat]? = some (aR (aP ByteArray.empty l i)) := by
  have : i.toNat < l.length := by omega
  simp [aP, this]
def aK (x : aD) : List V := [.str x.f0, .str x.f1]
def aF (l : List aD) : V := .sl 2 l.length (l.map aK)
theorem cA (l : List aD) (i : Int) (h0 : 0 ≤ i) (h1 : i < (l.length : Int)) : (l.map aK)[i.toNat]? = some (aK (aQ l i)) := by
  have : i.toNat < l.length := by omega
  simp [aQ, this]
def aI (x : aB) : List V := [.str x.f0, .int .i64 x.f1, .str x.f2]
def aC (l : List aB) : V := .sl 3 l.length (l.map aI)
theorem cF (l : List aB) (i : Int) (h0 : 0 ≤ i) (h1 : i < (l.length : Int)) : (l.map aI)[i.toNat]? = some (aI (aL l i)) := by
  have : i.toNat < l.length := by omega
  simp [aL, this]
def aH (x : aA) : List V := [.str x.f0, .str x.f1, .str x.f2, .str x.f3]
def aE (l : List aA) : V := .sl 4 l.length (l.map aH)
theorem dA (l : List aA) (i : Int) (h0 : 0 ≤ i) (h1 : i < (l.length : Int)) : (l.map aH)[i.toNat]? = some (aH (aG l i)) := by
  have : i.toNat < l.length := by omega
  simp [aG, this]
def vI (x : Int) : List V := [.int .u8 x]
def bV (l : List Int) : V := .sl 1 l.length (l.map vI)
theorem rI (l : List Int) (i : Int) (h0 : 0 ≤ i) (h1 : i < (l.length : Int)) : (l.map vI)[i.toNat]? = some (vI (rd l i)) := by
  have : i.toNat < l.length := by omega
  simp [rd, this]
def eE (x : bW) : List V := [.str x.f0, .str x.f1]
def dJ (l : List bW) : V := .sl 2 l.length (l.map eE)
theorem pD (x : bW) : (eE x).all V.bare = true := rfl
theorem gT (l : List bW) (i : Int) (h0 : 0 ≤ i) (h1 : i < (l.length : Int)) : (l.map eE)[i.toNat]? = some (eE (cL l i)) := by
  have : i.toNat < l.length := by omega
  simp [cL, this]
theorem pC : aHU Tryz.prog 85 := ⟨_, _, Tryz.underlying85, by kernel_rfl, fun _ => by kernel_rfl⟩
attribute [local irreducible] jW Lp Sq Cut lH lA cG
theorem jB.ac {l0 : List Int} {r : (List Int) × Int} (H : jB.f l0 = some r) : cI Tryz.prog G 18 [] [(bV l0)] [.box [(bV r.1), .int .i64 r.2]] (.bp 0 0) := by
  refine bO tok hP Tryz.func18 rfl (by kernel_rfl) [.tmp 2] rfl (by kernel_rfl) (Nat.le_of_ble_eq_true rfl) (.l .n (.l .n (.c .n .n))) rfl ?_
  unfold jB.f at H
  refine bJ H (fun c H => ?_) (fun c H => ?_)
  refine Nd.mk (by decide) (nd_ H (fun c H => (jD 88 [(2, .bp 72 0)] [(72, .box [.sl 1 ((2000 : Int).toNat) ((l0.take (2000 : Int).toNat).map vI), .int .i64 0])] rfl ⟨.inl rfl, trivial⟩ ⟨gB rfl ⟨nJ rfl lm_ lm_, ⟨rfl, trivial⟩⟩, trivial⟩ ?_)))
  cases H
  exact fT [some 72] [] ((rfl)) ⟨gB rfl ⟨nJ rfl lm_ lm_, ⟨rfl, trivial⟩⟩, trivial⟩ rfl
  refine cu 64 [(2, .bp 48 0)] [(48, .box [(bV l0), .int .i64 0])] rfl rfl rfl ?_
  cases H
  exact fT [some 48] [] ((rfl)) ⟨rfl, trivial⟩ rfl
theorem aW.ac {b8 : List Int} {a8 : Int} {a1 : Int} {r : Int × (List Int) × Int} (H : aW.f b8 a8 a1 = some r) : cI Tryz.prog G 34 [.box [(bV b8), .int .i64 a8]] [.bp 0 0, .int .i64 a1] [.box [(bV r.2.1), .int .i64 r.2.2]] (.int .i64 r.1) := by
  refine bO tok hP Tryz.func34 rfl (by kernel_rfl) [.tmp 4] rfl (by kernel_rfl) (Nat.le_of_ble_eq_true rfl) (.l .n (.l .n (.l (.c .n (.l (.c .n .n) .n)) (.l .n (.l (.c .n (.l (.c .n .n) .n)) (.c .n .n)))))) rfl ?_
  unfold aW.f at H
  refine bJ H (fun c H => ?_) (fun c H => ?_)
  refine Br.t ft_ (Br.t ft_ (Br.t ft_ (Br.t ft_ (Br.t ft_ (Br.t ft_ (cu 161 [(0, .bp 0 0), (1, .int .i64 a1), (24, .bool true)] [(0, .box [(bV b8), .int .i64 (wrap64 (a8 + 1))])] rfl rfl rfl (Br.t rfl (cu 169 [(4, .int .i64 0)] [(0, .box [(bV b8), .int .i64 (wrap64 (a8 + 1))])] rfl rfl rfl ?_))))))))
  cases H
  exact fT [some 0] [] ((fV rfl)) ⟨rfl, trivial⟩ rfl
  refine Br.f ff_ (Br.f ff_ (Br.f ff_ (Br.f ff_ (Br.f ff_ (Br.f ff_ (cu 161 [(0, .bp 0 0), (1, .int .i64 a1), (24, .bool (decide ((b8.length : Int) = 0)))] [(0, .box [(bV b8), .int .i64 (wrap64 (a8 + 1))])] rfl rfl rfl (bJ H (fun c H => ?_) (fun c H => ?_))))))))
  refine cu 169 [(4, .int .i64 0)] [(0, .box [(bV b8), .int .i64 (wrap64 (a8 + 1))])] rfl rfl rfl ?_
  cases H
  exact fT [some 0] [] ((fV rfl)) ⟨rfl, trivial⟩ rfl
  refine cu 265 [(0, .bp 0 0), (1, .int .i64 a1), (5, .int .i64 (wrap64 ((wrap64 (a8 + 1)) - 1))), (36, .bool (decide ((wrap64 ((wrap64 (a8 + 1)) - 1)) < (b8.length : Int))))] [(0, .box [(bV b8), .int .i64 (wrap64 (a8 + 1))])] rfl rfl rfl (bJ H (fun c H => ?_) (fun c H => ?_))
  refine nd_ H (fun c H => (Nd.mk nf_ (El.mk (rI _ _ nf_ nf_) (nd_ H (fun c H => (cu 353 [(4, .int .i64 (Int.tmod (wrap64 (rd b8 (wrap64 ((wrap64 (a8 + 1)) - 1)))) a1))] [(0, .box [(bV b8), .int .i64 (wrap64 (a8 + 1))])] rfl rfl rfl ?_))))))
  cases H
  exact fT [some 0] [] ((fV rfl)) ⟨rfl, trivial⟩ rfl
  refine nd_ H (fun c H => (nd_ H (fun c H => (nd_ H (fun c H => (El.mk (rI _ _ nf_ nf_) (Nd.mk nf_ (nd_ H (fun c H => (nd_ H (fun c H => (El.mk (rI _ _ nf_ nf_) (Nd.mk nf_ (cu 633 [(1, .int .i64 a1), (6, .int .i64 (wrap64 ((wrap64 ((wrap64 ((wrap64 ((wrap64 (rd b8 (Int.tmod (wrap64 ((wrap64 (a8 + 1)) - 1)) (b8.length : Int)))) * 131)) + (wrap64 ((wrap64 (rd b8 (Int.tmod (wrap64 ((wrap64 ((wrap64 ((wrap64 (a8 + 1)) - 1)) * 7)) + 3)) (b8.length : Int)))) * 1117)))) + (wrap64 ((wrap64 ((wrap64 (a8 + 1)) - 1)) * 29)))) + (wrap64 ((wrap64 (Int.tdiv (wrap64 ((wrap64 (a8 + 1)) - 1)) (b8.length : Int))) * 53)))))] [(0, .box [(bV b8), .int .i64 (wrap64 (a8 + 1))])] rfl rfl rfl (Nd.mk (by decide) (nd_ H (fun c H => ?_)))))))))))))))))
  cases H
  exact fT [some 0] [] ((fV rfl)) ⟨rfl, trivial⟩ rfl
theorem bS.ac {b8 : List Int} {a8 : Int} {l1 : List ByteArray} {r : ByteArray × (List Int) × Int} (H : bS.f b8 a8 l1 = some r) : cI Tryz.prog G 35 [.box [(bV b8), .int .i64 a8]] [.bp 0 0, (aM l1)] [.box [(bV r.2.1), .int .i64 r.2.2]] (.str r.1) := by
  refine bO tok hP Tryz.func35 rfl (by kernel_rfl) [.tmp 4] rfl (by kernel_rfl) (Nat.le_of_ble_eq_true rfl) .n rfl ?_
  unfold bS.f at H
  revert H; refine aN (fun t22 A H => (cM [0] (aW.ac A) ⟨rfl, trivial⟩ rfl rfl rfl rfl rfl rfl rfl rfl (nd_ H (fun c H => (nd_ H (fun c H => (El.mk (aV _ _ nf_ nf_) ?_)))))))
  cases H
  exact fT [some 0] [] ((fV rfl)) ⟨rfl, trivial⟩ rfl
theorem fO.ac {a0 : Int} {a1 : Int} {a2 : Int} {r : Bool} (H : fO.f a0 a1 a2 = some r) : cI Tryz.prog G 54 [] [.int .i64 a0, .int .i64 a1, .int .i64 a2] [] (.bool r) := by
  refine bO tok hP Tryz.func54 rfl (by kernel_rfl) [.tmp 6] rfl (by kernel_rfl) (Nat.le_of_ble_eq_true rfl) (.l .n (.c .n .n)) rfl ?_
  unfold fO.f at H
  refine bJ H (fun c H => ?_) (fun c H => ?_)
  refine Br.t ft_ (Br.t ft_ (Br.t ft_ (cu 80 [(6, .bool (decide (a0 ≤ a2)))] [] rfl rfl rfl ?_)))
  cases H
  exact rz rfl
  refine Br.f ff_ (Br.f ff_ (Br.f ff_ (cu 80 [(6, .bool false)] [] rfl rfl rfl ?_)))
  cases H
  exact rz rfl
theorem aZ.l0_lp {F : (Exit → St → Prop) → St → Prop} {hv : List Tmp} {Q : Exit → St → Prop} {σ : St} {r : Bool} {k : Nat} {a0 : ByteArray} {x3 : Int} (H : aZ.l0 k a0 x3 = some r) (rn : List (Option Nat)) (h1 : cG σ σ [] [(3, .int .i64 x3)] [] [] rn)
    (h2 : ∀ (k0 : Nat) (x3 : Int), k0 < k + 1 → aZ.l0 k0 a0 x3 = some r → dL σ hv [] [(3, .int .i64 x3)] [] [] (F (fun e σ' => match e with | .normal => ∃ (y : Nat × Int) (rn : List (Option Nat)), (aZ.l0 y.1 a0 y.2 = some r ∧ y.1 < k + 1) ∧ y.1 < k0 ∧ cG σ σ' [] [(3, .int .i64 y.2)] [] [] rn | e => Q e σ'))) : Lp F hv Q σ := by
  unfold Lp
  refine ⟨Nat × Int, fun x => aZ.l0 x.1 a0 x.2 = some r ∧ x.1 < k + 1, fun x => x.1, [], fun x => [(3, .int .i64 x.2)], fun x => [], fun x => [], ⟨(k, x3), rn, ⟨H, Nat.lt_succ_self _⟩, h1⟩, ?_⟩
  rintro ⟨k, x3⟩ ⟨H, hk⟩
  exact h2 k x3 hk H
theorem aZ.ac {k : Nat} {a0 : ByteArray} {r : Bool} (H : aZ.f k a0 = some r) : cI Tryz.prog G 51 [] [.str a0] [] (.bool r) := by
  refine bO tok hP Tryz.func51 rfl (by kernel_rfl) [.tmp 2] rfl (by kernel_rfl) (Nat.le_of_ble_eq_true rfl) (.l .n (.l .n (.l (.l .n (.l (.c .n .n) (.l (.l .n (.c .n .n)) .n))) .n))) rfl ?_
  unfold aZ.f at H
  revert H; refine aN (fun Z6 A H => (cmk (fO.ac A) rfl rfl (dU H (fun c H => ?_) (fun c H => ?_))))
  refine aZ.l0_lp (a0 := a0) (k := k) H [] (fq rfl rfl fi_ rfl) ?_
  intro k x3 hk H; rcases k with _ | k; exact bC H; rw [aZ.l0] at H
  refine cu 80 [(0, .str a0), (3, .int .i64 x3), (12, .bool (decide (x3 < (a0.size : Int))))] [] rfl rfl rfl (bJ H (fun c H => ?_) (fun c H => ?_))
  refine nd_ H (fun c H => (Nd.mk nf_ (bJ H (fun c H => ?_) (fun c H => ?_))))
  refine Br.t ft_ (Br.t ft_ (bJ H (fun c H => ?_) (fun c H => ?_)))
  refine Br.t ft_ (Br.t ft_ (Br.t ft_ (Br.t ft_ (Br.t rfl (Br.t rfl (Br.t rfl (cu 264 [(0, .str a0), (3, .int .i64 x3), (36, .bool (!true))] [] rfl rfl rfl (Br.f rfl (⟨(k, wrap64 (x3 + 1)), [], ⟨H, lt_⟩, lt_, (fq rfl rfl fi_ rfl)⟩)))))))))
  refine Br.f ff_ (Br.f ff_ (bJ H (fun c H => ?_) (fun c H => ?_)))
  refine Br.t ft_ (Br.f ff_ (Br.t ft_ (Br.f ff_ (bJ H (fun c H => ?_) (fun c H => ?_)))))
  refine Br.t ft_ (Br.t ft_ (cu 264 [(0, .str a0), (3, .int .i64 x3), (36, .bool (!true))] [] rfl rfl rfl (Br.f rfl (⟨(k, wrap64 (x3 + 1)), [], ⟨H, lt_⟩, lt_, (fq rfl rfl fi_ rfl)⟩))))
  refine Br.f ff_ (Br.f ff_ (cu 264 [(0, .str a0), (3, .int .i64 x3), (36, .bool (!(decide ((bt a0 x3) = 45))))] [] rfl rfl rfl (iS H (fun c H => ?_) (fun c H => ?_))))
  exact ⟨(k, wrap64 (x3 + 1)), [], ⟨H, lt_⟩, lt_, (fq rfl rfl fi_ rfl)⟩
  cases H
  exact rz rfl
  refine Br.f ff_ (Br.f ff_ (Br.f ff_ (Br.f ff_ (Br.f rfl (Br.f rfl (Br.f rfl (cu 264 [(0, .str a0), (3, .int .i64 x3), (36, .bool (!(decide ((bt a0 x3) = 45))))] [] rfl rfl rfl (iS H (fun c H => ?_) (fun c H => ?_)))))))))
  exact ⟨(k, wrap64 (x3 + 1)), [], ⟨H, lt_⟩, lt_, (fq rfl rfl fi_ rfl)⟩
  cases H
  exact rz rfl
  refine Br.f ff_ (Br.f ff_ (Br.f rfl (Br.f rfl (Br.f rfl (bJ H (fun c H => ?_) (fun c H => ?_))))))
  refine Br.t ft_ (Br.f rfl (Br.t ft_ (Br.f rfl (bJ H (fun c H => ?_) (fun c H => ?_)))))
  refine Br.t ft_ (Br.t ft_ (cu 264 [(0, .str a0), (3, .int .i64 x3), (36, .bool (!true))] [] rfl rfl rfl (Br.f rfl (⟨(k, wrap64 (x3 + 1)), [], ⟨H, lt_⟩, lt_, (fq rfl rfl fi_ rfl)⟩))))
  refine Br.f ff_ (Br.f ff_ (cu 264 [(0, .str a0), (3, .int .i64 x3), (36, .bool (!(decide ((bt a0 x3) = 45))))] [] rfl rfl rfl (iS H (fun c H => ?_) (fun c H => ?_))))
  exact ⟨(k, wrap64 (x3 + 1)), [], ⟨H, lt_⟩, lt_, (fq rfl rfl fi_ rfl)⟩
  cases H
  exact rz rfl
  refine Br.f ff_ (Br.f rfl (Br.f ff_ (Br.f rfl (Br.f rfl (Br.f rfl (Br.f rfl (cu 264 [(0, .str a0), (3, .int .i64 x3), (36, .bool (!(decide ((bt a0 x3) = 45))))] [] rfl rfl rfl (iS H (fun c H => ?_) (fun c H => ?_)))))))))
  exact ⟨(k, wrap64 (x3 + 1)), [], ⟨H, lt_⟩, lt_, (fq rfl rfl fi_ rfl)⟩
  cases H
  exact rz rfl
  cases H
  exact rz rfl
  cases H
  exact rz rfl
theorem dR.l0_lp {F : (Exit → St → Prop) → St → Prop} {hv : List Tmp} {Q : Exit → St → Prop} {σ : St} {r : Bool} {k : Nat} {l0 : List ByteArray} {a1 : ByteArray} {x5 : Int} (H : dR.l0 k l0 a1 x5 = some r) (rn : List (Option Nat)) (h1 : cG σ σ [] [(5, .int .i64 x5)] [] [] rn)
    (h2 : ∀ (k0 : Nat) (x5 : Int), k0 < k + 1 → dR.l0 k0 l0 a1 x5 = some r → dL σ hv [] [(5, .int .i64 x5)] [] [] (F (fun e σ' => match e with | .normal => ∃ (y : Nat × Int) (rn : List (Option Nat)), (dR.l0 y.1 l0 a1 y.2 = some r ∧ y.1 < k + 1) ∧ y.1 < k0 ∧ cG σ σ' [] [(5, .int .i64 y.2)] [] [] rn | e => Q e σ'))) : Lp F hv Q σ := by
  unfold Lp
  refine ⟨Nat × Int, fun x => dR.l0 x.1 l0 a1 x.2 = some r ∧ x.1 < k + 1, fun x => x.1, [], fun x => [(5, .int .i64 x.2)], fun x => [], fun x => [], ⟨(k, x5), rn, ⟨H, Nat.lt_succ_self _⟩, h1⟩, ?_⟩
  rintro ⟨k, x5⟩ ⟨H, hk⟩
  exact h2 k x5 hk H
theorem dR.ac {k : Nat} {l0 : List ByteArray} {a1 : ByteArray} {r : Bool} (H : dR.f k l0 a1 = some r) : cI Tryz.prog G 52 [] [(aM l0), .str a1] [] (.bool r) := by
  refine bO tok hP Tryz.func52 rfl (by kernel_rfl) [.tmp 4] rfl (by kernel_rfl) (Nat.le_of_ble_eq_true rfl) (.l .n (.l (.l .n (.l .n (.l (.c .n .n) .n))) .n)) rfl ?_
  unfold dR.f at H
  refine dR.l0_lp (l0 := l0) (a1 := a1) (k := k) H [] (fq rfl rfl fi_ rfl) ?_
  intro k x5 hk H; rcases k with _ | k; exact bC H; rw [dR.l0] at H
  refine bJ H (fun c H => ?_) (fun c H => ?_)
  refine nd_ H (fun c H => (Nd.mk nf_ (El.mk (aV _ _ nf_ nf_) (cu 96 [(0, (aM l0)), (1, .str a1), (5, .int .i64 x5), (17, .bool (decide ((aP ByteArray.empty l0 x5).toList = a1.toList)))] [] rfl rfl rfl (bJ H (fun c H => ?_) (fun c H => ?_))))))
  cases H
  exact rz rfl
  exact ⟨(k, wrap64 (x5 + 1)), [], ⟨H, lt_⟩, lt_, (fq rfl rfl fi_ rfl)⟩
  cases H
  exact rz rfl
theorem dD.l0_lp {F : (Exit → St → Prop) → St → Prop} {hv : List Tmp} {Q : Exit → St → Prop} {σ : St} {r : (List ByteArray) × (List aD) × (List aB) × (List aA) × Int} {k : Nat} {b8 : List ByteArray} {a8 : List aD} {a9 : List aB} {a7 : List aA} {l1 : List ByteArray} {x6 : Int} (H : dD.l0 k b8 a8 a9 a7 l1 x6 = some r) (rn : List (Option Nat)) (h1 : cG σ σ [] [(6, .int .i64 x6)] [] [] rn)
    (h2 : ∀ (k0 : Nat) (x6 : Int), k0 < k + 1 → dD.l0 k0 b8 a8 a9 a7 l1 x6 = some r → dL σ hv [] [(6, .int .i64 x6)] [] [] (F (fun e σ' => match e with | .normal => ∃ (y : Nat × Int) (rn : List (Option Nat)), (dD.l0 y.1 b8 a8 a9 a7 l1 y.2 = some r ∧ y.1 < k + 1) ∧ y.1 < k0 ∧ cG σ σ' [] [(6, .int .i64 y.2)] [] [] rn | e => Q e σ'))) : Lp F hv Q σ := by
  unfold Lp
  refine ⟨Nat × Int, fun x => dD.l0 x.1 b8 a8 a9 a7 l1 x.2 = some r ∧ x.1 < k + 1, fun x => x.1, [], fun x => [(6, .int .i64 x.2)], fun x => [], fun x => [], ⟨(k, x6), rn, ⟨H, Nat.lt_succ_self _⟩, h1⟩, ?_⟩
  rintro ⟨k, x6⟩ ⟨H, hk⟩
  exact h2 k x6 hk H
theorem dD.ac {k : Nat} {b8 : List ByteArray} {a8 : List aD} {a9 : List aB} {a7 : List aA} {l1 : List ByteArray} {r : (List ByteArray) × (List aD) × (List aB) × (List aA) × Int} (H : dD.f k b8 a8 a9 a7 l1 = some r) : cI Tryz.prog G 66 [] [.agg [(aM b8), (aF a8), (aC a9), (aE a7)], (aM l1)] [] (.tup [.agg [(aM r.1), (aF r.2.1), (aC r.2.2.1), (aE r.2.2.2.1)], .int .i64 r.2.2.2.2]) := by
  refine bO tok hP Tryz.func66 rfl (by kernel_rfl) [.cell 4 28, .tmp 5] rfl (by kernel_rfl) (Nat.le_of_ble_eq_true rfl) (.l .n (.l (.c .n (.l (.c .n .n) .n)) (.l (.c .n .n) (.l .n (.l .n (.l (.l (.c .n .n) .n) (.c .n .n))))))) rfl ?_
  unfold dD.f at H
  refine iS H (fun c H => ?_) (fun c H => ?_)
  refine Br.f ff_ (Nd.mk (by decide) (nd_ H (fun c H => (El.mk (aV _ _ nf_ nf_) (Br.f ff_ (Br.f ff_ ?_))))))
  revert H; refine aN (fun Y6 A H => (cmk (aZ.ac A) rfl rfl (Br.f ff_ (Br.f ff_ (cu 104 [(1, (aM l1)), (2, .bp 0 0), (4, .bp 8 0), (16, .bool (!Y6))] [(0, .box [(aM b8), (aF a8), (aC a9), (aE a7)]), (8, .box [.nil, .nil, .nil, .nil])] rfl rfl rfl (dU H (fun c H => ?_) (fun c H => ?_)))))))
  refine Nd.mk (by decide) (Nd.mk nf_ (El.mk (aV _ _ nf_ nf_) ?_))
  revert H; refine aN (fun Y7 A H => (cmk (dR.ac A) rfl rfl (cu 152 [(1, (aM l1)), (2, .bp 0 0), (4, .bp 8 0), (23, .bool Y7)] [(0, .box [(aM b8), (aF a8), (aC a9), (aE a7)]), (8, .box [.nil, .nil, .nil, .nil])] rfl rfl rfl (kN H (fun c H => ?_) (fun c H => ?_)))))
  cases H
  exact rts rfl
  refine bJ H (fun c H => ?_) (fun c H => ?_)
  cases H
  exact rts rfl
  refine dD.l0_lp (b8 := b8) (a8 := a8) (a9 := a9) (a7 := a7) (l1 := l1) (k := k) H [] (fq rfl rfl fi_ rfl) ?_
  intro k x6 hk H; rcases k with _ | k; exact bC H; rw [dD.l0] at H
  refine bJ H (fun c H => ?_) (fun c H => ?_)
  refine Br.t ft_ (Br.t ft_ (Br.t ft_ (nd_ H (fun c H => (Nd.mk nf_ (El.mk (aV _ _ nf_ nf_) (Br.t ft_ (Br.t ft_ (Br.t ft_ (Nd.mk (by decide) (Nd.mk nf_ (El.mk (aV _ _ nf_ nf_) (Br.t ft_ (Br.t ft_ (Br.t ft_ (cu 320 [(1, (aM l1)), (2, .bp 0 0), (4, .bp 8 0), (6, .int .i64 x6), (45, .bool (Op.bytesLess (aP ByteArray.empty b8 x6).toList (aP ByteArray.empty l1 1).toList))] [(0, .box [(aM b8), (aF a8), (aC a9), (aE a7)]), (8, .box [.nil, .nil, .nil, .nil])] rfl rfl rfl (kN H (fun c H => ?_) (fun c H => ?_))))))))))))))))))
  exact ⟨(k, wrap64 (x6 + 1)), [], ⟨H, lt_⟩, lt_, (fq rfl rfl fi_ rfl)⟩
  refine Or.inl (Nd.mk nf_ (nd_ H (fun c H => (nd_ H (fun c H => (Nd.mk (by decide) (Nd.mk nf_ (El.mk (aV _ _ nf_ nf_) (Or.inl (nd_ H (fun c H => (Nd.mk nf_ (Nd.mk nf_ (nd_ H (fun c H => (jD 464 [(2, .bp 0 0), (4, .bp 8 0)] [(0, .box [.own 440 (0 + (x6).toNat + 1 + (b8.length - (x6).toNat)), (aF a8), (aC a9), (aE a7)]), (8, .box [.nil, .nil, .nil, .nil]), (440, .arr 9 1 ((((([] : List ByteArray) ++ (b8.take (x6).toNat)) ++ ([aP ByteArray.empty l1 1] : List ByteArray)) ++ (b8.drop (x6).toNat)).map aR))] rfl ⟨.inl rfl, ⟨.inl rfl, trivial⟩⟩ ⟨rfl, ⟨rfl, ⟨fm_, trivial⟩⟩⟩ ?_))))))))))))))))
  cases H
  exact eT [440] (bM (fS (bF (jJ rfl lm_ lm_ rfl) (bF (fZ rfl) (bF (fZ rfl) (bF (fZ rfl) (fW)))))) (bM (fV rfl) (eB)))
  refine Br.f ff_ (Br.f ff_ (Br.f ff_ (Br.f ff_ (Br.f ff_ (Br.f ff_ (Br.f ff_ (Br.f ff_ (Br.f ff_ (cu 320 [(1, (aM l1)), (2, .bp 0 0), (4, .bp 8 0), (6, .int .i64 x6), (45, .bool false)] [(0, .box [(aM b8), (aF a8), (aC a9), (aE a7)]), (8, .box [.nil, .nil, .nil, .nil])] rfl rfl rfl (Br.f rfl (Or.inl (nd_ H (fun c H => (nd_ H (fun c H => (nd_ H (fun c H => (Nd.mk (by decide) (Nd.mk nf_ (El.mk (aV _ _ nf_ nf_) (Or.inl (nd_ H (fun c H => (Nd.mk nf_ (Nd.mk nf_ (nd_ H (fun c H => (jD 464 [(2, .bp 0 0), (4, .bp 8 0)] [(0, .box [.own 440 (0 + (x6).toNat + 1 + (b8.length - (x6).toNat)), (aF a8), (aC a9), (aE a7)]), (8, .box [.nil, .nil, .nil, .nil]), (440, .arr 9 1 ((((([] : List ByteArray) ++ (b8.take (x6).toNat)) ++ ([aP ByteArray.empty l1 1] : List ByteArray)) ++ (b8.drop (x6).toNat)).map aR))] rfl ⟨.inl rfl, ⟨.inl rfl, trivial⟩⟩ ⟨rfl, ⟨rfl, ⟨fm_, trivial⟩⟩⟩ ?_))))))))))))))))))))))))))))
  cases H
  exact eT [440] (bM (fS (bF (jJ rfl lm_ lm_ rfl) (bF (fZ rfl) (bF (fZ rfl) (bF (fZ rfl) (fW)))))) (bM (fV rfl) (eB)))
  refine cu 128 [(4, .bp 8 0), (5, .int .i64 3)] [(8, .box [(aM b8), (aF a8), (aC a9), (aE a7)])] rfl rfl rfl ?_
  cases H
  exact rts rfl
  refine Br.t ft_ (Br.t ft_ (Br.t ft_ (Br.t ft_ (Br.t ft_ (cu 104 [(1, (aM l1)), (2, .bp 0 0), (4, .bp 8 0), (16, .bool true)] [(0, .box [(aM b8), (aF a8), (aC a9), (aE a7)]), (8, .box [.nil, .nil, .nil, .nil])] rfl rfl rfl (Br.t rfl (cu 128 [(4, .bp 8 0), (5, .int .i64 3)] [(8, .box [(aM b8), (aF a8), (aC a9), (aE a7)])] rfl rfl rfl ?_)))))))
  cases H
  exact rts rfl
theorem dG.l0_lp {F : (Exit → St → Prop) → St → Prop} {hv : List Tmp} {Q : Exit → St → Prop} {σ : St} {r : Bool} {k : Nat} {a8 : List aD} {a1 : ByteArray} {a2 : ByteArray} {x7 : Int} (H : dG.l0 k a8 a1 a2 x7 = some r) (rn : List (Option Nat)) (h1 : cG σ σ [] [(7, .int .i64 x7)] [] [] rn)
    (h2 : ∀ (k0 : Nat) (x7 : Int), k0 < k + 1 → dG.l0 k0 a8 a1 a2 x7 = some r → dL σ hv [] [(7, .int .i64 x7)] [] [] (F (fun e σ' => match e with | .normal => ∃ (y : Nat × Int) (rn : List (Option Nat)), (dG.l0 y.1 a8 a1 a2 y.2 = some r ∧ y.1 < k + 1) ∧ y.1 < k0 ∧ cG σ σ' [] [(7, .int .i64 y.2)] [] [] rn | e => Q e σ'))) : Lp F hv Q σ := by
  unfold Lp
  refine ⟨Nat × Int, fun x => dG.l0 x.1 a8 a1 a2 x.2 = some r ∧ x.1 < k + 1, fun x => x.1, [], fun x => [(7, .int .i64 x.2)], fun x => [], fun x => [], ⟨(k, x7), rn, ⟨H, Nat.lt_succ_self _⟩, h1⟩, ?_⟩
  rintro ⟨k, x7⟩ ⟨H, hk⟩
  exact h2 k x7 hk H
theorem dG.ac {k : Nat} {b8 : List ByteArray} {a8 : List aD} {a9 : List aB} {a7 : List aA} {a1 : ByteArray} {a2 : ByteArray} {r : Bool} (H : dG.f k b8 a8 a9 a7 a1 a2 = some r) : cI Tryz.prog G 37 [] [.agg [(aM b8), (aF a8), (aC a9), (aE a7)], .str a1, .str a2] [] (.bool r) := by
  refine bO tok hP Tryz.func37 rfl (by kernel_rfl) [.tmp 6] rfl (by kernel_rfl) (Nat.le_of_ble_eq_true rfl) (.l .n (.l (.l .n (.l .n (.l (.c .n (.l (.c .n .n) .n)) .n))) .n)) rfl ?_
  unfold dG.f at H
  refine dG.l0_lp (a8 := a8) (a1 := a1) (a2 := a2) (k := k) H [] (fq rfl rfl fi_ rfl) ?_
  intro k x7 hk H; rcases k with _ | k; exact bC H; rw [dG.l0] at H
  refine bJ H (fun c H => ?_) (fun c H => ?_)
  refine nd_ H (fun c H => (Nd.mk nf_ (El.mk (cA _ _ nf_ nf_) (bJ H (fun c H => ?_) (fun c H => ?_)))))
  refine Br.t ft_ (Br.t ft_ (Br.t ft_ (Nd.mk nf_ (Nd.mk nf_ (El.mk (cA _ _ nf_ nf_) (Br.t ft_ (Br.t ft_ (Br.t ft_ (Br.t ft_ (Br.t ft_ (bJ H (fun c H => ?_) (fun c H => ?_))))))))))))
  refine Br.t ft_ (Br.t ft_ (Br.t ft_ (Br.t ft_ (Br.t ft_ (Br.t ft_ (Br.t ft_ (Br.t ft_ (Br.t ft_ (Br.t ft_ (cu 368 [(1, .str a1), (2, .str a2), (3, .bp 0 0), (7, .int .i64 x7), (52, .bool true)] [(0, .box [(aM b8), (aF a8), (aC a9), (aE a7)])] rfl rfl rfl (Br.t rfl (cu 376 [(6, .bool true)] [] rfl rfl rfl ?_))))))))))))
  cases H
  exact rz rfl
  refine Br.f ff_ (Br.f ff_ (Br.f ff_ (Nd.mk nf_ (Nd.mk nf_ (El.mk (cA _ _ nf_ nf_) (Br.f ff_ (Br.f ff_ (Br.f ff_ (Br.f ff_ (Br.f ff_ (bJ H (fun c H => ?_) (fun c H => ?_))))))))))))
  refine Br.t ft_ (Br.t ft_ (Br.t ft_ (Nd.mk nf_ (Nd.mk nf_ (El.mk (cA _ _ nf_ nf_) (Br.t ft_ (Br.t ft_ (Br.t ft_ (Br.t ft_ (Br.f ff_ (Br.t ft_ (Br.f ff_ (cu 368 [(1, .str a1), (2, .str a2), (3, .bp 0 0), (7, .int .i64 x7), (52, .bool (decide (((aQ a8 x7).f1).toList = a1.toList)))] [(0, .box [(aM b8), (aF a8), (aC a9), (aE a7)])] rfl rfl rfl (bJ H (fun c H => ?_) (fun c H => ?_)))))))))))))))
  refine cu 376 [(6, .bool true)] [] rfl rfl rfl ?_
  cases H
  exact rz rfl
  exact ⟨(k, wrap64 (x7 + 1)), [], ⟨H, lt_⟩, lt_, (fq rfl rfl fi_ rfl)⟩
  refine Br.f ff_ (Br.f ff_ (Br.f ff_ (Br.f ff_ (Br.f ff_ (Br.f ff_ (Br.f ff_ (Br.f ff_ (Br.f ff_ (Br.f ff_ (cu 368 [(1, .str a1), (2, .str a2), (3, .bp 0 0), (7, .int .i64 x7), (52, .bool false)] [(0, .box [(aM b8), (aF a8), (aC a9), (aE a7)])] rfl rfl rfl (Br.f rfl (⟨(k, wrap64 (x7 + 1)), [], ⟨H, lt_⟩, lt_, (fq rfl rfl fi_ rfl)⟩))))))))))))
  refine Br.f ff_ (Br.f ff_ (Br.f ff_ (Br.f ff_ (Br.f ff_ (Br.f ff_ (Br.f ff_ (Br.f ff_ (Br.f rfl (Br.f rfl (Br.f rfl (Br.f rfl (Nd.mk nf_ (Nd.mk nf_ (El.mk (cA _ _ nf_ nf_) (Br.f rfl (Br.f rfl (Br.f rfl (Br.f rfl (Br.f rfl (bJ H (fun c H => ?_) (fun c H => ?_)))))))))))))))))))))
  refine Br.t ft_ (Br.t ft_ (Br.t ft_ (Nd.mk nf_ (Nd.mk nf_ (El.mk (cA _ _ nf_ nf_) (Br.t ft_ (Br.t ft_ (Br.t ft_ (Br.t ft_ (Br.f rfl (Br.t ft_ (Br.f rfl (cu 368 [(1, .str a1), (2, .str a2), (3, .bp 0 0), (7, .int .i64 x7), (52, .bool (decide (((aQ a8 x7).f1).toList = a1.toList)))] [(0, .box [(aM b8), (aF a8), (aC a9), (aE a7)])] rfl rfl rfl (bJ H (fun c H => ?_) (fun c H => ?_)))))))))))))))
  refine cu 376 [(6, .bool true)] [] rfl rfl rfl ?_
  cases H
  exact rz rfl
  exact ⟨(k, wrap64 (x7 + 1)), [], ⟨H, lt_⟩, lt_, (fq rfl rfl fi_ rfl)⟩
  refine Br.f ff_ (Br.f ff_ (Br.f ff_ (Br.f ff_ (Br.f ff_ (Br.f ff_ (Br.f ff_ (Br.f rfl (Br.f ff_ (Br.f rfl (cu 368 [(1, .str a1), (2, .str a2), (3, .bp 0 0), (7, .int .i64 x7), (52, .bool false)] [(0, .box [(aM b8), (aF a8), (aC a9), (aE a7)])] rfl rfl rfl (Br.f rfl (⟨(k, wrap64 (x7 + 1)), [], ⟨H, lt_⟩, lt_, (fq rfl rfl fi_ rfl)⟩))))))))))))
  cases H
  exact rz rfl
theorem fK.ac {b8 : ByteArray} {a8 : ByteArray} {D7 : ByteArray} {w6 : ByteArray} {r : Bool} (H : fK.f b8 a8 D7 w6 = some r) : cI Tryz.prog G 53 [] [.agg [.str b8, .str a8], .agg [.str D7, .str w6]] [] (.bool r) := by
  refine bO tok hP Tryz.func53 rfl (by kernel_rfl) [.tmp 4] rfl (by kernel_rfl) (Nat.le_of_ble_eq_true rfl) (.l .n (.c .n .n)) rfl ?_
  unfold fK.f at H
  refine kN H (fun c H => ?_) (fun c H => ?_)
  refine Br.t ft_ (Br.t ft_ (Br.t ft_ (Br.t ft_ (Br.t ft_ (Br.t ft_ (Br.t ft_ (cu 184 [(4, .bool true)] [] rfl rfl rfl ?_)))))))
  cases H
  exact rz rfl
  refine Br.f ff_ (Br.f ff_ (Br.f ff_ (Br.f ff_ (Br.f ff_ (bJ H (fun c H => ?_) (fun c H => ?_))))))
  refine Br.t ft_ (Br.t ft_ (Br.t ft_ (Br.t ft_ (Br.f ff_ (Br.t ft_ (Br.f ff_ (cu 184 [(4, .bool (Op.bytesLess a8.toList w6.toList))] [] rfl rfl rfl ?_)))))))
  cases H
  exact rz rfl
  refine Br.f ff_ (Br.f ff_ (Br.f ff_ (Br.f ff_ (Br.f ff_ (Br.f ff_ (Br.f ff_ (cu 184 [(4, .bool false)] [] rfl rfl rfl ?_)))))))
  cases H
  exact rz rfl
theorem cD.l0_lp {F : (Exit → St → Prop) → St → Prop} {hv : List Tmp} {Q : Exit → St → Prop} {σ : St} {r : (List ByteArray) × (List aD) × (List aB) × (List aA) × Int} {k : Nat} {b8 : List ByteArray} {a8 : List aD} {a9 : List aB} {a7 : List aA} {l1 : List ByteArray} {x7 : Int} (H : cD.l0 k b8 a8 a9 a7 l1 x7 = some r) (rn : List (Option Nat)) (h1 : cG σ σ [] [(7, .int .i64 x7)] [] [] rn)
    (h2 : ∀ (k0 : Nat) (x7 : Int), k0 < k + 1 → cD.l0 k0 b8 a8 a9 a7 l1 x7 = some r → dL σ hv [] [(7, .int .i64 x7)] [] [] (F (fun e σ' => match e with | .normal => ∃ (y : Nat × Int) (rn : List (Option Nat)), (cD.l0 y.1 b8 a8 a9 a7 l1 y.2 = some r ∧ y.1 < k + 1) ∧ y.1 < k0 ∧ cG σ σ' [] [(7, .int .i64 y.2)] [] [] rn | e => Q e σ'))) : Lp F hv Q σ := by
  unfold Lp
  refine ⟨Nat × Int, fun x => cD.l0 x.1 b8 a8 a9 a7 l1 x.2 = some r ∧ x.1 < k + 1, fun x => x.1, [], fun x => [(7, .int .i64 x.2)], fun x => [], fun x => [], ⟨(k, x7), rn, ⟨H, Nat.lt_succ_self _⟩, h1⟩, ?_⟩
  rintro ⟨k, x7⟩ ⟨H, hk⟩
  exact h2 k x7 hk H
theorem cD.l1_lp {F : (Exit → St → Prop) → St → Prop} {hv : List Tmp} {Q : Exit → St → Prop} {σ : St} {r : (List ByteArray) × (List aD) × (List aB) × (List aA) × Int} {k : Nat} {b8 : List ByteArray} {a8 : List aD} {a9 : List aB} {a7 : List aA} {l1 : List ByteArray} {j9 : Int} (H : cD.l1 k b8 a8 a9 a7 l1 j9 = some r) (rn : List (Option Nat)) (h1 : cG σ σ [] [(7, .int .i64 j9)] [] [] rn)
    (h2 : ∀ (k0 : Nat) (j9 : Int), k0 < k + 1 → cD.l1 k0 b8 a8 a9 a7 l1 j9 = some r → dL σ hv [] [(7, .int .i64 j9)] [] [] (F (fun e σ' => match e with | .normal => ∃ (y : Nat × Int) (rn : List (Option Nat)), (cD.l1 y.1 b8 a8 a9 a7 l1 y.2 = some r ∧ y.1 < k + 1) ∧ y.1 < k0 ∧ cG σ σ' [] [(7, .int .i64 y.2)] [] [] rn | e => Q e σ'))) : Lp F hv Q σ := by
  unfold Lp
  refine ⟨Nat × Int, fun x => cD.l1 x.1 b8 a8 a9 a7 l1 x.2 = some r ∧ x.1 < k + 1, fun x => x.1, [], fun x => [(7, .int .i64 x.2)], fun x => [], fun x => [], ⟨(k, j9), rn, ⟨H, Nat.lt_succ_self _⟩, h1⟩, ?_⟩
  rintro ⟨k, j9⟩ ⟨H, hk⟩
  exact h2 k j9 hk H
theorem cD.ac {k : Nat} {b8 : List ByteArray} {a8 : List aD} {a9 : List aB} {a7 : List aA} {l1 : List ByteArray} {r : (List ByteArray) × (List aD) × (List aB) × (List aA) × Int} (H : cD.f k b8 a8 a9 a7 l1 = some r) : cI Tryz.prog G 67 [] [.agg [(aM b8), (aF a8), (aC a9), (aE a7)], (aM l1)] [] (.tup [.agg [(aM r.1), (aF r.2.1), (aC r.2.2.1), (aE r.2.2.2.1)], .int .i64 r.2.2.2.2]) := by
  refine bO tok hP Tryz.func67 rfl (by kernel_rfl) [.cell 4 28, .tmp 5] rfl (by kernel_rfl) (Nat.le_of_ble_eq_true rfl) (.l .n (.l (.c .n (.l (.c .n .n) .n)) (.l (.c .n .n) (.l (.c .n (.l (.c .n .n) .n)) (.l (.c .n .n) (.l .n (.l (.c .n .n) (.l .n (.l (.l (.c .n .n) .n) (.c .n .n)))))))))) rfl ?_
  unfold cD.f at H
  refine iS H (fun c H => ?_) (fun c H => ?_)
  refine Br.f ff_ (Nd.mk (by decide) (nd_ H (fun c H => (El.mk (aV _ _ nf_ nf_) (Br.f ff_ (Br.f ff_ ?_))))))
  revert H; refine aN (fun Z7 A H => (cmk (aZ.ac A) rfl rfl (Br.f ff_ (Br.f ff_ (dU H (fun c H => ?_) (fun c H => ?_))))))
  refine Br.f ff_ (Nd.mk (by decide) (nd_ H (fun c H => (El.mk (aV _ _ nf_ nf_) (Br.f ff_ (Br.f ff_ ?_))))))
  revert H; refine aN (fun Z8 A H => (cmk (aZ.ac A) rfl rfl (Br.f ff_ (Br.f ff_ (dU H (fun c H => ?_) (fun c H => ?_))))))
  refine Br.f ff_ (Nd.mk (by decide) (Nd.mk nf_ (El.mk (aV _ _ nf_ nf_) (Br.f ff_ (Br.f ff_ (Br.f ff_ (Nd.mk (by decide) (Nd.mk nf_ (El.mk (aV _ _ nf_ nf_) (Br.f ff_ (Br.f ff_ (Br.f ff_ (cu 232 [(1, (aM l1)), (2, .bp 0 0), (4, .bp 8 0), (33, .bool (decide ((aP ByteArray.empty l1 1).toList = (aP ByteArray.empty l1 2).toList)))] [(0, .box [(aM b8), (aF a8), (aC a9), (aE a7)]), (8, .box [.nil, .nil, .nil, .nil])] rfl rfl rfl (bJ H (fun c H => ?_) (fun c H => ?_)))))))))))))))
  refine cu 256 [(4, .bp 8 0), (5, .int .i64 3)] [(8, .box [(aM b8), (aF a8), (aC a9), (aE a7)])] rfl rfl rfl ?_
  cases H
  exact rts rfl
  refine Nd.mk (by decide) (Nd.mk nf_ (El.mk (aV _ _ nf_ nf_) (Nd.mk (by decide) (Nd.mk nf_ (El.mk (aV _ _ nf_ nf_) ?_)))))
  revert H; refine aN (fun Z0 A H => (cmk (dG.ac A) rfl rfl (cu 296 [(1, (aM l1)), (2, .bp 0 0), (4, .bp 8 0), (42, .bool Z0)] [(0, .box [(aM b8), (aF a8), (aC a9), (aE a7)]), (8, .box [.nil, .nil, .nil, .nil])] rfl rfl rfl (kN H (fun c H => ?_) (fun c H => ?_)))))
  cases H
  exact rts rfl
  refine Nd.mk (by decide) (Nd.mk nf_ (El.mk (aV _ _ nf_ nf_) ?_))
  revert H; refine aN (fun Z9 A H => (cmk (dR.ac A) rfl rfl (dU H (fun c H => ?_) (fun c H => ?_))))
  refine Br.f ff_ (Br.f ff_ (Br.f ff_ (Nd.mk (by decide) (Nd.mk nf_ (El.mk (aV _ _ nf_ nf_) (Br.f ff_ (Br.f ff_ ?_)))))))
  revert H; refine aN (fun Z1 A H => (cmk (dR.ac A) rfl rfl (Br.f ff_ (Br.f ff_ (cu 424 [(1, (aM l1)), (2, .bp 0 0), (4, .bp 8 0), (59, .bool (!Z1))] [(0, .box [(aM b8), (aF a8), (aC a9), (aE a7)]), (8, .box [.nil, .nil, .nil, .nil])] rfl rfl rfl (dU H (fun c H => ?_) (fun c H => ?_)))))))
  refine cu 456 [(1, (aM l1)), (2, .bp 0 0), (4, .bp 8 0), (64, .bool (decide ((a8.length : Int) ≥ 12)))] [(0, .box [(aM b8), (aF a8), (aC a9), (aE a7)]), (8, .box [.nil, .nil, .nil, .nil])] rfl rfl rfl (bJ H (fun c H => ?_) (fun c H => ?_))
  cases H
  exact rts rfl
  refine Nd.mk (by decide) (Nd.mk nf_ (El.mk (aV _ _ nf_ nf_) (Nd.mk (by decide) (Nd.mk nf_ (El.mk (aV _ _ nf_ nf_) (cu 568 [(1, (aM l1)), (2, .bp 0 0), (4, .bp 8 0), (6, .bp 512 0), (77, .bool (Op.bytesLess (aP ByteArray.empty l1 2).toList (aP ByteArray.empty l1 1).toList))] [(0, .box [(aM b8), (aF a8), (aC a9), (aE a7)]), (8, .box [.nil, .nil, .nil, .nil]), (512, .box [.str (aP ByteArray.empty l1 1), .str (aP ByteArray.empty l1 2)])] rfl rfl rfl (kN H (fun c H => ?_) (fun c H => ?_))))))))
  refine Nd.mk (by decide) (Nd.mk nf_ (El.mk (aV _ _ nf_ nf_) (Nd.mk (by decide) (Nd.mk nf_ (El.mk (aV _ _ nf_ nf_) (cD.l0_lp (b8 := b8) (a8 := a8) (a9 := a9) (a7 := a7) (l1 := l1) (k := k) H [] (fq rfl rfl fi_ rfl) ?_))))))
  intro k x7 hk H; rcases k with _ | k; exact bC H; rw [cD.l0] at H
  refine bJ H (fun c H => ?_) (fun c H => ?_)
  refine Br.t ft_ (Br.t ft_ (Br.t ft_ (nd_ H (fun c H => (Nd.mk nf_ (El.mk (cA _ _ nf_ nf_) (Br.t ft_ (Br.t ft_ (Br.t ft_ ?_)))))))))
  revert H; refine aN (fun Y8 A H => (cmk (fK.ac A) rfl rfl (Br.t ft_ (cu 752 [(2, .bp 0 0), (4, .bp 8 0), (6, .bp 512 0), (7, .int .i64 x7), (98, .bool Y8)] [(0, .box [(aM b8), (aF a8), (aC a9), (aE a7)]), (8, .box [.nil, .nil, .nil, .nil]), (512, .box [.str (aP ByteArray.empty l1 2), .str (aP ByteArray.empty l1 1)])] rfl rfl rfl (kN H (fun c H => ?_) (fun c H => ?_))))))
  exact ⟨(k, wrap64 (x7 + 1)), [], ⟨H, lt_⟩, lt_, (fq rfl rfl fi_ rfl)⟩
  refine Or.inl (Nd.mk nf_ (nd_ H (fun c H => (nd_ H (fun c H => (Or.inl (nd_ H (fun c H => (Nd.mk nf_ (Nd.mk nf_ (nd_ H (fun c H => (jD 880 [(2, .bp 0 0), (4, .bp 8 0)] [(0, .box [(aM b8), .own 856 (0 + (x7).toNat + 1 + (a8.length - (x7).toNat)), (aC a9), (aE a7)]), (8, .box [.nil, .nil, .nil, .nil]), (856, .arr 47 2 ((((([] : List aD) ++ (a8.take (x7).toNat)) ++ ([(⟨aP ByteArray.empty l1 2, aP ByteArray.empty l1 1⟩ : aD)] : List aD)) ++ (a8.drop (x7).toNat)).map aK))] rfl ⟨.inl rfl, ⟨.inl rfl, trivial⟩⟩ ⟨rfl, ⟨rfl, ⟨fm_, trivial⟩⟩⟩ ?_)))))))))))))
  cases H
  exact eT [856] (bM (fS (bF (fZ rfl) (bF (jJ rfl lm_ lm_ rfl) (bF (fZ rfl) (bF (fZ rfl) (fW)))))) (bM (fV rfl) (eB)))
  refine Br.f ff_ (Br.f ff_ (Br.f ff_ (Br.f ff_ (Br.f ff_ (Br.f ff_ (Br.f ff_ (cu 752 [(2, .bp 0 0), (4, .bp 8 0), (6, .bp 512 0), (7, .int .i64 x7), (98, .bool false)] [(0, .box [(aM b8), (aF a8), (aC a9), (aE a7)]), (8, .box [.nil, .nil, .nil, .nil]), (512, .box [.str (aP ByteArray.empty l1 2), .str (aP ByteArray.empty l1 1)])] rfl rfl rfl (Br.f rfl (Or.inl (nd_ H (fun c H => (nd_ H (fun c H => (nd_ H (fun c H => (Or.inl (nd_ H (fun c H => (Nd.mk nf_ (Nd.mk nf_ (nd_ H (fun c H => (jD 880 [(2, .bp 0 0), (4, .bp 8 0)] [(0, .box [(aM b8), .own 856 (0 + (x7).toNat + 1 + (a8.length - (x7).toNat)), (aC a9), (aE a7)]), (8, .box [.nil, .nil, .nil, .nil]), (856, .arr 47 2 ((((([] : List aD) ++ (a8.take (x7).toNat)) ++ ([(⟨aP ByteArray.empty l1 2, aP ByteArray.empty l1 1⟩ : aD)] : List aD)) ++ (a8.drop (x7).toNat)).map aK))] rfl ⟨.inl rfl, ⟨.inl rfl, trivial⟩⟩ ⟨rfl, ⟨rfl, ⟨fm_, trivial⟩⟩⟩ ?_)))))))))))))))))))))))
  cases H
  exact eT [856] (bM (fS (bF (fZ rfl) (bF (jJ rfl lm_ lm_ rfl) (bF (fZ rfl) (bF (fZ rfl) (fW)))))) (bM (fV rfl) (eB)))
  refine cD.l1_lp (b8 := b8) (a8 := a8) (a9 := a9) (a7 := a7) (l1 := l1) (k := k) H [] (fq rfl rfl fi_ rfl) ?_
  intro k j9 hk H; rcases k with _ | k; exact bC H; rw [cD.l1] at H
  refine bJ H (fun c H => ?_) (fun c H => ?_)
  refine Br.t ft_ (Br.t ft_ (Br.t ft_ (nd_ H (fun c H => (Nd.mk nf_ (El.mk (cA _ _ nf_ nf_) (Br.t ft_ (Br.t ft_ (Br.t ft_ ?_)))))))))
  revert H; refine aN (fun Y9 A H => (cmk (fK.ac A) rfl rfl (Br.t ft_ (cu 688 [(2, .bp 0 0), (4, .bp 8 0), (6, .bp 512 0), (7, .int .i64 j9), (98, .bool Y9)] [(0, .box [(aM b8), (aF a8), (aC a9), (aE a7)]), (8, .box [.nil, .nil, .nil, .nil]), (512, .box [.str (aP ByteArray.empty l1 1), .str (aP ByteArray.empty l1 2)])] rfl rfl rfl (kN H (fun c H => ?_) (fun c H => ?_))))))
  exact ⟨(k, wrap64 (j9 + 1)), [], ⟨H, lt_⟩, lt_, (fq rfl rfl fi_ rfl)⟩
  refine Or.inl (Nd.mk nf_ (nd_ H (fun c H => (nd_ H (fun c H => (Or.inl (nd_ H (fun c H => (Nd.mk nf_ (Nd.mk nf_ (nd_ H (fun c H => (jD 816 [(2, .bp 0 0), (4, .bp 8 0)] [(0, .box [(aM b8), .own 792 (0 + (j9).toNat + 1 + (a8.length - (j9).toNat)), (aC a9), (aE a7)]), (8, .box [.nil, .nil, .nil, .nil]), (792, .arr 47 2 ((((([] : List aD) ++ (a8.take (j9).toNat)) ++ ([(⟨aP ByteArray.empty l1 1, aP ByteArray.empty l1 2⟩ : aD)] : List aD)) ++ (a8.drop (j9).toNat)).map aK))] rfl ⟨.inl rfl, ⟨.inl rfl, trivial⟩⟩ ⟨rfl, ⟨rfl, ⟨fm_, trivial⟩⟩⟩ ?_)))))))))))))
  cases H
  exact eT [792] (bM (fS (bF (fZ rfl) (bF (jJ rfl lm_ lm_ rfl) (bF (fZ rfl) (bF (fZ rfl) (fW)))))) (bM (fV rfl) (eB)))
  refine Br.f ff_ (Br.f ff_ (Br.f ff_ (Br.f ff_ (Br.f ff_ (Br.f ff_ (Br.f ff_ (cu 688 [(2, .bp 0 0), (4, .bp 8 0), (6, .bp 512 0), (7, .int .i64 j9), (98, .bool false)] [(0, .box [(aM b8), (aF a8), (aC a9), (aE a7)]), (8, .box [.nil, .nil, .nil, .nil]), (512, .box [.str (aP ByteArray.empty l1 1), .str (aP ByteArray.empty l1 2)])] rfl rfl rfl (Br.f rfl (Or.inl (nd_ H (fun c H => (nd_ H (fun c H => (nd_ H (fun c H => (Or.inl (nd_ H (fun c H => (Nd.mk nf_ (Nd.mk nf_ (nd_ H (fun c H => (jD 816 [(2, .bp 0 0), (4, .bp 8 0)] [(0, .box [(aM b8), .own 792 (0 + (j9).toNat + 1 + (a8.length - (j9).toNat)), (aC a9), (aE a7)]), (8, .box [.nil, .nil, .nil, .nil]), (792, .arr 47 2 ((((([] : List aD) ++ (a8.take (j9).toNat)) ++ ([(⟨aP ByteArray.empty l1 1, aP ByteArray.empty l1 2⟩ : aD)] : List aD)) ++ (a8.drop (j9).toNat)).map aK))] rfl ⟨.inl rfl, ⟨.inl rfl, trivial⟩⟩ ⟨rfl, ⟨rfl, ⟨fm_, trivial⟩⟩⟩ ?_)))))))))))))))))))))))
  cases H
  exact eT [792] (bM (fS (bF (fZ rfl) (bF (jJ rfl lm_ lm_ rfl) (bF (fZ rfl) (bF (fZ rfl) (fW)))))) (bM (fV rfl) (eB)))
  refine cu 448 [(4, .bp 8 0), (5, .int .i64 5)] [(8, .box [(aM b8), (aF a8), (aC a9), (aE a7)])] rfl rfl rfl ?_
  cases H
  exact rts rfl
  refine Br.t ft_ (Br.t ft_ (Br.t ft_ (Br.t ft_ (Br.t ft_ (Br.t ft_ (Br.t ft_ (cu 424 [(1, (aM l1)), (2, .bp 0 0), (4, .bp 8 0), (59, .bool true)] [(0, .box [(aM b8), (aF a8), (aC a9), (aE a7)]), (8, .box [.nil, .nil, .nil, .nil])] rfl rfl rfl (Br.t rfl (cu 448 [(4, .bp 8 0), (5, .int .i64 5)] [(8, .box [(aM b8), (aF a8), (aC a9), (aE a7)])] rfl rfl rfl ?_)))))))))
  cases H
  exact rts rfl
  refine Br.t ft_ (Br.t ft_ (Br.t ft_ (Br.t ft_ (Br.t ft_ (Br.t ft_ (Br.t ft_ (cu 232 [(1, (aM l1)), (2, .bp 0 0), (4, .bp 8 0), (33, .bool true)] [(0, .box [(aM b8), (aF a8), (aC a9), (aE a7)]), (8, .box [.nil, .nil, .nil, .nil])] rfl rfl rfl (Br.t rfl (cu 256 [(4, .bp 8 0), (5, .int .i64 3)] [(8, .box [(aM b8), (aF a8), (aC a9), (aE a7)])] rfl rfl rfl ?_)))))))))
  cases H
  exact rts rfl
  refine Br.t ft_ (Br.t ft_ (Br.t ft_ (Br.t ft_ (Br.t ft_ (Br.t rfl (Br.t rfl (Br.t rfl (Br.t rfl (Br.t rfl (Br.t rfl (Br.t rfl (Br.t rfl (cu 232 [(1, (aM l1)), (2, .bp 0 0), (4, .bp 8 0), (33, .bool true)] [(0, .box [(aM b8), (aF a8), (aC a9), (aE a7)]), (8, .box [.nil, .nil, .nil, .nil])] rfl rfl rfl (Br.t rfl (cu 256 [(4, .bp 8 0), (5, .int .i64 3)] [(8, .box [(aM b8), (aF a8), (aC a9), (aE a7)])] rfl rfl rfl ?_)))))))))))))))
  cases H
  exact rts rfl
  refine Br.t ft_ (Br.t ft_ (Br.t ft_ (Br.t ft_ (Br.t ft_ (Br.t rfl (Br.t rfl (Br.t rfl (Br.t rfl (Br.t rfl (Br.t rfl (Br.t rfl (Br.t rfl (Br.t rfl (Br.t rfl (Br.t rfl (Br.t rfl (Br.t rfl (Br.t rfl (cu 232 [(1, (aM l1)), (2, .bp 0 0), (4, .bp 8 0), (33, .bool true)] [(0, .box [(aM b8), (aF a8), (aC a9), (aE a7)]), (8, .box [.nil, .nil, .nil, .nil])] rfl rfl rfl (Br.t rfl (cu 256 [(4, .bp 8 0), (5, .int .i64 3)] [(8, .box [(aM b8), (aF a8), (aC a9), (aE a7)])] rfl rfl rfl ?_)))))))))))))))))))))
  cases H
  exact rts rfl
theorem bG.l0_lp {F : (Exit → St → Prop) → St → Prop} {hv : List Tmp} {Q : Exit → St → Prop} {σ : St} {r : Int} {k : Nat} {a0 : ByteArray} {x3 : Int} {x4 : Int} (H : bG.l0 k a0 x3 x4 = some r) (rn : List (Option Nat)) (h1 : cG σ σ [] [(3, .int .i64 x3), (4, .int .i64 x4)] [] [] rn)
    (h2 : ∀ (k0 : Nat) (x3 : Int) (x4 : Int), k0 < k + 1 → bG.l0 k0 a0 x3 x4 = some r → dL σ hv [] [(3, .int .i64 x3), (4, .int .i64 x4)] [] [] (F (fun e σ' => match e with | .normal => ∃ (y : Nat × Int × Int) (rn : List (Option Nat)), (bG.l0 y.1 a0 y.2.1 y.2.2 = some r ∧ y.1 < k + 1) ∧ y.1 < k0 ∧ cG σ σ' [] [(3, .int .i64 y.2.1), (4, .int .i64 y.2.2)] [] [] rn | e => Q e σ'))) : Lp F hv Q σ := by
  unfold Lp
  refine ⟨Nat × Int × Int, fun x => bG.l0 x.1 a0 x.2.1 x.2.2 = some r ∧ x.1 < k + 1, fun x => x.1, [], fun x => [(3, .int .i64 x.2.1), (4, .int .i64 x.2.2)], fun x => [], fun x => [], ⟨(k, x3, x4), rn, ⟨H, Nat.lt_succ_self _⟩, h1⟩, ?_⟩
  rintro ⟨k, x3, x4⟩ ⟨H, hk⟩
  exact h2 k x3 x4 hk H
theorem bG.l1_lp {F : (Exit → St → Prop) → St → Prop} {hv : List Tmp} {Q : Exit → St → Prop} {σ : St} {r : Int} {k : Nat} {a0 : ByteArray} {d7 : Int} {E0 : Int} (H : bG.l1 k a0 d7 E0 = some r) (rn : List (Option Nat)) (h1 : cG σ σ [] [(3, .int .i64 d7), (4, .int .i64 E0)] [] [] rn)
    (h2 : ∀ (k0 : Nat) (d7 : Int) (E0 : Int), k0 < k + 1 → bG.l1 k0 a0 d7 E0 = some r → dL σ hv [] [(3, .int .i64 d7), (4, .int .i64 E0)] [] [] (F (fun e σ' => match e with | .normal => ∃ (y : Nat × Int × Int) (rn : List (Option Nat)), (bG.l1 y.1 a0 y.2.1 y.2.2 = some r ∧ y.1 < k + 1) ∧ y.1 < k0 ∧ cG σ σ' [] [(3, .int .i64 y.2.1), (4, .int .i64 y.2.2)] [] [] rn | e => Q e σ'))) : Lp F hv Q σ := by
  unfold Lp
  refine ⟨Nat × Int × Int, fun x => bG.l1 x.1 a0 x.2.1 x.2.2 = some r ∧ x.1 < k + 1, fun x => x.1, [], fun x => [(3, .int .i64 x.2.1), (4, .int .i64 x.2.2)], fun x => [], fun x => [], ⟨(k, d7, E0), rn, ⟨H, Nat.lt_succ_self _⟩, h1⟩, ?_⟩
  rintro ⟨k, d7, E0⟩ ⟨H, hk⟩
  exact h2 k d7 E0 hk H
theorem bG.ac {k : Nat} {a0 : ByteArray} {r : Int} (H : bG.f k a0 = some r) : cI Tryz.prog G 82 [] [.str a0] [] (.int .i64 r) := by
  refine bO tok hP Tryz.func82 rfl (by kernel_rfl) [.tmp 2] rfl (by kernel_rfl) (Nat.le_of_ble_eq_true rfl) (.l .n (.l (.c .n (.l (.c .n .n) .n)) (.c .n (.l (.l .n (.l .n (.l (.l (.c .n (.l (.c .n .n) .n)) .n) .n))) .n)))) rfl ?_
  unfold bG.f at H
  revert H; refine aN (fun a00 A H => (cmk (fO.ac A) rfl rfl (dU H (fun c H => ?_) (fun c H => ?_))))
  refine Br.f ff_ (Br.f ff_ (Br.f ff_ (bJ H (fun c H => ?_) (fun c H => ?_))))
  refine Br.t ft_ (Nd.mk (by decide) (nd_ H (fun c H => (Br.t ft_ (Br.f ff_ (Br.t ft_ (Br.f ff_ (cu 120 [(0, .str a0), (18, .bool (decide ((bt a0 0) = 48)))] [] rfl rfl rfl (bJ H (fun c H => ?_) (fun c H => ?_))))))))))
  refine cu 128 [(2, .int .i64 (-1))] [] rfl rfl rfl ?_
  cases H
  exact rz rfl
  refine cu 128 [(0, .str a0), (3, .int .i64 0)] [] rfl rfl rfl (bG.l0_lp (a0 := a0) (k := k) H [] (fq rfl rfl fi_ rfl) ?_)
  intro k x3 x4 hk H; rcases k with _ | k; exact bC H; rw [bG.l0] at H
  refine bJ H (fun c H => ?_) (fun c H => ?_)
  refine nd_ H (fun c H => (Nd.mk nf_ (bJ H (fun c H => ?_) (fun c H => ?_))))
  refine Br.t ft_ (Br.t ft_ (Br.t ft_ (Br.t ft_ (cu 248 [(0, .str a0), (3, .int .i64 x3), (4, .int .i64 x4), (34, .bool true)] [] rfl rfl rfl (Br.t rfl (cu 256 [(2, .int .i64 (-1))] [] rfl rfl rfl ?_))))))
  cases H
  exact rz rfl
  refine Br.f ff_ (Br.f ff_ (Nd.mk nf_ (Nd.mk nf_ (Br.f ff_ (Br.f ff_ (cu 248 [(0, .str a0), (3, .int .i64 x3), (4, .int .i64 x4), (34, .bool (decide ((bt a0 x4) > 57)))] [] rfl rfl rfl (bJ H (fun c H => ?_) (fun c H => ?_))))))))
  refine cu 256 [(2, .int .i64 (-1))] [] rfl rfl rfl ?_
  cases H
  exact rz rfl
  refine Nd.mk nf_ (Nd.mk nf_ (⟨(k, wrap64 ((wrap64 ((wrap64 (x3 * 10)) + (wrap64 (bt a0 x4)))) - 48), wrap64 (x4 + 1)), [], ⟨H, lt_⟩, lt_, (fq rfl rfl fi_ rfl)⟩))
  cases H
  exact rz rfl
  refine Br.f ff_ (Br.f ff_ (Br.f ff_ (Br.f ff_ (Br.f ff_ (cu 120 [(0, .str a0), (18, .bool false)] [] rfl rfl rfl (Br.f rfl (cu 128 [(0, .str a0), (3, .int .i64 0)] [] rfl rfl rfl (bG.l1_lp (a0 := a0) (k := k) H [] (fq rfl rfl fi_ rfl) ?_))))))))
  intro k d7 E0 hk H; rcases k with _ | k; exact bC H; rw [bG.l1] at H
  refine bJ H (fun c H => ?_) (fun c H => ?_)
  refine nd_ H (fun c H => (Nd.mk nf_ (bJ H (fun c H => ?_) (fun c H => ?_))))
  refine Br.t ft_ (Br.t ft_ (Br.t ft_ (Br.t ft_ (cu 248 [(0, .str a0), (3, .int .i64 d7), (4, .int .i64 E0), (34, .bool true)] [] rfl rfl rfl (Br.t rfl (cu 256 [(2, .int .i64 (-1))] [] rfl rfl rfl ?_))))))
  cases H
  exact rz rfl
  refine Br.f ff_ (Br.f ff_ (Nd.mk nf_ (Nd.mk nf_ (Br.f ff_ (Br.f ff_ (cu 248 [(0, .str a0), (3, .int .i64 d7), (4, .int .i64 E0), (34, .bool (decide ((bt a0 E0) > 57)))] [] rfl rfl rfl (bJ H (fun c H => ?_) (fun c H => ?_))))))))
  refine cu 256 [(2, .int .i64 (-1))] [] rfl rfl rfl ?_
  cases H
  exact rz rfl
  refine Nd.mk nf_ (Nd.mk nf_ (⟨(k, wrap64 ((wrap64 ((wrap64 (d7 * 10)) + (wrap64 (bt a0 E0)))) - 48), wrap64 (E0 + 1)), [], ⟨H, lt_⟩, lt_, (fq rfl rfl fi_ rfl)⟩))
  cases H
  exact rz rfl
  refine Br.t ft_ (Br.t ft_ (Br.t ft_ (Br.t ft_ (Br.t ft_ (cu 120 [(0, .str a0), (18, .bool true)] [] rfl rfl rfl (Br.t rfl (cu 128 [(2, .int .i64 (-1))] [] rfl rfl rfl ?_)))))))
  cases H
  exact rz rfl
theorem cK.l0_lp {F : (Exit → St → Prop) → St → Prop} {hv : List Tmp} {Q : Exit → St → Prop} {σ : St} {r : Int} {k : Nat} {a9 : List aB} {a1 : ByteArray} {x5 : Int} (H : cK.l0 k a9 a1 x5 = some r) (rn : List (Option Nat)) (h1 : cG σ σ [] [(5, .int .i64 x5)] [] [] rn)
    (h2 : ∀ (k0 : Nat) (x5 : Int), k0 < k + 1 → cK.l0 k0 a9 a1 x5 = some r → dL σ hv [] [(5, .int .i64 x5)] [] [] (F (fun e σ' => match e with | .normal => ∃ (y : Nat × Int) (rn : List (Option Nat)), (cK.l0 y.1 a9 a1 y.2 = some r ∧ y.1 < k + 1) ∧ y.1 < k0 ∧ cG σ σ' [] [(5, .int .i64 y.2)] [] [] rn | e => Q e σ'))) : Lp F hv Q σ := by
  unfold Lp
  refine ⟨Nat × Int, fun x => cK.l0 x.1 a9 a1 x.2 = some r ∧ x.1 < k + 1, fun x => x.1, [], fun x => [(5, .int .i64 x.2)], fun x => [], fun x => [], ⟨(k, x5), rn, ⟨H, Nat.lt_succ_self _⟩, h1⟩, ?_⟩
  rintro ⟨k, x5⟩ ⟨H, hk⟩
  exact h2 k x5 hk H
theorem cK.ac {k : Nat} {b8 : List ByteArray} {a8 : List aD} {a9 : List aB} {a7 : List aA} {a1 : ByteArray} {r : Int} (H : cK.f k b8 a8 a9 a7 a1 = some r) : cI Tryz.prog G 55 [] [.agg [(aM b8), (aF a8), (aC a9), (aE a7)], .str a1] [] (.int .i64 r) := by
  refine bO tok hP Tryz.func55 rfl (by kernel_rfl) [.tmp 4] rfl (by kernel_rfl) (Nat.le_of_ble_eq_true rfl) (.l .n (.l (.l .n (.l .n (.l (.c .n .n) .n))) .n)) rfl ?_
  unfold cK.f at H
  refine cK.l0_lp (a9 := a9) (a1 := a1) (k := k) H [] (fq rfl rfl fi_ rfl) ?_
  intro k x5 hk H; rcases k with _ | k; exact bC H; rw [cK.l0] at H
  refine bJ H (fun c H => ?_) (fun c H => ?_)
  refine nd_ H (fun c H => (Nd.mk nf_ (El.mk (cF _ _ nf_ nf_) (cu 128 [(1, .str a1), (2, .bp 0 0), (5, .int .i64 x5), (20, .bool (decide (((aL a9 x5).f0).toList = a1.toList)))] [(0, .box [(aM b8), (aF a8), (aC a9), (aE a7)])] rfl rfl rfl (bJ H (fun c H => ?_) (fun c H => ?_))))))
  cases H
  exact rz rfl
  exact ⟨(k, wrap64 (x5 + 1)), [], ⟨H, lt_⟩, lt_, (fq rfl rfl fi_ rfl)⟩
  cases H
  exact rz rfl
theorem bY.l0_lp {F : (Exit → St → Prop) → St → Prop} {hv : List Tmp} {Q : Exit → St → Prop} {σ : St} {r : (List ByteArray) × (List aD) × (List aB) × (List aA) × Int} {k : Nat} {b8 : List ByteArray} {a8 : List aD} {a9 : List aB} {a7 : List aA} {D7 : ByteArray} {w6 : Int} {s9 : ByteArray} {x6 : Int} (H : bY.l0 k b8 a8 a9 a7 D7 w6 s9 x6 = some r) (rn : List (Option Nat)) (h1 : cG σ σ [] [(6, .int .i64 x6)] [] [] rn)
    (h2 : ∀ (k0 : Nat) (x6 : Int), k0 < k + 1 → bY.l0 k0 b8 a8 a9 a7 D7 w6 s9 x6 = some r → dL σ hv [] [(6, .int .i64 x6)] [] [] (F (fun e σ' => match e with | .normal => ∃ (y : Nat × Int) (rn : List (Option Nat)), (bY.l0 y.1 b8 a8 a9 a7 D7 w6 s9 y.2 = some r ∧ y.1 < k + 1) ∧ y.1 < k0 ∧ cG σ σ' [] [(6, .int .i64 y.2)] [] [] rn | e => Q e σ'))) : Lp F hv Q σ := by
  unfold Lp
  refine ⟨Nat × Int, fun x => bY.l0 x.1 b8 a8 a9 a7 D7 w6 s9 x.2 = some r ∧ x.1 < k + 1, fun x => x.1, [], fun x => [(6, .int .i64 x.2)], fun x => [], fun x => [], ⟨(k, x6), rn, ⟨H, Nat.lt_succ_self _⟩, h1⟩, ?_⟩
  rintro ⟨k, x6⟩ ⟨H, hk⟩
  exact h2 k x6 hk H
theorem bY.ac {k : Nat} {b8 : List ByteArray} {a8 : List aD} {a9 : List aB} {a7 : List aA} {D7 : ByteArray} {w6 : Int} {s9 : ByteArray} {r : (List ByteArray) × (List aD) × (List aB) × (List aA) × Int} (H : bY.f k b8 a8 a9 a7 D7 w6 s9 = some r) : cI Tryz.prog G 83 [] [.agg [(aM b8), (aF a8), (aC a9), (aE a7)], .agg [.str D7, .int .i64 w6, .str s9]] [] (.tup [.agg [(aM r.1), (aF r.2.1), (aC r.2.2.1), (aE r.2.2.2.1)], .int .i64 r.2.2.2.2]) := by
  refine bO tok hP Tryz.func83 rfl (by kernel_rfl) [.cell 4 28, .tmp 5] rfl (by kernel_rfl) (Nat.le_of_ble_eq_true rfl) (.l .n (.l (.l .n (.l (.c .n .n) .n)) (.l (.c .n .n) (.l .n (.l (.l (.c .n .n) .n) (.c .n .n)))))) rfl ?_
  unfold bY.f at H
  revert H; refine aN (fun a01 A H => (cmk (cK.ac A) rfl rfl (bJ H (fun c H => ?_) (fun c H => ?_))))
  refine cu 96 [(4, .bp 16 0), (5, .int .i64 4)] [(16, .box [(aM b8), (aF a8), (aC a9), (aE a7)])] rfl rfl rfl ?_
  cases H
  exact rts rfl
  refine cu 104 [(2, .bp 0 0), (3, .bp 8 0), (4, .bp 16 0), (16, .bool (decide ((a9.length : Int) ≥ 14)))] [(0, .box [(aM b8), (aF a8), (aC a9), (aE a7)]), (8, .box [.str D7, .int .i64 w6, .str s9]), (16, .box [.nil, .nil, .nil, .nil])] rfl rfl rfl (bJ H (fun c H => ?_) (fun c H => ?_))
  cases H
  exact rts rfl
  refine bY.l0_lp (b8 := b8) (a8 := a8) (a9 := a9) (a7 := a7) (D7 := D7) (w6 := w6) (s9 := s9) (k := k) H [] (fq rfl rfl fi_ rfl) ?_
  intro k x6 hk H; rcases k with _ | k; exact bC H; rw [bY.l0] at H
  refine bJ H (fun c H => ?_) (fun c H => ?_)
  refine Br.t ft_ (Br.t ft_ (Br.t ft_ (nd_ H (fun c H => (Nd.mk nf_ (El.mk (cF _ _ nf_ nf_) (Br.t ft_ (Br.t ft_ (Br.t ft_ (Br.t ft_ (Br.t ft_ (Br.t ft_ (cu 240 [(2, .bp 0 0), (3, .bp 8 0), (4, .bp 16 0), (6, .int .i64 x6), (33, .bool (Op.bytesLess ((aL a9 x6).f0).toList D7.toList))] [(0, .box [(aM b8), (aF a8), (aC a9), (aE a7)]), (8, .box [.str D7, .int .i64 w6, .str s9]), (16, .box [.nil, .nil, .nil, .nil])] rfl rfl rfl (kN H (fun c H => ?_) (fun c H => ?_)))))))))))))))
  exact ⟨(k, wrap64 (x6 + 1)), [], ⟨H, lt_⟩, lt_, (fq rfl rfl fi_ rfl)⟩
  refine Or.inl (Nd.mk nf_ (nd_ H (fun c H => (nd_ H (fun c H => (Or.inl (nd_ H (fun c H => (Nd.mk nf_ (Nd.mk nf_ (nd_ H (fun c H => (jD 368 [(2, .bp 0 0), (4, .bp 16 0)] [(0, .box [(aM b8), (aF a8), .own 344 (0 + (x6).toNat + 1 + (a9.length - (x6).toNat)), (aE a7)]), (16, .box [.nil, .nil, .nil, .nil]), (344, .arr 49 3 ((((([] : List aB) ++ (a9.take (x6).toNat)) ++ ([(⟨D7, w6, s9⟩ : aB)] : List aB)) ++ (a9.drop (x6).toNat)).map aI))] rfl ⟨.inl rfl, ⟨.inl rfl, trivial⟩⟩ ⟨rfl, ⟨rfl, ⟨fm_, trivial⟩⟩⟩ ?_)))))))))))))
  cases H
  exact eT [344] (bM (fS (bF (fZ rfl) (bF (fZ rfl) (bF (jJ rfl lm_ lm_ rfl) (bF (fZ rfl) (fW)))))) (bM (fV rfl) (eB)))
  refine Br.f ff_ (Br.f ff_ (Br.f ff_ (Br.f ff_ (Br.f ff_ (Br.f ff_ (Br.f ff_ (Br.f ff_ (Br.f ff_ (cu 240 [(2, .bp 0 0), (3, .bp 8 0), (4, .bp 16 0), (6, .int .i64 x6), (33, .bool false)] [(0, .box [(aM b8), (aF a8), (aC a9), (aE a7)]), (8, .box [.str D7, .int .i64 w6, .str s9]), (16, .box [.nil, .nil, .nil, .nil])] rfl rfl rfl (Br.f rfl (Or.inl (nd_ H (fun c H => (nd_ H (fun c H => (nd_ H (fun c H => (Or.inl (nd_ H (fun c H => (Nd.mk nf_ (Nd.mk nf_ (nd_ H (fun c H => (jD 368 [(2, .bp 0 0), (4, .bp 16 0)] [(0, .box [(aM b8), (aF a8), .own 344 (0 + (x6).toNat + 1 + (a9.length - (x6).toNat)), (aE a7)]), (16, .box [.nil, .nil, .nil, .nil]), (344, .arr 49 3 ((((([] : List aB) ++ (a9.take (x6).toNat)) ++ ([(⟨D7, w6, s9⟩ : aB)] : List aB)) ++ (a9.drop (x6).toNat)).map aI))] rfl ⟨.inl rfl, ⟨.inl rfl, trivial⟩⟩ ⟨rfl, ⟨rfl, ⟨fm_, trivial⟩⟩⟩ ?_)))))))))))))))))))))))))
  cases H
  exact eT [344] (bM (fS (bF (fZ rfl) (bF (fZ rfl) (bF (jJ rfl lm_ lm_ rfl) (bF (fZ rfl) (fW)))))) (bM (fV rfl) (eB)))
theorem gC.ac {k : Nat} {b8 : List ByteArray} {a8 : List aD} {a9 : List aB} {a7 : List aA} {l1 : List ByteArray} {r : (List ByteArray) × (List aD) × (List aB) × (List aA) × Int} (H : gC.f k b8 a8 a9 a7 l1 = some r) : cI Tryz.prog G 68 [] [.agg [(aM b8), (aF a8), (aC a9), (aE a7)], (aM l1)] [] (.tup [.agg [(aM r.1), (aF r.2.1), (aC r.2.2.1), (aE r.2.2.2.1)], .int .i64 r.2.2.2.2]) := by
  refine bO tok hP Tryz.func68 rfl (by kernel_rfl) [.cell 4 28, .tmp 5] rfl (by kernel_rfl) (Nat.le_of_ble_eq_true rfl) (.l .n (.l (.c .n (.l (.c .n .n) .n)) (.c .n .n))) rfl ?_
  unfold gC.f at H
  refine iS H (fun c H => ?_) (fun c H => ?_)
  refine Br.f ff_ (Nd.mk (by decide) (nd_ H (fun c H => (El.mk (aV _ _ nf_ nf_) (Br.f ff_ (Br.f ff_ ?_))))))
  revert H; refine aN (fun a02 A H => (cmk (aZ.ac A) rfl rfl (Br.f ff_ (Br.f ff_ (dU H (fun c H => ?_) (fun c H => ?_))))))
  refine Br.f ff_ (Nd.mk (by decide) (nd_ H (fun c H => (El.mk (aV _ _ nf_ nf_) (Br.f ff_ (Br.f ff_ ?_))))))
  revert H; refine aN (fun a03 A H => (cmk (bG.ac A) rfl rfl (Br.f ff_ ?_)))
  revert H; refine aN (fun a04 A H => (cmk (fO.ac A) rfl rfl (Br.f ff_ (Br.f ff_ (dU H (fun c H => ?_) (fun c H => ?_))))))
  refine Br.f ff_ (Nd.mk (by decide) (nd_ H (fun c H => (El.mk (aV _ _ nf_ nf_) (Br.f ff_ (Br.f ff_ ?_))))))
  revert H; refine aN (fun Z2 A H => (cmk (aZ.ac A) rfl rfl (Br.f ff_ (Br.f ff_ (cu 224 [(1, (aM l1)), (2, .bp 0 0), (4, .bp 8 0), (30, .bool (!Z2))] [(0, .box [(aM b8), (aF a8), (aC a9), (aE a7)]), (8, .box [.nil, .nil, .nil, .nil])] rfl rfl rfl (dU H (fun c H => ?_) (fun c H => ?_)))))))
  refine Nd.mk (by decide) (Nd.mk nf_ (El.mk (aV _ _ nf_ nf_) (Nd.mk (by decide) (Nd.mk nf_ (El.mk (aV _ _ nf_ nf_) ?_)))))
  revert H; refine aN (fun a05 A H => (cmk (bG.ac A) rfl rfl (Nd.mk (by decide) (Nd.mk nf_ (El.mk (aV _ _ nf_ nf_) ?_)))))
  revert H; refine aN (fun M4 A H => (cmk (bY.ac A) rfl rfl (cu 360 [(4, .bp 8 0), (5, .int .i64 M4.2.2.2.2)] [(8, .box [(aM M4.1), (aF M4.2.1), (aC M4.2.2.1), (aE M4.2.2.2.1)])] rfl rfl rfl ?_)))
  cases H
  exact rts rfl
  refine cu 248 [(4, .bp 8 0), (5, .int .i64 3)] [(8, .box [(aM b8), (aF a8), (aC a9), (aE a7)])] rfl rfl rfl ?_
  cases H
  exact rts rfl
  refine Br.t ft_ (Br.t ft_ (Br.t ft_ (Br.t ft_ (Br.t ft_ (cu 224 [(1, (aM l1)), (2, .bp 0 0), (4, .bp 8 0), (30, .bool true)] [(0, .box [(aM b8), (aF a8), (aC a9), (aE a7)]), (8, .box [.nil, .nil, .nil, .nil])] rfl rfl rfl (Br.t rfl (cu 248 [(4, .bp 8 0), (5, .int .i64 3)] [(8, .box [(aM b8), (aF a8), (aC a9), (aE a7)])] rfl rfl rfl ?_)))))))
  cases H
  exact rts rfl
  refine Br.t ft_ (Br.t ft_ (Br.t ft_ (Br.t ft_ (Br.t ft_ (Br.t ft_ (Br.t rfl (Br.t rfl (Br.t rfl (Br.t rfl (Br.t rfl (Br.t rfl (cu 224 [(1, (aM l1)), (2, .bp 0 0), (4, .bp 8 0), (30, .bool true)] [(0, .box [(aM b8), (aF a8), (aC a9), (aE a7)]), (8, .box [.nil, .nil, .nil, .nil])] rfl rfl rfl (Br.t rfl (cu 248 [(4, .bp 8 0), (5, .int .i64 3)] [(8, .box [(aM b8), (aF a8), (aC a9), (aE a7)])] rfl rfl rfl ?_))))))))))))))
  cases H
  exact rts rfl
  refine Br.t ft_ (Br.t ft_ (Br.t ft_ (Br.t ft_ (Br.t ft_ (Br.t rfl (Br.t rfl (Br.t rfl (Br.t rfl (Br.t rfl (Br.t rfl (Br.t rfl (Br.t rfl (Br.t rfl (Br.t rfl (Br.t rfl (Br.t rfl (Br.t rfl (cu 224 [(1, (aM l1)), (2, .bp 0 0), (4, .bp 8 0), (30, .bool true)] [(0, .box [(aM b8), (aF a8), (aC a9), (aE a7)]), (8, .box [.nil, .nil, .nil, .nil])] rfl rfl rfl (Br.t rfl (cu 248 [(4, .bp 8 0), (5, .int .i64 3)] [(8, .box [(aM b8), (aF a8), (aC a9), (aE a7)])] rfl rfl rfl ?_))))))))))))))))))))
  cases H
  exact rts rfl
theorem gO.ac {k : Nat} {b8 : List ByteArray} {a8 : List aD} {a9 : List aB} {a7 : List aA} {l1 : List ByteArray} {r : (List ByteArray) × (List aD) × (List aB) × (List aA) × Int} (H : gO.f k b8 a8 a9 a7 l1 = some r) : cI Tryz.prog G 69 [] [.agg [(aM b8), (aF a8), (aC a9), (aE a7)], (aM l1)] [] (.tup [.agg [(aM r.1), (aF r.2.1), (aC r.2.2.1), (aE r.2.2.2.1)], .int .i64 r.2.2.2.2]) := by
  refine bO tok hP Tryz.func69 rfl (by kernel_rfl) [.cell 4 28, .tmp 5] rfl (by kernel_rfl) (Nat.le_of_ble_eq_true rfl) (.l .n (.l (.c .n (.l (.c .n .n) .n)) (.c .n .n))) rfl ?_
  unfold gO.f at H
  refine iS H (fun c H => ?_) (fun c H => ?_)
  refine Br.f ff_ (Nd.mk (by decide) (nd_ H (fun c H => (El.mk (aV _ _ nf_ nf_) (Br.f ff_ (Br.f ff_ ?_))))))
  revert H; refine aN (fun a06 A H => (cmk (aZ.ac A) rfl rfl (Br.f ff_ (Br.f ff_ (dU H (fun c H => ?_) (fun c H => ?_))))))
  refine Br.f ff_ (Nd.mk (by decide) (nd_ H (fun c H => (El.mk (aV _ _ nf_ nf_) (Br.f ff_ (Br.f ff_ ?_))))))
  revert H; refine aN (fun Z3 A H => (cmk (aZ.ac A) rfl rfl (Br.f ff_ (Br.f ff_ (cu 160 [(1, (aM l1)), (2, .bp 0 0), (4, .bp 8 0), (22, .bool (!Z3))] [(0, .box [(aM b8), (aF a8), (aC a9), (aE a7)]), (8, .box [.nil, .nil, .nil, .nil])] rfl rfl rfl (dU H (fun c H => ?_) (fun c H => ?_)))))))
  refine Nd.mk (by decide) (Nd.mk nf_ (El.mk (aV _ _ nf_ nf_) (Nd.mk (by decide) (Nd.mk nf_ (El.mk (aV _ _ nf_ nf_) ?_)))))
  revert H; refine aN (fun M5 A H => (cmk (bY.ac A) rfl rfl (cu 264 [(4, .bp 8 0), (5, .int .i64 M5.2.2.2.2)] [(8, .box [(aM M5.1), (aF M5.2.1), (aC M5.2.2.1), (aE M5.2.2.2.1)])] rfl rfl rfl ?_)))
  cases H
  exact rts rfl
  refine cu 184 [(4, .bp 8 0), (5, .int .i64 3)] [(8, .box [(aM b8), (aF a8), (aC a9), (aE a7)])] rfl rfl rfl ?_
  cases H
  exact rts rfl
  refine Br.t ft_ (Br.t ft_ (Br.t ft_ (Br.t ft_ (Br.t ft_ (cu 160 [(1, (aM l1)), (2, .bp 0 0), (4, .bp 8 0), (22, .bool true)] [(0, .box [(aM b8), (aF a8), (aC a9), (aE a7)]), (8, .box [.nil, .nil, .nil, .nil])] rfl rfl rfl (Br.t rfl (cu 184 [(4, .bp 8 0), (5, .int .i64 3)] [(8, .box [(aM b8), (aF a8), (aC a9), (aE a7)])] rfl rfl rfl ?_)))))))
  cases H
  exact rts rfl
  refine Br.t ft_ (Br.t ft_ (Br.t ft_ (Br.t ft_ (Br.t ft_ (Br.t rfl (Br.t rfl (Br.t rfl (Br.t rfl (Br.t rfl (Br.t rfl (cu 160 [(1, (aM l1)), (2, .bp 0 0), (4, .bp 8 0), (22, .bool true)] [(0, .box [(aM b8), (aF a8), (aC a9), (aE a7)]), (8, .box [.nil, .nil, .nil, .nil])] rfl rfl rfl (Br.t rfl (cu 184 [(4, .bp 8 0), (5, .int .i64 3)] [(8, .box [(aM b8), (aF a8), (aC a9), (aE a7)])] rfl rfl rfl ?_)))))))))))))
  cases H
  exact rts rfl
theorem dH.l0_lp {F : (Exit → St → Prop) → St → Prop} {hv : List Tmp} {Q : Exit → St → Prop} {σ : St} {r : Int} {k : Nat} {a7 : List aA} {a1 : ByteArray} {x5 : Int} (H : dH.l0 k a7 a1 x5 = some r) (rn : List (Option Nat)) (h1 : cG σ σ [] [(5, .int .i64 x5)] [] [] rn)
    (h2 : ∀ (k0 : Nat) (x5 : Int), k0 < k + 1 → dH.l0 k0 a7 a1 x5 = some r → dL σ hv [] [(5, .int .i64 x5)] [] [] (F (fun e σ' => match e with | .normal => ∃ (y : Nat × Int) (rn : List (Option Nat)), (dH.l0 y.1 a7 a1 y.2 = some r ∧ y.1 < k + 1) ∧ y.1 < k0 ∧ cG σ σ' [] [(5, .int .i64 y.2)] [] [] rn | e => Q e σ'))) : Lp F hv Q σ := by
  unfold Lp
  refine ⟨Nat × Int, fun x => dH.l0 x.1 a7 a1 x.2 = some r ∧ x.1 < k + 1, fun x => x.1, [], fun x => [(5, .int .i64 x.2)], fun x => [], fun x => [], ⟨(k, x5), rn, ⟨H, Nat.lt_succ_self _⟩, h1⟩, ?_⟩
  rintro ⟨k, x5⟩ ⟨H, hk⟩
  exact h2 k x5 hk H
theorem dH.ac {k : Nat} {b8 : List ByteArray} {a8 : List aD} {a9 : List aB} {a7 : List aA} {a1 : ByteArray} {r : Int} (H : dH.f k b8 a8 a9 a7 a1 = some r) : cI Tryz.prog G 84 [] [.agg [(aM b8), (aF a8), (aC a9), (aE a7)], .str a1] [] (.int .i64 r) := by
  refine bO tok hP Tryz.func84 rfl (by kernel_rfl) [.tmp 4] rfl (by kernel_rfl) (Nat.le_of_ble_eq_true rfl) (.l .n (.l (.l .n (.l .n (.l (.c .n .n) .n))) .n)) rfl ?_
  unfold dH.f at H
  refine dH.l0_lp (a7 := a7) (a1 := a1) (k := k) H [] (fq rfl rfl fi_ rfl) ?_
  intro k x5 hk H; rcases k with _ | k; exact bC H; rw [dH.l0] at H
  refine bJ H (fun c H => ?_) (fun c H => ?_)
  refine nd_ H (fun c H => (Nd.mk nf_ (El.mk (dA _ _ nf_ nf_) (cu 128 [(1, .str a1), (2, .bp 0 0), (5, .int .i64 x5), (20, .bool (decide (((aG a7 x5).f0).toList = a1.toList)))] [(0, .box [(aM b8), (aF a8), (aC a9), (aE a7)])] rfl rfl rfl (bJ H (fun c H => ?_) (fun c H => ?_))))))
  cases H
  exact rz rfl
  exact ⟨(k, wrap64 (x5 + 1)), [], ⟨H, lt_⟩, lt_, (fq rfl rfl fi_ rfl)⟩
  cases H
  exact rz rfl
theorem bL.l0_lp {F : (Exit → St → Prop) → St → Prop} {hv : List Tmp} {Q : Exit → St → Prop} {σ : St} {r : (List ByteArray) × (List aD) × (List aB) × (List aA) × Int} {k : Nat} {b8 : List ByteArray} {a8 : List aD} {a9 : List aB} {a7 : List aA} {l1 : List ByteArray} {x7 : Int} (H : bL.l0 k b8 a8 a9 a7 l1 x7 = some r) (rn : List (Option Nat)) (h1 : cG σ σ [] [(7, .int .i64 x7)] [] [] rn)
    (h2 : ∀ (k0 : Nat) (x7 : Int), k0 < k + 1 → bL.l0 k0 b8 a8 a9 a7 l1 x7 = some r → dL σ hv [] [(7, .int .i64 x7)] [] [] (F (fun e σ' => match e with | .normal => ∃ (y : Nat × Int) (rn : List (Option Nat)), (bL.l0 y.1 b8 a8 a9 a7 l1 y.2 = some r ∧ y.1 < k + 1) ∧ y.1 < k0 ∧ cG σ σ' [] [(7, .int .i64 y.2)] [] [] rn | e => Q e σ'))) : Lp F hv Q σ := by
  unfold Lp
  refine ⟨Nat × Int, fun x => bL.l0 x.1 b8 a8 a9 a7 l1 x.2 = some r ∧ x.1 < k + 1, fun x => x.1, [], fun x => [(7, .int .i64 x.2)], fun x => [], fun x => [], ⟨(k, x7), rn, ⟨H, Nat.lt_succ_self _⟩, h1⟩, ?_⟩
  rintro ⟨k, x7⟩ ⟨H, hk⟩
  exact h2 k x7 hk H
theorem bL.l1_lp {F : (Exit → St → Prop) → St → Prop} {hv : List Tmp} {Q : Exit → St → Prop} {σ : St} {r : (List ByteArray) × (List aD) × (List aB) × (List aA) × Int} {k : Nat} {b8 : List ByteArray} {a8 : List aD} {a9 : List aB} {a7 : List aA} {l1 : List ByteArray} {j9 : Int} (H : bL.l1 k b8 a8 a9 a7 l1 j9 = some r) (rn : List (Option Nat)) (h1 : cG σ σ [] [(7, .int .i64 j9)] [] [] rn)
    (h2 : ∀ (k0 : Nat) (j9 : Int), k0 < k + 1 → bL.l1 k0 b8 a8 a9 a7 l1 j9 = some r → dL σ hv [] [(7, .int .i64 j9)] [] [] (F (fun e σ' => match e with | .normal => ∃ (y : Nat × Int) (rn : List (Option Nat)), (bL.l1 y.1 b8 a8 a9 a7 l1 y.2 = some r ∧ y.1 < k + 1) ∧ y.1 < k0 ∧ cG σ σ' [] [(7, .int .i64 y.2)] [] [] rn | e => Q e σ'))) : Lp F hv Q σ := by
  unfold Lp
  refine ⟨Nat × Int, fun x => bL.l1 x.1 b8 a8 a9 a7 l1 x.2 = some r ∧ x.1 < k + 1, fun x => x.1, [], fun x => [(7, .int .i64 x.2)], fun x => [], fun x => [], ⟨(k, j9), rn, ⟨H, Nat.lt_succ_self _⟩, h1⟩, ?_⟩
  rintro ⟨k, j9⟩ ⟨H, hk⟩
  exact h2 k j9 hk H
theorem bL.ac {k : Nat} {b8 : List ByteArray} {a8 : List aD} {a9 : List aB} {a7 : List aA} {l1 : List ByteArray} {r : (List ByteArray) × (List aD) × (List aB) × (List aA) × Int} (H : bL.f k b8 a8 a9 a7 l1 = some r) : cI Tryz.prog G 70 [] [.agg [(aM b8), (aF a8), (aC a9), (aE a7)], (aM l1)] [] (.tup [.agg [(aM r.1), (aF r.2.1), (aC r.2.2.1), (aE r.2.2.2.1)], .int .i64 r.2.2.2.2]) := by
  refine bO tok hP Tryz.func70 rfl (by kernel_rfl) [.cell 4 28, .tmp 5] rfl (by kernel_rfl) (Nat.le_of_ble_eq_true rfl) (.l .n (.l (.c .n (.l (.c .n .n) .n)) (.l .n (.l (.c .n (.l (.c .n .n) .n)) (.l .n (.c .n (.c .n (.c .n (.l (.l (.c .n .n) .n) (.c .n .n)))))))))) rfl ?_
  unfold bL.f at H
  refine iS H (fun c H => ?_) (fun c H => ?_)
  refine Br.f ff_ (Nd.mk (by decide) (nd_ H (fun c H => (El.mk (aV _ _ nf_ nf_) (Br.f ff_ (Br.f ff_ ?_))))))
  revert H; refine aN (fun a07 A H => (cmk (aZ.ac A) rfl rfl (Br.f ff_ (Br.f ff_ (dU H (fun c H => ?_) (fun c H => ?_))))))
  refine Br.f ff_ (Nd.mk (by decide) (nd_ H (fun c H => (El.mk (aV _ _ nf_ nf_) (Br.f ff_ (Br.f ff_ ?_))))))
  revert H; refine aN (fun a08 A H => (cmk (aZ.ac A) rfl rfl (Br.f ff_ (Br.f ff_ (dU H (fun c H => ?_) (fun c H => ?_))))))
  refine Br.f ff_ (Nd.mk (by decide) (nd_ H (fun c H => (El.mk (aV _ _ nf_ nf_) (Br.f ff_ (Br.f ff_ ?_))))))
  revert H; refine aN (fun a09 A H => (cmk (aZ.ac A) rfl rfl (Br.f ff_ (Br.f ff_ (dU H (fun c H => ?_) (fun c H => ?_))))))
  refine Br.f ff_ (Nd.mk (by decide) (Nd.mk nf_ (El.mk (aV _ _ nf_ nf_) (Br.f ff_ (Br.f ff_ (Br.f ff_ (Nd.mk (by decide) (Nd.mk nf_ (El.mk (aV _ _ nf_ nf_) (Br.f ff_ (Br.f ff_ (Br.f ff_ (bJ H (fun c H => ?_) (fun c H => ?_))))))))))))))
  refine Br.t ft_ (Br.t ft_ (Br.t ft_ (Br.t ft_ (Br.t ft_ (cu 344 [(1, (aM l1)), (2, .bp 0 0), (4, .bp 8 0), (47, .bool true)] [(0, .box [(aM b8), (aF a8), (aC a9), (aE a7)]), (8, .box [.nil, .nil, .nil, .nil])] rfl rfl rfl (Br.t rfl (cu 368 [(4, .bp 8 0), (5, .int .i64 3)] [(8, .box [(aM b8), (aF a8), (aC a9), (aE a7)])] rfl rfl rfl ?_)))))))
  cases H
  exact rts rfl
  refine Br.f ff_ (Nd.mk (by decide) (nd_ H (fun c H => (El.mk (aV _ _ nf_ nf_) (Br.f ff_ (Br.f ff_ ?_))))))
  revert H; refine aN (fun Z4 A H => (cmk (aZ.ac A) rfl rfl (Br.f ff_ (Br.f ff_ (cu 344 [(1, (aM l1)), (2, .bp 0 0), (4, .bp 8 0), (47, .bool (!Z4))] [(0, .box [(aM b8), (aF a8), (aC a9), (aE a7)]), (8, .box [.nil, .nil, .nil, .nil])] rfl rfl rfl (dU H (fun c H => ?_) (fun c H => ?_)))))))
  refine Nd.mk (by decide) (Nd.mk nf_ (El.mk (aV _ _ nf_ nf_) ?_))
  revert H; refine aN (fun a10 A H => (cmk (dH.ac A) rfl rfl (bJ H (fun c H => ?_) (fun c H => ?_))))
  cases H
  exact rts rfl
  refine Nd.mk (by decide) (Nd.mk nf_ (El.mk (aV _ _ nf_ nf_) ?_))
  revert H; refine aN (fun a11 A H => (cmk (cK.ac A) rfl rfl (bJ H (fun c H => ?_) (fun c H => ?_))))
  refine Br.t ft_ (Br.t ft_ (Br.t ft_ (Br.t ft_ (Br.t ft_ (Br.t ft_ (cu 504 [(1, (aM l1)), (2, .bp 0 0), (4, .bp 8 0), (69, .bool true)] [(0, .box [(aM b8), (aF a8), (aC a9), (aE a7)]), (8, .box [.nil, .nil, .nil, .nil])] rfl rfl rfl (Br.t rfl (cu 528 [(4, .bp 8 0), (5, .int .i64 5)] [(8, .box [(aM b8), (aF a8), (aC a9), (aE a7)])] rfl rfl rfl ?_))))))))
  cases H
  exact rts rfl
  refine Br.f ff_ (Br.f ff_ (Nd.mk (by decide) (Nd.mk nf_ (El.mk (aV _ _ nf_ nf_) (Br.f ff_ (Br.f ff_ ?_))))))
  revert H; refine aN (fun Z5 A H => (cmk (cK.ac A) rfl rfl (Br.f ff_ (Br.f ff_ (cu 504 [(1, (aM l1)), (2, .bp 0 0), (4, .bp 8 0), (69, .bool (decide (Z5 < 0)))] [(0, .box [(aM b8), (aF a8), (aC a9), (aE a7)]), (8, .box [.nil, .nil, .nil, .nil])] rfl rfl rfl (bJ H (fun c H => ?_) (fun c H => ?_)))))))
  refine cu 528 [(4, .bp 8 0), (5, .int .i64 5)] [(8, .box [(aM b8), (aF a8), (aC a9), (aE a7)])] rfl rfl rfl ?_
  cases H
  exact rts rfl
  refine bJ H (fun c H => ?_) (fun c H => ?_)
  cases H
  exact rts rfl
  refine Nd.mk (by decide) (Nd.mk nf_ (El.mk (aV _ _ nf_ nf_) (Nd.mk (by decide) (Nd.mk nf_ (El.mk (aV _ _ nf_ nf_) (Nd.mk (by decide) (Nd.mk nf_ (El.mk (aV _ _ nf_ nf_) (Nd.mk (by decide) (Nd.mk nf_ (El.mk (aV _ _ nf_ nf_) (cu 656 [(1, (aM l1)), (2, .bp 0 0), (4, .bp 8 0), (6, .bp 640 0)] [(0, .box [(aM b8), (aF a8), (aC a9), (aE a7)]), (8, .box [.nil, .nil, .nil, .nil]), (640, .box [.str (aP ByteArray.empty l1 1), .str (aP ByteArray.empty l1 2), .str (aP ByteArray.empty l1 3), .str (aP ByteArray.empty l1 4)])] rfl rfl rfl (kN H (fun c H => ?_) (fun c H => ?_))))))))))))))
  refine Nd.mk (by decide) (Nd.mk nf_ (El.mk (aV _ _ nf_ nf_) (Nd.mk (by decide) (Nd.mk nf_ (El.mk (aV _ _ nf_ nf_) (Nd.mk (by decide) (Nd.mk nf_ (El.mk (aV _ _ nf_ nf_) (Nd.mk (by decide) (Nd.mk nf_ (El.mk (aV _ _ nf_ nf_) (cu 808 [(2, .bp 0 0), (4, .bp 8 0), (6, .bp 640 0)] [(0, .box [(aM b8), (aF a8), (aC a9), (aE a7)]), (8, .box [.nil, .nil, .nil, .nil]), (640, .box [.str (aP ByteArray.empty l1 1), .str (aP ByteArray.empty l1 3), .str (aP ByteArray.empty l1 2), .str (aP ByteArray.empty l1 4)])] rfl rfl rfl (cu 816 [(2, .bp 0 0), (4, .bp 8 0), (6, .bp 640 0), (7, .int .i64 0)] [(0, .box [(aM b8), (aF a8), (aC a9), (aE a7)]), (8, .box [.nil, .nil, .nil, .nil]), (640, .box [.str (aP ByteArray.empty l1 1), .str (aP ByteArray.empty l1 3), .str (aP ByteArray.empty l1 2), .str (aP ByteArray.empty l1 4)])] rfl rfl rfl (bL.l0_lp (b8 := b8) (a8 := a8) (a9 := a9) (a7 := a7) (l1 := l1) (k := k) H [] (fq rfl rfl fi_ rfl) ?_))))))))))))))
  intro k x7 hk H; rcases k with _ | k; exact bC H; rw [bL.l0] at H
  refine bJ H (fun c H => ?_) (fun c H => ?_)
  refine Br.t ft_ (Br.t ft_ (Br.t ft_ (nd_ H (fun c H => (Nd.mk nf_ (El.mk (dA _ _ nf_ nf_) (Br.t ft_ (Br.t ft_ (Br.t ft_ (Br.t ft_ (Br.t ft_ (Br.t ft_ (cu 944 [(2, .bp 0 0), (4, .bp 8 0), (6, .bp 640 0), (7, .int .i64 x7), (122, .bool (Op.bytesLess ((aG a7 x7).f0).toList (aP ByteArray.empty l1 1).toList))] [(0, .box [(aM b8), (aF a8), (aC a9), (aE a7)]), (8, .box [.nil, .nil, .nil, .nil]), (640, .box [.str (aP ByteArray.empty l1 1), .str (aP ByteArray.empty l1 3), .str (aP ByteArray.empty l1 2), .str (aP ByteArray.empty l1 4)])] rfl rfl rfl (kN H (fun c H => ?_) (fun c H => ?_)))))))))))))))
  exact ⟨(k, wrap64 (x7 + 1)), [], ⟨H, lt_⟩, lt_, (fq rfl rfl fi_ rfl)⟩
  refine Or.inl (Nd.mk nf_ (nd_ H (fun c H => (nd_ H (fun c H => (Or.inl (nd_ H (fun c H => (Nd.mk nf_ (Nd.mk nf_ (nd_ H (fun c H => (jD 1072 [(2, .bp 0 0), (4, .bp 8 0)] [(0, .box [(aM b8), (aF a8), (aC a9), .own 1048 (0 + (x7).toNat + 1 + (a7.length - (x7).toNat))]), (8, .box [.nil, .nil, .nil, .nil]), (1048, .arr 52 4 ((((([] : List aA) ++ (a7.take (x7).toNat)) ++ ([(⟨aP ByteArray.empty l1 1, aP ByteArray.empty l1 3, aP ByteArray.empty l1 2, aP ByteArray.empty l1 4⟩ : aA)] : List aA)) ++ (a7.drop (x7).toNat)).map aH))] rfl ⟨.inl rfl, ⟨.inl rfl, trivial⟩⟩ ⟨rfl, ⟨rfl, ⟨fm_, trivial⟩⟩⟩ ?_)))))))))))))
  cases H
  exact eT [1048] (bM (fS (bF (fZ rfl) (bF (fZ rfl) (bF (fZ rfl) (bF (jJ rfl lm_ lm_ rfl) (fW)))))) (bM (fV rfl) (eB)))
  refine Br.f ff_ (Br.f ff_ (Br.f ff_ (Br.f ff_ (Br.f ff_ (Br.f ff_ (Br.f ff_ (Br.f ff_ (Br.f ff_ (cu 944 [(2, .bp 0 0), (4, .bp 8 0), (6, .bp 640 0), (7, .int .i64 x7), (122, .bool false)] [(0, .box [(aM b8), (aF a8), (aC a9), (aE a7)]), (8, .box [.nil, .nil, .nil, .nil]), (640, .box [.str (aP ByteArray.empty l1 1), .str (aP ByteArray.empty l1 3), .str (aP ByteArray.empty l1 2), .str (aP ByteArray.empty l1 4)])] rfl rfl rfl (Br.f rfl (Or.inl (nd_ H (fun c H => (nd_ H (fun c H => (nd_ H (fun c H => (Or.inl (nd_ H (fun c H => (Nd.mk nf_ (Nd.mk nf_ (nd_ H (fun c H => (jD 1072 [(2, .bp 0 0), (4, .bp 8 0)] [(0, .box [(aM b8), (aF a8), (aC a9), .own 1048 (0 + (x7).toNat + 1 + (a7.length - (x7).toNat))]), (8, .box [.nil, .nil, .nil, .nil]), (1048, .arr 52 4 ((((([] : List aA) ++ (a7.take (x7).toNat)) ++ ([(⟨aP ByteArray.empty l1 1, aP ByteArray.empty l1 3, aP ByteArray.empty l1 2, aP ByteArray.empty l1 4⟩ : aA)] : List aA)) ++ (a7.drop (x7).toNat)).map aH))] rfl ⟨.inl rfl, ⟨.inl rfl, trivial⟩⟩ ⟨rfl, ⟨rfl, ⟨fm_, trivial⟩⟩⟩ ?_)))))))))))))))))))))))))
  cases H
  exact eT [1048] (bM (fS (bF (fZ rfl) (bF (fZ rfl) (bF (fZ rfl) (bF (jJ rfl lm_ lm_ rfl) (fW)))))) (bM (fV rfl) (eB)))
  refine cu 696 [(2, .bp 0 0), (4, .bp 8 0), (6, .bp 640 0)] [(0, .box [(aM b8), (aF a8), (aC a9), (aE a7)]), (8, .box [.nil, .nil, .nil, .nil]), (640, .box [.str (aP ByteArray.empty l1 1), .str (aP ByteArray.empty l1 2), .str (aP ByteArray.empty l1 3), .str (aP ByteArray.empty l1 4)])] rfl rfl rfl (cu 704 [(2, .bp 0 0), (4, .bp 8 0), (6, .bp 640 0), (7, .int .i64 0)] [(0, .box [(aM b8), (aF a8), (aC a9), (aE a7)]), (8, .box [.nil, .nil, .nil, .nil]), (640, .box [.str (aP ByteArray.empty l1 1), .str (aP ByteArray.empty l1 2), .str (aP ByteArray.empty l1 3), .str (aP ByteArray.empty l1 4)])] rfl rfl rfl (bL.l1_lp (b8 := b8) (a8 := a8) (a9 := a9) (a7 := a7) (l1 := l1) (k := k) H [] (fq rfl rfl fi_ rfl) ?_))
  intro k j9 hk H; rcases k with _ | k; exact bC H; rw [bL.l1] at H
  refine bJ H (fun c H => ?_) (fun c H => ?_)
  refine Br.t ft_ (Br.t ft_ (Br.t ft_ (nd_ H (fun c H => (Nd.mk nf_ (El.mk (dA _ _ nf_ nf_) (Br.t ft_ (Br.t ft_ (Br.t ft_ (Br.t ft_ (Br.t ft_ (Br.t ft_ (cu 832 [(2, .bp 0 0), (4, .bp 8 0), (6, .bp 640 0), (7, .int .i64 j9), (122, .bool (Op.bytesLess ((aG a7 j9).f0).toList (aP ByteArray.empty l1 1).toList))] [(0, .box [(aM b8), (aF a8), (aC a9), (aE a7)]), (8, .box [.nil, .nil, .nil, .nil]), (640, .box [.str (aP ByteArray.empty l1 1), .str (aP ByteArray.empty l1 2), .str (aP ByteArray.empty l1 3), .str (aP ByteArray.empty l1 4)])] rfl rfl rfl (kN H (fun c H => ?_) (fun c H => ?_)))))))))))))))
  exact ⟨(k, wrap64 (j9 + 1)), [], ⟨H, lt_⟩, lt_, (fq rfl rfl fi_ rfl)⟩
  refine Or.inl (Nd.mk nf_ (nd_ H (fun c H => (nd_ H (fun c H => (Or.inl (nd_ H (fun c H => (Nd.mk nf_ (Nd.mk nf_ (nd_ H (fun c H => (jD 960 [(2, .bp 0 0), (4, .bp 8 0)] [(0, .box [(aM b8), (aF a8), (aC a9), .own 936 (0 + (j9).toNat + 1 + (a7.length - (j9).toNat))]), (8, .box [.nil, .nil, .nil, .nil]), (936, .arr 52 4 ((((([] : List aA) ++ (a7.take (j9).toNat)) ++ ([(⟨aP ByteArray.empty l1 1, aP ByteArray.empty l1 2, aP ByteArray.empty l1 3, aP ByteArray.empty l1 4⟩ : aA)] : List aA)) ++ (a7.drop (j9).toNat)).map aH))] rfl ⟨.inl rfl, ⟨.inl rfl, trivial⟩⟩ ⟨rfl, ⟨rfl, ⟨fm_, trivial⟩⟩⟩ ?_)))))))))))))
  cases H
  exact eT [936] (bM (fS (bF (fZ rfl) (bF (fZ rfl) (bF (fZ rfl) (bF (jJ rfl lm_ lm_ rfl) (fW)))))) (bM (fV rfl) (eB)))
  refine Br.f ff_ (Br.f ff_ (Br.f ff_ (Br.f ff_ (Br.f ff_ (Br.f ff_ (Br.f ff_ (Br.f ff_ (Br.f ff_ (cu 832 [(2, .bp 0 0), (4, .bp 8 0), (6, .bp 640 0), (7, .int .i64 j9), (122, .bool false)] [(0, .box [(aM b8), (aF a8), (aC a9), (aE a7)]), (8, .box [.nil, .nil, .nil, .nil]), (640, .box [.str (aP ByteArray.empty l1 1), .str (aP ByteArray.empty l1 2), .str (aP ByteArray.empty l1 3), .str (aP ByteArray.empty l1 4)])] rfl rfl rfl (Br.f rfl (Or.inl (nd_ H (fun c H => (nd_ H (fun c H => (nd_ H (fun c H => (Or.inl (nd_ H (fun c H => (Nd.mk nf_ (Nd.mk nf_ (nd_ H (fun c H => (jD 960 [(2, .bp 0 0), (4, .bp 8 0)] [(0, .box [(aM b8), (aF a8), (aC a9), .own 936 (0 + (j9).toNat + 1 + (a7.length - (j9).toNat))]), (8, .box [.nil, .nil, .nil, .nil]), (936, .arr 52 4 ((((([] : List aA) ++ (a7.take (j9).toNat)) ++ ([(⟨aP ByteArray.empty l1 1, aP ByteArray.empty l1 2, aP ByteArray.empty l1 3, aP ByteArray.empty l1 4⟩ : aA)] : List aA)) ++ (a7.drop (j9).toNat)).map aH))] rfl ⟨.inl rfl, ⟨.inl rfl, trivial⟩⟩ ⟨rfl, ⟨rfl, ⟨fm_, trivial⟩⟩⟩ ?_)))))))))))))))))))))))))
  cases H
  exact eT [936] (bM (fS (bF (fZ rfl) (bF (fZ rfl) (bF (fZ rfl) (bF (jJ rfl lm_ lm_ rfl) (fW)))))) (bM (fV rfl) (eB)))
  refine cu 368 [(4, .bp 8 0), (5, .int .i64 3)] [(8, .box [(aM b8), (aF a8), (aC a9), (aE a7)])] rfl rfl rfl ?_
  cases H
  exact rts rfl
  refine Br.t ft_ (Br.t ft_ (Br.t ft_ (Br.t ft_ (Br.t ft_ (Br.t ft_ (Br.t ft_ (Br.t rfl (Br.t rfl (Br.t rfl (Br.t rfl (Br.t rfl (Br.t rfl (cu 344 [(1, (aM l1)), (2, .bp 0 0), (4, .bp 8 0), (47, .bool true)] [(0, .box [(aM b8), (aF a8), (aC a9), (aE a7)]), (8, .box [.nil, .nil, .nil, .nil])] rfl rfl rfl (Br.t rfl (cu 368 [(4, .bp 8 0), (5, .int .i64 3)] [(8, .box [(aM b8), (aF a8), (aC a9), (aE a7)])] rfl rfl rfl ?_)))))))))))))))
  cases H
  exact rts rfl
  refine Br.t ft_ (Br.t ft_ (Br.t ft_ (Br.t ft_ (Br.t ft_ (Br.t rfl (Br.t rfl (Br.t rfl (Br.t rfl (Br.t rfl (Br.t rfl (Br.t rfl (Br.t rfl (Br.t rfl (Br.t rfl (Br.t rfl (Br.t rfl (Br.t rfl (Br.t rfl (cu 344 [(1, (aM l1)), (2, .bp 0 0), (4, .bp 8 0), (47, .bool true)] [(0, .box [(aM b8), (aF a8), (aC a9), (aE a7)]), (8, .box [.nil, .nil, .nil, .nil])] rfl rfl rfl (Br.t rfl (cu 368 [(4, .bp 8 0), (5, .int .i64 3)] [(8, .box [(aM b8), (aF a8), (aC a9), (aE a7)])] rfl rfl rfl ?_)))))))))))))))))))))
  cases H
  exact rts rfl
  refine Br.t ft_ (Br.t ft_ (Br.t ft_ (Br.t ft_ (Br.t ft_ (Br.t rfl (Br.t rfl (Br.t rfl (Br.t rfl (Br.t rfl (Br.t rfl (Br.t rfl (Br.t rfl (Br.t rfl (Br.t rfl (Br.t rfl (Br.t rfl (Br.t rfl (Br.t rfl (Br.t rfl (Br.t rfl (Br.t rfl (Br.t rfl (Br.t rfl ?_)))))))))))))))))))))))
  refine Br.t rfl (cu 344 [(1, (aM l1)), (2, .bp 0 0), (4, .bp 8 0), (47, .bool true)] [(0, .box [(aM b8), (aF a8), (aC a9), (aE a7)]), (8, .box [.nil, .nil, .nil, .nil])] rfl rfl rfl (Br.t rfl (cu 368 [(4, .bp 8 0), (5, .int .i64 3)] [(8, .box [(aM b8), (aF a8), (aC a9), (aE a7)])] rfl rfl rfl ?_)))
  cases H
  exact rts rfl
  refine Br.t ft_ (Br.t ft_ (Br.t ft_ (Br.t ft_ (Br.t ft_ (Br.t rfl (Br.t rfl (Br.t rfl (Br.t rfl (Br.t rfl (Br.t rfl (Br.t rfl (Br.t rfl (Br.t rfl (Br.t rfl (Br.t rfl (Br.t rfl (Br.t rfl (Br.t rfl (Br.t rfl (Br.t rfl (Br.t rfl (Br.t rfl (Br.t rfl ?_)))))))))))))))))))))))
  refine Br.t rfl (Br.t rfl (Br.t rfl (Br.t rfl (Br.t rfl (Br.t rfl (Br.t rfl (cu 344 [(1, (aM l1)), (2, .bp 0 0), (4, .bp 8 0), (47, .bool true)] [(0, .box [(aM b8), (aF a8), (aC a9), (aE a7)]), (8, .box [.nil, .nil, .nil, .nil])] rfl rfl rfl (Br.t rfl (cu 368 [(4, .bp 8 0), (5, .int .i64 3)] [(8, .box [(aM b8), (aF a8), (aC a9), (aE a7)])] rfl rfl rfl ?_)))))))))
  cases H
  exact rts rfl
theorem gW.ac {k : Nat} {b8 : List ByteArray} {a8 : List aD} {a9 : List aB} {a7 : List aA} {l1 : List ByteArray} {r : (List ByteArray) × (List aD) × (List aB) × (List aA) × Int} (H : gW.f k b8 a8 a9 a7 l1 = some r) : cI Tryz.prog G 44 [] [.agg [(aM b8), (aF a8), (aC a9), (aE a7)], (aM l1)] [] (.tup [.agg [(aM r.1), (aF r.2.1), (aC r.2.2.1), (aE r.2.2.2.1)], .int .i64 r.2.2.2.2]) := by
  refine bO tok hP Tryz.func44 rfl (by kernel_rfl) [.cell 4 28, .tmp 5] rfl (by kernel_rfl) (Nat.le_of_ble_eq_true rfl) (.l .n (.l (.l .n (.l .n (.l (.c .n .n) (.c .n (.l .n (.l .n (.l .n (.l .n (.l (.c .n .n) (.l .n (.l (.c .n .n) .n))))))))))) .n)) rfl ?_
  unfold gW.f at H
  refine Nd.mk (by decide) (nd_ H (fun c H => (El.mk (aV _ _ nf_ nf_) (bJ H (fun c H => ?_) (fun c H => ?_)))))
  revert H; refine aN (fun M6 A H => (cmk (dD.ac A) rfl rfl (cu 120 [(4, .bp 8 0), (5, .int .i64 M6.2.2.2.2)] [(8, .box [(aM M6.1), (aF M6.2.1), (aC M6.2.2.1), (aE M6.2.2.2.1)])] rfl rfl rfl ?_)))
  cases H
  exact rts rfl
  refine cu 80 [(1, (aM l1)), (2, .bp 0 0), (4, .bp 8 0), (8, .str (aP ByteArray.empty l1 0)), (16, .bool (decide ((aP ByteArray.empty l1 0).toList = (⟨#[102, 111, 101]⟩ : ByteArray).toList)))] [(0, .box [(aM b8), (aF a8), (aC a9), (aE a7)]), (8, .box [.nil, .nil, .nil, .nil])] rfl rfl rfl (bJ H (fun c H => ?_) (fun c H => ?_))
  revert H; refine aN (fun Q6 A H => (cmk (cD.ac A) rfl rfl ?_))
  cases H
  exact rts rfl
  refine bJ H (fun c H => ?_) (fun c H => ?_)
  revert H; refine aN (fun Q7 A H => (cmk (gC.ac A) rfl rfl ?_))
  cases H
  exact rts rfl
  refine bJ H (fun c H => ?_) (fun c H => ?_)
  revert H; refine aN (fun M7 A H => (cmk (gO.ac A) rfl rfl (cu 168 [(4, .bp 8 0), (5, .int .i64 M7.2.2.2.2)] [(8, .box [(aM M7.1), (aF M7.2.1), (aC M7.2.2.1), (aE M7.2.2.2.1)])] rfl rfl rfl ?_)))
  cases H
  exact rts rfl
  refine bJ H (fun c H => ?_) (fun c H => ?_)
  revert H; refine aN (fun M8 A H => (cmk (bL.ac A) rfl rfl (cu 184 [(4, .bp 8 0), (5, .int .i64 M8.2.2.2.2)] [(8, .box [(aM M8.1), (aF M8.2.1), (aC M8.2.2.1), (aE M8.2.2.2.1)])] rfl rfl rfl ?_)))
  cases H
  exact rts rfl
  cases H
  exact rts rfl
theorem cV.ac {k : Nat} {b8 : List ByteArray} {a8 : List aD} {a9 : List aB} {a7 : List aA} {l1 : List ByteArray} {r : (List ByteArray) × (List aD) × (List aB) × (List aA)} (H : cV.f k b8 a8 a9 a7 l1 = some r) : cI Tryz.prog G 71 [] [.agg [(aM b8), (aF a8), (aC a9), (aE a7)], (aM l1)] [] (.agg [(aM r.1), (aF r.2.1), (aC r.2.2.1), (aE r.2.2.2)]) := by
  refine bO tok hP Tryz.func71 rfl (by kernel_rfl) [.cell 4 28] rfl (by kernel_rfl) (Nat.le_of_ble_eq_true rfl) (.l .n (.c .n .n)) rfl ?_
  unfold cV.f at H
  revert H; refine aN (fun M9 A H => (cmk (gW.ac A) rfl rfl (cu 88 [(2, .bp 0 0), (4, .bp 8 0), (5, .bp 64 0), (6, .int .i64 M9.2.2.2.2)] [(0, .box [(aM b8), (aF a8), (aC a9), (aE a7)]), (8, .box [.nil, .nil, .nil, .nil]), (64, .box [(aM M9.1), (aF M9.2.1), (aC M9.2.2.1), (aE M9.2.2.2.1)])] rfl rfl rfl (iS H (fun c H => ?_) (fun c H => ?_)))))
  cases H
  exact oD [] (rta rfl)
  cases H
  exact oD [] (rta rfl)
theorem cN.ac_ : ∀ (k : Nat) (a0 : Int) (r : ByteArray), cN.f k a0 = some r → cI Tryz.prog G 20 [] [.int .i64 a0] [] (.str r)
  | 0, _, _, H => bC H
  | k + 1, a0, r, H => by
    refine bO tok hP Tryz.func20 rfl (by kernel_rfl) [.tmp 2] rfl (by kernel_rfl) (Nat.le_of_ble_eq_true rfl) (.l .n (.l .n (.c .n .n))) rfl ?_
    rw [cN.f] at H
    refine bJ H (fun c H => ?_) (fun c H => ?_)
    refine Or.inl ?_
    cases H
    exact rz rfl
    refine Nd.mk (by decide) ?_
    revert H; refine aN (fun P0 A H => (cmk (cN.ac_ _ _ _ A) rfl rfl (Nd.mk (by decide) (Or.inl (nd_ H (fun c H => (cu 112 [(2, .str (P0 ++ (⟨#[UInt8.ofNat (IntKind.wrap .u8 (wrap64 (48 + (Int.tmod a0 10)))).toNat]⟩ : ByteArray)))] [] rfl rfl rfl ?_)))))))
    cases H
    exact rz rfl
theorem cN.ac {k : Nat} {a0 : Int} {r : ByteArray} (H : cN.f k a0 = some r) : cI Tryz.prog G 20 [] [.int .i64 a0] [] (.str r) := cN.ac_ _ _ _ H
theorem dT.ac {b8 : List ByteArray} {a8 : List aD} {a9 : List aB} {a7 : List aA} {r : (List ByteArray) × (List aD) × (List aB) × (List aA)} (H : dT.f b8 a8 a9 a7 = some r) : cI Tryz.prog G 45 [] [.agg [(aM b8), (aF a8), (aC a9), (aE a7)]] [] (.agg [(aM r.1), (aF r.2.1), (aC r.2.2.1), (aE r.2.2.2)]) := by
  refine bO tok hP Tryz.func45 rfl (by kernel_rfl) [.cell 2 28] rfl (by kernel_rfl) (Nat.le_of_ble_eq_true rfl) (.l .n (.c .n .n)) rfl ?_
  unfold dT.f at H
  refine Or.inl (nd_ H (fun c H => (Or.inl (nd_ H (fun c H => (Or.inl (nd_ H (fun c H => (Or.inl (nd_ H (fun c H => (jD 160 [(2, .bp 8 0)] [(8, .box [.own 40 (0 + b8.length), .own 72 (0 + a8.length), .own 104 (0 + a9.length), .own 136 (0 + a7.length)]), (40, .arr 9 1 ((([] : List ByteArray) ++ b8).map aR)), (72, .arr 47 2 ((([] : List aD) ++ a8).map aK)), (104, .arr 49 3 ((([] : List aB) ++ a9).map aI)), (136, .arr 52 4 ((([] : List aA) ++ a7).map aH))] rfl ⟨.inl rfl, trivial⟩ ⟨rfl, ⟨fm_, ⟨fm_, ⟨fm_, ⟨fm_, trivial⟩⟩⟩⟩⟩ ?_))))))))))))
  cases H
  exact oD [40, 72, 104, 136] (fS (bF (jJ rfl lm_ lm_ rfl) (bF (jJ rfl lm_ lm_ rfl) (bF (jJ rfl lm_ lm_ rfl) (bF (jJ rfl lm_ lm_ rfl) (fW))))))
theorem aJ.j0_sq {F : (Exit → St → Prop) → St → Prop} {hv : List Tmp} {K : St → Prop} {Q : Exit → St → Prop} {σ : St} {r : (List ByteArray) × (List aD) × (List aB) × (List aA) × (List Int) × Int} {KK : Nat} {x8 : Int} {g9 : List ByteArray} {i5 : List aD} {i6 : List aB} {i7 : List aA} {E5 : ByteArray × (List Int) × Int}
    (h1 : F (fun e σ' => match e with | .normal => ∃ (y : Nat × Bool) (rn : List (Option Nat)), (aJ.j0 y.1 x8 y.2 g9 i5 i6 i7 E5 = some r ∧ y.1 < KK) ∧ cG σ σ' [] [(74, .bool y.2)] [] [] rn | e => Q e σ') σ)
    (h2 : ∀ (k : Nat) (x74 : Bool), k < KK → aJ.j0 k x8 x74 g9 i5 i6 i7 E5 = some r → dL σ hv [] [(74, .bool x74)] [] [] K) : Sq F hv K Q σ := by
  unfold Sq
  refine ⟨Nat × Bool, fun x => aJ.j0 x.1 x8 x.2 g9 i5 i6 i7 E5 = some r ∧ x.1 < KK, [], fun x => [(74, .bool x.2)], fun x => [], fun x => [], h1, ?_⟩
  rintro ⟨k, x74⟩ ⟨H, hk⟩
  exact h2 k x74 hk H
theorem aJ.l5_lp {F : (Exit → St → Prop) → St → Prop} {hv : List Tmp} {Q : Exit → St → Prop} {σ : St} {r : (List ByteArray) × (List aD) × (List aB) × (List aA) × (List Int) × Int} {k : Nat} {x12 : Int} {w7 : List Int} {w8 : Int} {B1 : List ByteArray} {B2 : List aD} {B3 : List aB} {B4 : List aA} (H : aJ.l5 k x12 w7 w8 B1 B2 B3 B4 = some r) (rn : List (Option Nat)) (h1 : cG σ σ [0, 17] [(12, .int .i64 x12)] [(0, .box [(bV w7), .int .i64 w8]), (17, .box [(aM B1), (aF B2), (aC B3), (aE B4)])] [] rn)
    (h2 : ∀ (k0 : Nat) (x12 : Int) (w7 : List Int) (w8 : Int) (B1 : List ByteArray) (B2 : List aD) (B3 : List aB) (B4 : List aA), k0 < k + 1 → aJ.l5 k0 x12 w7 w8 B1 B2 B3 B4 = some r → dL σ hv [0, 17] [(12, .int .i64 x12)] [(0, .box [(bV w7), .int .i64 w8]), (17, .box [(aM B1), (aF B2), (aC B3), (aE B4)])] [] (F (fun e σ' => match e with | .normal => ∃ (y : Nat × Int × (List Int) × Int × (List ByteArray) × (List aD) × (List aB) × (List aA)) (rn : List (Option Nat)), (aJ.l5 y.1 y.2.1 y.2.2.1 y.2.2.2.1 y.2.2.2.2.1 y.2.2.2.2.2.1 y.2.2.2.2.2.2.1 y.2.2.2.2.2.2.2 = some r ∧ y.1 < k + 1) ∧ y.1 < k0 ∧ cG σ σ' [0, 17] [(12, .int .i64 y.2.1)] [(0, .box [(bV y.2.2.1), .int .i64 y.2.2.2.1]), (17, .box [(aM y.2.2.2.2.1), (aF y.2.2.2.2.2.1), (aC y.2.2.2.2.2.2.1), (aE y.2.2.2.2.2.2.2)])] [] rn | e => Q e σ'))) : Lp F hv Q σ := by
  unfold Lp
  refine ⟨Nat × Int × (List Int) × Int × (List ByteArray) × (List aD) × (List aB) × (List aA), fun x => aJ.l5 x.1 x.2.1 x.2.2.1 x.2.2.2.1 x.2.2.2.2.1 x.2.2.2.2.2.1 x.2.2.2.2.2.2.1 x.2.2.2.2.2.2.2 = some r ∧ x.1 < k + 1, fun x => x.1, [0, 17], fun x => [(12, .int .i64 x.2.1)], fun x => [(0, .box [(bV x.2.2.1), .int .i64 x.2.2.2.1]), (17, .box [(aM x.2.2.2.2.1), (aF x.2.2.2.2.2.1), (aC x.2.2.2.2.2.2.1), (aE x.2.2.2.2.2.2.2)])], fun x => [], ⟨(k, x12, w7, w8, B1, B2, B3, B4), rn, ⟨H, Nat.lt_succ_self _⟩, h1⟩, ?_⟩
  rintro ⟨k, x12, w7, w8, B1, B2, B3, B4⟩ ⟨H, hk⟩
  exact h2 k x12 w7 w8 B1 B2 B3 B4 hk H
theorem aJ.l4_lp {F : (Exit → St → Prop) → St → Prop} {hv : List Tmp} {Q : Exit → St → Prop} {σ : St} {r : (List ByteArray) × (List aD) × (List aB) × (List aA) × (List Int) × Int} {k : Nat} {E8 : Int × (List Int) × Int} {x11 : Int} {B5 : List ByteArray} {B6 : List aD} {B7 : List aB} {B8 : List aA} (H : aJ.l4 k x11 B5 B6 B7 B8 E8 = some r) (rn : List (Option Nat)) (h1 : cG σ σ [17] [(11, .int .i64 x11)] [(17, .box [(aM B5), (aF B6), (aC B7), (aE B8)])] [] rn)
    (h2 : ∀ (k0 : Nat) (x11 : Int) (B5 : List ByteArray) (B6 : List aD) (B7 : List aB) (B8 : List aA), k0 < k + 1 → aJ.l4 k0 x11 B5 B6 B7 B8 E8 = some r → dL σ hv [17] [(11, .int .i64 x11)] [(17, .box [(aM B5), (aF B6), (aC B7), (aE B8)])] [] (F (fun e σ' => match e with | .normal => ∃ (y : Nat × Int × (List ByteArray) × (List aD) × (List aB) × (List aA)) (rn : List (Option Nat)), (aJ.l4 y.1 y.2.1 y.2.2.1 y.2.2.2.1 y.2.2.2.2.1 y.2.2.2.2.2 E8 = some r ∧ y.1 < k + 1) ∧ y.1 < k0 ∧ cG σ σ' [17] [(11, .int .i64 y.2.1)] [(17, .box [(aM y.2.2.1), (aF y.2.2.2.1), (aC y.2.2.2.2.1), (aE y.2.2.2.2.2)])] [] rn | e => Q e σ'))) : Lp F hv Q σ := by
  unfold Lp
  refine ⟨Nat × Int × (List ByteArray) × (List aD) × (List aB) × (List aA), fun x => aJ.l4 x.1 x.2.1 x.2.2.1 x.2.2.2.1 x.2.2.2.2.1 x.2.2.2.2.2 E8 = some r ∧ x.1 < k + 1, fun x => x.1, [17], fun x => [(11, .int .i64 x.2.1)], fun x => [(17, .box [(aM x.2.2.1), (aF x.2.2.2.1), (aC x.2.2.2.2.1), (aE x.2.2.2.2.2)])], fun x => [], ⟨(k, x11, B5, B6, B7, B8), rn, ⟨H, Nat.lt_succ_self _⟩, h1⟩, ?_⟩
  rintro ⟨k, x11, B5, B6, B7, B8⟩ ⟨H, hk⟩
  exact h2 k x11 B5 B6 B7 B8 hk H
theorem aJ.l7_lp {F : (Exit → St → Prop) → St → Prop} {hv : List Tmp} {Q : Exit → St → Prop} {σ : St} {r : (List ByteArray) × (List aD) × (List aB) × (List aA) × (List Int) × Int} {k : Nat} {F9 : Int} {w9 : List Int} {A3 : Int} {B9 : List ByteArray} {C0 : List aD} {C1 : List aB} {C2 : List aA} (H : aJ.l7 k F9 w9 A3 B9 C0 C1 C2 = some r) (rn : List (Option Nat)) (h1 : cG σ σ [0, 17] [(12, .int .i64 F9)] [(0, .box [(bV w9), .int .i64 A3]), (17, .box [(aM B9), (aF C0), (aC C1), (aE C2)])] [] rn)
    (h2 : ∀ (k0 : Nat) (F9 : Int) (w9 : List Int) (A3 : Int) (B9 : List ByteArray) (C0 : List aD) (C1 : List aB) (C2 : List aA), k0 < k + 1 → aJ.l7 k0 F9 w9 A3 B9 C0 C1 C2 = some r → dL σ hv [0, 17] [(12, .int .i64 F9)] [(0, .box [(bV w9), .int .i64 A3]), (17, .box [(aM B9), (aF C0), (aC C1), (aE C2)])] [] (F (fun e σ' => match e with | .normal => ∃ (y : Nat × Int × (List Int) × Int × (List ByteArray) × (List aD) × (List aB) × (List aA)) (rn : List (Option Nat)), (aJ.l7 y.1 y.2.1 y.2.2.1 y.2.2.2.1 y.2.2.2.2.1 y.2.2.2.2.2.1 y.2.2.2.2.2.2.1 y.2.2.2.2.2.2.2 = some r ∧ y.1 < k + 1) ∧ y.1 < k0 ∧ cG σ σ' [0, 17] [(12, .int .i64 y.2.1)] [(0, .box [(bV y.2.2.1), .int .i64 y.2.2.2.1]), (17, .box [(aM y.2.2.2.2.1), (aF y.2.2.2.2.2.1), (aC y.2.2.2.2.2.2.1), (aE y.2.2.2.2.2.2.2)])] [] rn | e => Q e σ'))) : Lp F hv Q σ := by
  unfold Lp
  refine ⟨Nat × Int × (List Int) × Int × (List ByteArray) × (List aD) × (List aB) × (List aA), fun x => aJ.l7 x.1 x.2.1 x.2.2.1 x.2.2.2.1 x.2.2.2.2.1 x.2.2.2.2.2.1 x.2.2.2.2.2.2.1 x.2.2.2.2.2.2.2 = some r ∧ x.1 < k + 1, fun x => x.1, [0, 17], fun x => [(12, .int .i64 x.2.1)], fun x => [(0, .box [(bV x.2.2.1), .int .i64 x.2.2.2.1]), (17, .box [(aM x.2.2.2.2.1), (aF x.2.2.2.2.2.1), (aC x.2.2.2.2.2.2.1), (aE x.2.2.2.2.2.2.2)])], fun x => [], ⟨(k, F9, w9, A3, B9, C0, C1, C2), rn, ⟨H, Nat.lt_succ_self _⟩, h1⟩, ?_⟩
  rintro ⟨k, F9, w9, A3, B9, C0, C1, C2⟩ ⟨H, hk⟩
  exact h2 k F9 w9 A3 B9 C0 C1 C2 hk H
theorem aJ.l6_lp {F : (Exit → St → Prop) → St → Prop} {hv : List Tmp} {Q : Exit → St → Prop} {σ : St} {r : (List ByteArray) × (List aD) × (List aB) × (List aA) × (List Int) × Int} {k : Nat} {E9 : Int × (List Int) × Int} {G0 : Int} {C3 : List ByteArray} {C4 : List aD} {C5 : List aB} {C6 : List aA} (H : aJ.l6 k G0 C3 C4 C5 C6 E9 = some r) (rn : List (Option Nat)) (h1 : cG σ σ [17] [(11, .int .i64 G0)] [(17, .box [(aM C3), (aF C4), (aC C5), (aE C6)])] [] rn)
    (h2 : ∀ (k0 : Nat) (G0 : Int) (C3 : List ByteArray) (C4 : List aD) (C5 : List aB) (C6 : List aA), k0 < k + 1 → aJ.l6 k0 G0 C3 C4 C5 C6 E9 = some r → dL σ hv [17] [(11, .int .i64 G0)] [(17, .box [(aM C3), (aF C4), (aC C5), (aE C6)])] [] (F (fun e σ' => match e with | .normal => ∃ (y : Nat × Int × (List ByteArray) × (List aD) × (List aB) × (List aA)) (rn : List (Option Nat)), (aJ.l6 y.1 y.2.1 y.2.2.1 y.2.2.2.1 y.2.2.2.2.1 y.2.2.2.2.2 E9 = some r ∧ y.1 < k + 1) ∧ y.1 < k0 ∧ cG σ σ' [17] [(11, .int .i64 y.2.1)] [(17, .box [(aM y.2.2.1), (aF y.2.2.2.1), (aC y.2.2.2.2.1), (aE y.2.2.2.2.2)])] [] rn | e => Q e σ'))) : Lp F hv Q σ := by
  unfold Lp
  refine ⟨Nat × Int × (List ByteArray) × (List aD) × (List aB) × (List aA), fun x => aJ.l6 x.1 x.2.1 x.2.2.1 x.2.2.2.1 x.2.2.2.2.1 x.2.2.2.2.2 E9 = some r ∧ x.1 < k + 1, fun x => x.1, [17], fun x => [(11, .int .i64 x.2.1)], fun x => [(17, .box [(aM x.2.2.1), (aF x.2.2.2.1), (aC x.2.2.2.2.1), (aE x.2.2.2.2.2)])], fun x => [], ⟨(k, G0, C3, C4, C5, C6), rn, ⟨H, Nat.lt_succ_self _⟩, h1⟩, ?_⟩
  rintro ⟨k, G0, C3, C4, C5, C6⟩ ⟨H, hk⟩
  exact h2 k G0 C3 C4 C5 C6 hk H
theorem aJ.l3_lp {F : (Exit → St → Prop) → St → Prop} {hv : List Tmp} {Q : Exit → St → Prop} {σ : St} {r : (List ByteArray) × (List aD) × (List aB) × (List aA) × (List Int) × Int} {k : Nat} {x10 : Int} {r7 : List Int} {r8 : Int} {o6 : List ByteArray} {o7 : List aD} {e8 : List aB} {o8 : List aA} (H : aJ.l3 k x10 r7 r8 o6 o7 e8 o8 = some r) (rn : List (Option Nat)) (h1 : cG σ σ [0, 17, 182] [(10, .int .i64 x10)] [(0, .box [(bV r7), .int .i64 r8]), (17, .box [(aM o6), (aF o7), (aC e8), (aE o8)])] [] rn)
    (h2 : ∀ (k0 : Nat) (x10 : Int) (r7 : List Int) (r8 : Int) (o6 : List ByteArray) (o7 : List aD) (e8 : List aB) (o8 : List aA), k0 < k + 1 → aJ.l3 k0 x10 r7 r8 o6 o7 e8 o8 = some r → dL σ hv [0, 17, 182] [(10, .int .i64 x10)] [(0, .box [(bV r7), .int .i64 r8]), (17, .box [(aM o6), (aF o7), (aC e8), (aE o8)])] [] (F (fun e σ' => match e with | .normal => ∃ (y : Nat × Int × (List Int) × Int × (List ByteArray) × (List aD) × (List aB) × (List aA)) (rn : List (Option Nat)), (aJ.l3 y.1 y.2.1 y.2.2.1 y.2.2.2.1 y.2.2.2.2.1 y.2.2.2.2.2.1 y.2.2.2.2.2.2.1 y.2.2.2.2.2.2.2 = some r ∧ y.1 < k + 1) ∧ y.1 < k0 ∧ cG σ σ' [0, 17, 182] [(10, .int .i64 y.2.1)] [(0, .box [(bV y.2.2.1), .int .i64 y.2.2.2.1]), (17, .box [(aM y.2.2.2.2.1), (aF y.2.2.2.2.2.1), (aC y.2.2.2.2.2.2.1), (aE y.2.2.2.2.2.2.2)])] [] rn | e => Q e σ'))) : Lp F hv Q σ := by
  unfold Lp
  refine ⟨Nat × Int × (List Int) × Int × (List ByteArray) × (List aD) × (List aB) × (List aA), fun x => aJ.l3 x.1 x.2.1 x.2.2.1 x.2.2.2.1 x.2.2.2.2.1 x.2.2.2.2.2.1 x.2.2.2.2.2.2.1 x.2.2.2.2.2.2.2 = some r ∧ x.1 < k + 1, fun x => x.1, [0, 17, 182], fun x => [(10, .int .i64 x.2.1)], fun x => [(0, .box [(bV x.2.2.1), .int .i64 x.2.2.2.1]), (17, .box [(aM x.2.2.2.2.1), (aF x.2.2.2.2.2.1), (aC x.2.2.2.2.2.2.1), (aE x.2.2.2.2.2.2.2)])], fun x => [], ⟨(k, x10, r7, r8, o6, o7, e8, o8), rn, ⟨H, Nat.lt_succ_self _⟩, h1⟩, ?_⟩
  rintro ⟨k, x10, r7, r8, o6, o7, e8, o8⟩ ⟨H, hk⟩
  exact h2 k x10 r7 r8 o6 o7 e8 o8 hk H
theorem aJ.l2_lp {F : (Exit → St → Prop) → St → Prop} {hv : List Tmp} {Q : Exit → St → Prop} {σ : St} {r : (List ByteArray) × (List aD) × (List aB) × (List aA) × (List Int) × Int} {k : Nat} {x8 : Int} {C7 : List Int} {C8 : Int} {g9 : List ByteArray} {i5 : List aD} {i6 : List aB} {i7 : List aA} (H : aJ.l2 k x8 C7 C8 g9 i5 i6 i7 = some r) (rn : List (Option Nat)) (h1 : cG σ σ [0, 17] [(8, .int .i64 x8)] [(0, .box [(bV C7), .int .i64 C8]), (17, .box [(aM g9), (aF i5), (aC i6), (aE i7)])] [] rn)
    (h2 : ∀ (k0 : Nat) (x8 : Int) (C7 : List Int) (C8 : Int) (g9 : List ByteArray) (i5 : List aD) (i6 : List aB) (i7 : List aA), k0 < k + 1 → aJ.l2 k0 x8 C7 C8 g9 i5 i6 i7 = some r → dL σ hv [0, 17] [(8, .int .i64 x8)] [(0, .box [(bV C7), .int .i64 C8]), (17, .box [(aM g9), (aF i5), (aC i6), (aE i7)])] [] (F (fun e σ' => match e with | .normal => ∃ (y : Nat × Int × (List Int) × Int × (List ByteArray) × (List aD) × (List aB) × (List aA)) (rn : List (Option Nat)), (aJ.l2 y.1 y.2.1 y.2.2.1 y.2.2.2.1 y.2.2.2.2.1 y.2.2.2.2.2.1 y.2.2.2.2.2.2.1 y.2.2.2.2.2.2.2 = some r ∧ y.1 < k + 1) ∧ y.1 < k0 ∧ cG σ σ' [0, 17] [(8, .int .i64 y.2.1)] [(0, .box [(bV y.2.2.1), .int .i64 y.2.2.2.1]), (17, .box [(aM y.2.2.2.2.1), (aF y.2.2.2.2.2.1), (aC y.2.2.2.2.2.2.1), (aE y.2.2.2.2.2.2.2)])] [] rn | e => Q e σ'))) : Lp F hv Q σ := by
  unfold Lp
  refine ⟨Nat × Int × (List Int) × Int × (List ByteArray) × (List aD) × (List aB) × (List aA), fun x => aJ.l2 x.1 x.2.1 x.2.2.1 x.2.2.2.1 x.2.2.2.2.1 x.2.2.2.2.2.1 x.2.2.2.2.2.2.1 x.2.2.2.2.2.2.2 = some r ∧ x.1 < k + 1, fun x => x.1, [0, 17], fun x => [(8, .int .i64 x.2.1)], fun x => [(0, .box [(bV x.2.2.1), .int .i64 x.2.2.2.1]), (17, .box [(aM x.2.2.2.2.1), (aF x.2.2.2.2.2.1), (aC x.2.2.2.2.2.2.1), (aE x.2.2.2.2.2.2.2)])], fun x => [], ⟨(k, x8, C7, C8, g9, i5, i6, i7), rn, ⟨H, Nat.lt_succ_self _⟩, h1⟩, ?_⟩
  rintro ⟨k, x8, C7, C8, g9, i5, i6, i7⟩ ⟨H, hk⟩
  exact h2 k x8 C7 C8 g9 i5 i6 i7 hk H
theorem aJ.j1_sq {F : (Exit → St → Prop) → St → Prop} {hv : List Tmp} {K : St → Prop} {Q : Exit → St → Prop} {σ : St} {r : (List ByteArray) × (List aD) × (List aB) × (List aA) × (List Int) × Int} {KK : Nat} {E1 : Int} {i8 : List ByteArray} {j5 : List aD} {j6 : List aB} {j7 : List aA} {E6 : ByteArray × (List Int) × Int}
    (h1 : F (fun e σ' => match e with | .normal => ∃ (y : Nat × Bool) (rn : List (Option Nat)), (aJ.j1 y.1 E1 y.2 i8 j5 j6 j7 E6 = some r ∧ y.1 < KK) ∧ cG σ σ' [] [(74, .bool y.2)] [] [] rn | e => Q e σ') σ)
    (h2 : ∀ (k : Nat) (N0 : Bool), k < KK → aJ.j1 k E1 N0 i8 j5 j6 j7 E6 = some r → dL σ hv [] [(74, .bool N0)] [] [] K) : Sq F hv K Q σ := by
  unfold Sq
  refine ⟨Nat × Bool, fun x => aJ.j1 x.1 E1 x.2 i8 j5 j6 j7 E6 = some r ∧ x.1 < KK, [], fun x => [(74, .bool x.2)], fun x => [], fun x => [], h1, ?_⟩
  rintro ⟨k, N0⟩ ⟨H, hk⟩
  exact h2 k N0 hk H
theorem aJ.l11_lp {F : (Exit → St → Prop) → St → Prop} {hv : List Tmp} {Q : Exit → St → Prop} {σ : St} {r : (List ByteArray) × (List aD) × (List aB) × (List aA) × (List Int) × Int} {k : Nat} {G1 : Int} {A4 : List Int} {A5 : Int} {t7 : List ByteArray} {t8 : List aD} {t9 : List aB} {u4 : List aA} (H : aJ.l11 k G1 A4 A5 t7 t8 t9 u4 = some r) (rn : List (Option Nat)) (h1 : cG σ σ [0, 17] [(12, .int .i64 G1)] [(0, .box [(bV A4), .int .i64 A5]), (17, .box [(aM t7), (aF t8), (aC t9), (aE u4)])] [] rn)
    (h2 : ∀ (k0 : Nat) (G1 : Int) (A4 : List Int) (A5 : Int) (t7 : List ByteArray) (t8 : List aD) (t9 : List aB) (u4 : List aA), k0 < k + 1 → aJ.l11 k0 G1 A4 A5 t7 t8 t9 u4 = some r → dL σ hv [0, 17] [(12, .int .i64 G1)] [(0, .box [(bV A4), .int .i64 A5]), (17, .box [(aM t7), (aF t8), (aC t9), (aE u4)])] [] (F (fun e σ' => match e with | .normal => ∃ (y : Nat × Int × (List Int) × Int × (List ByteArray) × (List aD) × (List aB) × (List aA)) (rn : List (Option Nat)), (aJ.l11 y.1 y.2.1 y.2.2.1 y.2.2.2.1 y.2.2.2.2.1 y.2.2.2.2.2.1 y.2.2.2.2.2.2.1 y.2.2.2.2.2.2.2 = some r ∧ y.1 < k + 1) ∧ y.1 < k0 ∧ cG σ σ' [0, 17] [(12, .int .i64 y.2.1)] [(0, .box [(bV y.2.2.1), .int .i64 y.2.2.2.1]), (17, .box [(aM y.2.2.2.2.1), (aF y.2.2.2.2.2.1), (aC y.2.2.2.2.2.2.1), (aE y.2.2.2.2.2.2.2)])] [] rn | e => Q e σ'))) : Lp F hv Q σ := by
  unfold Lp
  refine ⟨Nat × Int × (List Int) × Int × (List ByteArray) × (List aD) × (List aB) × (List aA), fun x => aJ.l11 x.1 x.2.1 x.2.2.1 x.2.2.2.1 x.2.2.2.2.1 x.2.2.2.2.2.1 x.2.2.2.2.2.2.1 x.2.2.2.2.2.2.2 = some r ∧ x.1 < k + 1, fun x => x.1, [0, 17], fun x => [(12, .int .i64 x.2.1)], fun x => [(0, .box [(bV x.2.2.1), .int .i64 x.2.2.2.1]), (17, .box [(aM x.2.2.2.2.1), (aF x.2.2.2.2.2.1), (aC x.2.2.2.2.2.2.1), (aE x.2.2.2.2.2.2.2)])], fun x => [], ⟨(k, G1, A4, A5, t7, t8, t9, u4), rn, ⟨H, Nat.lt_succ_self _⟩, h1⟩, ?_⟩
  rintro ⟨k, G1, A4, A5, t7, t8, t9, u4⟩ ⟨H, hk⟩
  exact h2 k G1 A4 A5 t7 t8 t9 u4 hk H
theorem aJ.l10_lp {F : (Exit → St → Prop) → St → Prop} {hv : List Tmp} {Q : Exit → St → Prop} {σ : St} {r : (List ByteArray) × (List aD) × (List aB) × (List aA) × (List Int) × Int} {k : Nat} {F2 : Int × (List Int) × Int} {G2 : Int} {u5 : List ByteArray} {u6 : List aD} {u7 : List aB} {u9 : List aA} (H : aJ.l10 k G2 u5 u6 u7 u9 F2 = some r) (rn : List (Option Nat)) (h1 : cG σ σ [17] [(11, .int .i64 G2)] [(17, .box [(aM u5), (aF u6), (aC u7), (aE u9)])] [] rn)
    (h2 : ∀ (k0 : Nat) (G2 : Int) (u5 : List ByteArray) (u6 : List aD) (u7 : List aB) (u9 : List aA), k0 < k + 1 → aJ.l10 k0 G2 u5 u6 u7 u9 F2 = some r → dL σ hv [17] [(11, .int .i64 G2)] [(17, .box [(aM u5), (aF u6), (aC u7), (aE u9)])] [] (F (fun e σ' => match e with | .normal => ∃ (y : Nat × Int × (List ByteArray) × (List aD) × (List aB) × (List aA)) (rn : List (Option Nat)), (aJ.l10 y.1 y.2.1 y.2.2.1 y.2.2.2.1 y.2.2.2.2.1 y.2.2.2.2.2 F2 = some r ∧ y.1 < k + 1) ∧ y.1 < k0 ∧ cG σ σ' [17] [(11, .int .i64 y.2.1)] [(17, .box [(aM y.2.2.1), (aF y.2.2.2.1), (aC y.2.2.2.2.1), (aE y.2.2.2.2.2)])] [] rn | e => Q e σ'))) : Lp F hv Q σ := by
  unfold Lp
  refine ⟨Nat × Int × (List ByteArray) × (List aD) × (List aB) × (List aA), fun x => aJ.l10 x.1 x.2.1 x.2.2.1 x.2.2.2.1 x.2.2.2.2.1 x.2.2.2.2.2 F2 = some r ∧ x.1 < k + 1, fun x => x.1, [17], fun x => [(11, .int .i64 x.2.1)], fun x => [(17, .box [(aM x.2.2.1), (aF x.2.2.2.1), (aC x.2.2.2.2.1), (aE x.2.2.2.2.2)])], fun x => [], ⟨(k, G2, u5, u6, u7, u9), rn, ⟨H, Nat.lt_succ_self _⟩, h1⟩, ?_⟩
  rintro ⟨k, G2, u5, u6, u7, u9⟩ ⟨H, hk⟩
  exact h2 k G2 u5 u6 u7 u9 hk H
theorem aJ.l13_lp {F : (Exit → St → Prop) → St → Prop} {hv : List Tmp} {Q : Exit → St → Prop} {σ : St} {r : (List ByteArray) × (List aD) × (List aB) × (List aA) × (List Int) × Int} {k : Nat} {G3 : Int} {A6 : List Int} {A7 : Int} {v3 : List ByteArray} {v4 : List aD} {v5 : List aB} {v6 : List aA} (H : aJ.l13 k G3 A6 A7 v3 v4 v5 v6 = some r) (rn : List (Option Nat)) (h1 : cG σ σ [0, 17] [(12, .int .i64 G3)] [(0, .box [(bV A6), .int .i64 A7]), (17, .box [(aM v3), (aF v4), (aC v5), (aE v6)])] [] rn)
    (h2 : ∀ (k0 : Nat) (G3 : Int) (A6 : List Int) (A7 : Int) (v3 : List ByteArray) (v4 : List aD) (v5 : List aB) (v6 : List aA), k0 < k + 1 → aJ.l13 k0 G3 A6 A7 v3 v4 v5 v6 = some r → dL σ hv [0, 17] [(12, .int .i64 G3)] [(0, .box [(bV A6), .int .i64 A7]), (17, .box [(aM v3), (aF v4), (aC v5), (aE v6)])] [] (F (fun e σ' => match e with | .normal => ∃ (y : Nat × Int × (List Int) × Int × (List ByteArray) × (List aD) × (List aB) × (List aA)) (rn : List (Option Nat)), (aJ.l13 y.1 y.2.1 y.2.2.1 y.2.2.2.1 y.2.2.2.2.1 y.2.2.2.2.2.1 y.2.2.2.2.2.2.1 y.2.2.2.2.2.2.2 = some r ∧ y.1 < k + 1) ∧ y.1 < k0 ∧ cG σ σ' [0, 17] [(12, .int .i64 y.2.1)] [(0, .box [(bV y.2.2.1), .int .i64 y.2.2.2.1]), (17, .box [(aM y.2.2.2.2.1), (aF y.2.2.2.2.2.1), (aC y.2.2.2.2.2.2.1), (aE y.2.2.2.2.2.2.2)])] [] rn | e => Q e σ'))) : Lp F hv Q σ := by
  unfold Lp
  refine ⟨Nat × Int × (List Int) × Int × (List ByteArray) × (List aD) × (List aB) × (List aA), fun x => aJ.l13 x.1 x.2.1 x.2.2.1 x.2.2.2.1 x.2.2.2.2.1 x.2.2.2.2.2.1 x.2.2.2.2.2.2.1 x.2.2.2.2.2.2.2 = some r ∧ x.1 < k + 1, fun x => x.1, [0, 17], fun x => [(12, .int .i64 x.2.1)], fun x => [(0, .box [(bV x.2.2.1), .int .i64 x.2.2.2.1]), (17, .box [(aM x.2.2.2.2.1), (aF x.2.2.2.2.2.1), (aC x.2.2.2.2.2.2.1), (aE x.2.2.2.2.2.2.2)])], fun x => [], ⟨(k, G3, A6, A7, v3, v4, v5, v6), rn, ⟨H, Nat.lt_succ_self _⟩, h1⟩, ?_⟩
  rintro ⟨k, G3, A6, A7, v3, v4, v5, v6⟩ ⟨H, hk⟩
  exact h2 k G3 A6 A7 v3 v4 v5 v6 hk H
theorem aJ.l12_lp {F : (Exit → St → Prop) → St → Prop} {hv : List Tmp} {Q : Exit → St → Prop} {σ : St} {r : (List ByteArray) × (List aD) × (List aB) × (List aA) × (List Int) × Int} {k : Nat} {F3 : Int × (List Int) × Int} {G4 : Int} {v7 : List ByteArray} {v8 : List aD} {v9 : List aB} {w5 : List aA} (H : aJ.l12 k G4 v7 v8 v9 w5 F3 = some r) (rn : List (Option Nat)) (h1 : cG σ σ [17] [(11, .int .i64 G4)] [(17, .box [(aM v7), (aF v8), (aC v9), (aE w5)])] [] rn)
    (h2 : ∀ (k0 : Nat) (G4 : Int) (v7 : List ByteArray) (v8 : List aD) (v9 : List aB) (w5 : List aA), k0 < k + 1 → aJ.l12 k0 G4 v7 v8 v9 w5 F3 = some r → dL σ hv [17] [(11, .int .i64 G4)] [(17, .box [(aM v7), (aF v8), (aC v9), (aE w5)])] [] (F (fun e σ' => match e with | .normal => ∃ (y : Nat × Int × (List ByteArray) × (List aD) × (List aB) × (List aA)) (rn : List (Option Nat)), (aJ.l12 y.1 y.2.1 y.2.2.1 y.2.2.2.1 y.2.2.2.2.1 y.2.2.2.2.2 F3 = some r ∧ y.1 < k + 1) ∧ y.1 < k0 ∧ cG σ σ' [17] [(11, .int .i64 y.2.1)] [(17, .box [(aM y.2.2.1), (aF y.2.2.2.1), (aC y.2.2.2.2.1), (aE y.2.2.2.2.2)])] [] rn | e => Q e σ'))) : Lp F hv Q σ := by
  unfold Lp
  refine ⟨Nat × Int × (List ByteArray) × (List aD) × (List aB) × (List aA), fun x => aJ.l12 x.1 x.2.1 x.2.2.1 x.2.2.2.1 x.2.2.2.2.1 x.2.2.2.2.2 F3 = some r ∧ x.1 < k + 1, fun x => x.1, [17], fun x => [(11, .int .i64 x.2.1)], fun x => [(17, .box [(aM x.2.2.1), (aF x.2.2.2.1), (aC x.2.2.2.2.1), (aE x.2.2.2.2.2)])], fun x => [], ⟨(k, G4, v7, v8, v9, w5), rn, ⟨H, Nat.lt_succ_self _⟩, h1⟩, ?_⟩
  rintro ⟨k, G4, v7, v8, v9, w5⟩ ⟨H, hk⟩
  exact h2 k G4 v7 v8 v9 w5 hk H
theorem aJ.l9_lp {F : (Exit → St → Prop) → St → Prop} {hv : List Tmp} {Q : Exit → St → Prop} {σ : St} {r : (List ByteArray) × (List aD) × (List aB) × (List aA) × (List Int) × Int} {k : Nat} {F7 : Int} {r9 : List Int} {s5 : Int} {o9 : List ByteArray} {p5 : List aD} {g7 : List aB} {p6 : List aA} (H : aJ.l9 k F7 r9 s5 o9 p5 g7 p6 = some r) (rn : List (Option Nat)) (h1 : cG σ σ [0, 17, 182] [(10, .int .i64 F7)] [(0, .box [(bV r9), .int .i64 s5]), (17, .box [(aM o9), (aF p5), (aC g7), (aE p6)])] [] rn)
    (h2 : ∀ (k0 : Nat) (F7 : Int) (r9 : List Int) (s5 : Int) (o9 : List ByteArray) (p5 : List aD) (g7 : List aB) (p6 : List aA), k0 < k + 1 → aJ.l9 k0 F7 r9 s5 o9 p5 g7 p6 = some r → dL σ hv [0, 17, 182] [(10, .int .i64 F7)] [(0, .box [(bV r9), .int .i64 s5]), (17, .box [(aM o9), (aF p5), (aC g7), (aE p6)])] [] (F (fun e σ' => match e with | .normal => ∃ (y : Nat × Int × (List Int) × Int × (List ByteArray) × (List aD) × (List aB) × (List aA)) (rn : List (Option Nat)), (aJ.l9 y.1 y.2.1 y.2.2.1 y.2.2.2.1 y.2.2.2.2.1 y.2.2.2.2.2.1 y.2.2.2.2.2.2.1 y.2.2.2.2.2.2.2 = some r ∧ y.1 < k + 1) ∧ y.1 < k0 ∧ cG σ σ' [0, 17, 182] [(10, .int .i64 y.2.1)] [(0, .box [(bV y.2.2.1), .int .i64 y.2.2.2.1]), (17, .box [(aM y.2.2.2.2.1), (aF y.2.2.2.2.2.1), (aC y.2.2.2.2.2.2.1), (aE y.2.2.2.2.2.2.2)])] [] rn | e => Q e σ'))) : Lp F hv Q σ := by
  unfold Lp
  refine ⟨Nat × Int × (List Int) × Int × (List ByteArray) × (List aD) × (List aB) × (List aA), fun x => aJ.l9 x.1 x.2.1 x.2.2.1 x.2.2.2.1 x.2.2.2.2.1 x.2.2.2.2.2.1 x.2.2.2.2.2.2.1 x.2.2.2.2.2.2.2 = some r ∧ x.1 < k + 1, fun x => x.1, [0, 17, 182], fun x => [(10, .int .i64 x.2.1)], fun x => [(0, .box [(bV x.2.2.1), .int .i64 x.2.2.2.1]), (17, .box [(aM x.2.2.2.2.1), (aF x.2.2.2.2.2.1), (aC x.2.2.2.2.2.2.1), (aE x.2.2.2.2.2.2.2)])], fun x => [], ⟨(k, F7, r9, s5, o9, p5, g7, p6), rn, ⟨H, Nat.lt_succ_self _⟩, h1⟩, ?_⟩
  rintro ⟨k, F7, r9, s5, o9, p5, g7, p6⟩ ⟨H, hk⟩
  exact h2 k F7 r9 s5 o9 p5 g7 p6 hk H
theorem aJ.l8_lp {F : (Exit → St → Prop) → St → Prop} {hv : List Tmp} {Q : Exit → St → Prop} {σ : St} {r : (List ByteArray) × (List aD) × (List aB) × (List aA) × (List Int) × Int} {k : Nat} {E1 : Int} {C9 : List Int} {D0 : Int} {i8 : List ByteArray} {j5 : List aD} {j6 : List aB} {j7 : List aA} (H : aJ.l8 k E1 C9 D0 i8 j5 j6 j7 = some r) (rn : List (Option Nat)) (h1 : cG σ σ [0, 17] [(8, .int .i64 E1)] [(0, .box [(bV C9), .int .i64 D0]), (17, .box [(aM i8), (aF j5), (aC j6), (aE j7)])] [] rn)
    (h2 : ∀ (k0 : Nat) (E1 : Int) (C9 : List Int) (D0 : Int) (i8 : List ByteArray) (j5 : List aD) (j6 : List aB) (j7 : List aA), k0 < k + 1 → aJ.l8 k0 E1 C9 D0 i8 j5 j6 j7 = some r → dL σ hv [0, 17] [(8, .int .i64 E1)] [(0, .box [(bV C9), .int .i64 D0]), (17, .box [(aM i8), (aF j5), (aC j6), (aE j7)])] [] (F (fun e σ' => match e with | .normal => ∃ (y : Nat × Int × (List Int) × Int × (List ByteArray) × (List aD) × (List aB) × (List aA)) (rn : List (Option Nat)), (aJ.l8 y.1 y.2.1 y.2.2.1 y.2.2.2.1 y.2.2.2.2.1 y.2.2.2.2.2.1 y.2.2.2.2.2.2.1 y.2.2.2.2.2.2.2 = some r ∧ y.1 < k + 1) ∧ y.1 < k0 ∧ cG σ σ' [0, 17] [(8, .int .i64 y.2.1)] [(0, .box [(bV y.2.2.1), .int .i64 y.2.2.2.1]), (17, .box [(aM y.2.2.2.2.1), (aF y.2.2.2.2.2.1), (aC y.2.2.2.2.2.2.1), (aE y.2.2.2.2.2.2.2)])] [] rn | e => Q e σ'))) : Lp F hv Q σ := by
  unfold Lp
  refine ⟨Nat × Int × (List Int) × Int × (List ByteArray) × (List aD) × (List aB) × (List aA), fun x => aJ.l8 x.1 x.2.1 x.2.2.1 x.2.2.2.1 x.2.2.2.2.1 x.2.2.2.2.2.1 x.2.2.2.2.2.2.1 x.2.2.2.2.2.2.2 = some r ∧ x.1 < k + 1, fun x => x.1, [0, 17], fun x => [(8, .int .i64 x.2.1)], fun x => [(0, .box [(bV x.2.2.1), .int .i64 x.2.2.2.1]), (17, .box [(aM x.2.2.2.2.1), (aF x.2.2.2.2.2.1), (aC x.2.2.2.2.2.2.1), (aE x.2.2.2.2.2.2.2)])], fun x => [], ⟨(k, E1, C9, D0, i8, j5, j6, j7), rn, ⟨H, Nat.lt_succ_self _⟩, h1⟩, ?_⟩
  rintro ⟨k, E1, C9, D0, i8, j5, j6, j7⟩ ⟨H, hk⟩
  exact h2 k E1 C9 D0 i8 j5 j6 j7 hk H
theorem aJ.l1_lp {F : (Exit → St → Prop) → St → Prop} {hv : List Tmp} {Q : Exit → St → Prop} {σ : St} {r : (List ByteArray) × (List aD) × (List aB) × (List aA) × (List Int) × Int} {k : Nat} {x6 : Int} {c9 : List Int} {d6 : Int} {m8 : List ByteArray} {s6 : List aD} {s7 : List aB} {s8 : List aA} (H : aJ.l1 k x6 c9 d6 m8 s6 s7 s8 = some r) (rn : List (Option Nat)) (h1 : cG σ σ [0, 17] [(6, .int .i64 x6)] [(0, .box [(bV c9), .int .i64 d6]), (17, .box [(aM m8), (aF s6), (aC s7), (aE s8)])] [] rn)
    (h2 : ∀ (k0 : Nat) (x6 : Int) (c9 : List Int) (d6 : Int) (m8 : List ByteArray) (s6 : List aD) (s7 : List aB) (s8 : List aA), k0 < k + 1 → aJ.l1 k0 x6 c9 d6 m8 s6 s7 s8 = some r → dL σ hv [0, 17] [(6, .int .i64 x6)] [(0, .box [(bV c9), .int .i64 d6]), (17, .box [(aM m8), (aF s6), (aC s7), (aE s8)])] [] (F (fun e σ' => match e with | .normal => ∃ (y : Nat × Int × (List Int) × Int × (List ByteArray) × (List aD) × (List aB) × (List aA)) (rn : List (Option Nat)), (aJ.l1 y.1 y.2.1 y.2.2.1 y.2.2.2.1 y.2.2.2.2.1 y.2.2.2.2.2.1 y.2.2.2.2.2.2.1 y.2.2.2.2.2.2.2 = some r ∧ y.1 < k + 1) ∧ y.1 < k0 ∧ cG σ σ' [0, 17] [(6, .int .i64 y.2.1)] [(0, .box [(bV y.2.2.1), .int .i64 y.2.2.2.1]), (17, .box [(aM y.2.2.2.2.1), (aF y.2.2.2.2.2.1), (aC y.2.2.2.2.2.2.1), (aE y.2.2.2.2.2.2.2)])] [] rn | e => Q e σ'))) : Lp F hv Q σ := by
  unfold Lp
  refine ⟨Nat × Int × (List Int) × Int × (List ByteArray) × (List aD) × (List aB) × (List aA), fun x => aJ.l1 x.1 x.2.1 x.2.2.1 x.2.2.2.1 x.2.2.2.2.1 x.2.2.2.2.2.1 x.2.2.2.2.2.2.1 x.2.2.2.2.2.2.2 = some r ∧ x.1 < k + 1, fun x => x.1, [0, 17], fun x => [(6, .int .i64 x.2.1)], fun x => [(0, .box [(bV x.2.2.1), .int .i64 x.2.2.2.1]), (17, .box [(aM x.2.2.2.2.1), (aF x.2.2.2.2.2.1), (aC x.2.2.2.2.2.2.1), (aE x.2.2.2.2.2.2.2)])], fun x => [], ⟨(k, x6, c9, d6, m8, s6, s7, s8), rn, ⟨H, Nat.lt_succ_self _⟩, h1⟩, ?_⟩
  rintro ⟨k, x6, c9, d6, m8, s6, s7, s8⟩ ⟨H, hk⟩
  exact h2 k x6 c9 d6 m8 s6 s7 s8 hk H
theorem aJ.l0_lp {F : (Exit → St → Prop) → St → Prop} {hv : List Tmp} {Q : Exit → St → Prop} {σ : St} {r : (List ByteArray) × (List aD) × (List aB) × (List aA) × (List Int) × Int} {k : Nat} {x4 : List ByteArray} {x5 : Int} {d8 : List Int} {d9 : Int} {k8 : List ByteArray} {m9 : List aD} {o0 : List aB} {o5 : List aA} (H : aJ.l0 k x4 x5 d8 d9 k8 m9 o0 o5 = some r) (rn : List (Option Nat)) (h1 : cG σ σ [0, 17, 33] [(4, .own 0 x4.length), (5, .int .i64 x5)] [(0, .box [(bV d8), .int .i64 d9]), (17, .box [.own 1 k8.length, .own 2 m9.length, .own 3 o0.length, .own 4 o5.length])] [.arr 9 1 (x4.map aR), .arr 9 1 (k8.map aR), .arr 47 2 (m9.map aK), .arr 49 3 (o0.map aI), .arr 52 4 (o5.map aH)] rn)
    (h2 : ∀ (k0 : Nat) (x4 : List ByteArray) (x5 : Int) (d8 : List Int) (d9 : Int) (k8 : List ByteArray) (m9 : List aD) (o0 : List aB) (o5 : List aA), k0 < k + 1 → aJ.l0 k0 x4 x5 d8 d9 k8 m9 o0 o5 = some r → dL σ hv [0, 17, 33] [(4, .own 0 x4.length), (5, .int .i64 x5)] [(0, .box [(bV d8), .int .i64 d9]), (17, .box [.own 1 k8.length, .own 2 m9.length, .own 3 o0.length, .own 4 o5.length])] [.arr 9 1 (x4.map aR), .arr 9 1 (k8.map aR), .arr 47 2 (m9.map aK), .arr 49 3 (o0.map aI), .arr 52 4 (o5.map aH)] (F (fun e σ' => match e with | .normal => ∃ (y : Nat × (List ByteArray) × Int × (List Int) × Int × (List ByteArray) × (List aD) × (List aB) × (List aA)) (rn : List (Option Nat)), (aJ.l0 y.1 y.2.1 y.2.2.1 y.2.2.2.1 y.2.2.2.2.1 y.2.2.2.2.2.1 y.2.2.2.2.2.2.1 y.2.2.2.2.2.2.2.1 y.2.2.2.2.2.2.2.2 = some r ∧ y.1 < k + 1) ∧ y.1 < k0 ∧ cG σ σ' [0, 17, 33] [(4, .own 0 y.2.1.length), (5, .int .i64 y.2.2.1)] [(0, .box [(bV y.2.2.2.1), .int .i64 y.2.2.2.2.1]), (17, .box [.own 1 y.2.2.2.2.2.1.length, .own 2 y.2.2.2.2.2.2.1.length, .own 3 y.2.2.2.2.2.2.2.1.length, .own 4 y.2.2.2.2.2.2.2.2.length])] [.arr 9 1 (y.2.1.map aR), .arr 9 1 (y.2.2.2.2.2.1.map aR), .arr 47 2 (y.2.2.2.2.2.2.1.map aK), .arr 49 3 (y.2.2.2.2.2.2.2.1.map aI), .arr 52 4 (y.2.2.2.2.2.2.2.2.map aH)] rn | e => Q e σ'))) : Lp F hv Q σ := by
  unfold Lp
  refine ⟨Nat × (List ByteArray) × Int × (List Int) × Int × (List ByteArray) × (List aD) × (List aB) × (List aA), fun x => aJ.l0 x.1 x.2.1 x.2.2.1 x.2.2.2.1 x.2.2.2.2.1 x.2.2.2.2.2.1 x.2.2.2.2.2.2.1 x.2.2.2.2.2.2.2.1 x.2.2.2.2.2.2.2.2 = some r ∧ x.1 < k + 1, fun x => x.1, [0, 17, 33], fun x => [(4, .own 0 x.2.1.length), (5, .int .i64 x.2.2.1)], fun x => [(0, .box [(bV x.2.2.2.1), .int .i64 x.2.2.2.2.1]), (17, .box [.own 1 x.2.2.2.2.2.1.length, .own 2 x.2.2.2.2.2.2.1.length, .own 3 x.2.2.2.2.2.2.2.1.length, .own 4 x.2.2.2.2.2.2.2.2.length])], fun x => [.arr 9 1 (x.2.1.map aR), .arr 9 1 (x.2.2.2.2.2.1.map aR), .arr 47 2 (x.2.2.2.2.2.2.1.map aK), .arr 49 3 (x.2.2.2.2.2.2.2.1.map aI), .arr 52 4 (x.2.2.2.2.2.2.2.2.map aH)], ⟨(k, x4, x5, d8, d9, k8, m9, o0, o5), rn, ⟨H, Nat.lt_succ_self _⟩, h1⟩, ?_⟩
  rintro ⟨k, x4, x5, d8, d9, k8, m9, o0, o5⟩ ⟨H, hk⟩
  exact h2 k x4 x5 d8 d9 k8 m9 o0 o5 hk H
theorem aJ.ac {k : Nat} {b8 : List Int} {a8 : Int} {r : (List ByteArray) × (List aD) × (List aB) × (List aA) × (List Int) × Int} (H : aJ.f k b8 a8 = some r) : cI Tryz.prog G 46 [.box [(bV b8), .int .i64 a8]] [.bp 0 0] [.box [(bV r.2.2.2.2.1), .int .i64 r.2.2.2.2.2]] (.agg [(aM r.1), (aF r.2.1), (aC r.2.2.1), (aE r.2.2.2.1)]) := by
  refine bO tok hP Tryz.func46 rfl (by kernel_rfl) [.cell 2 28] rfl (by kernel_rfl) (Nat.le_of_ble_eq_true rfl) (.l .n (.l .n (.l .n (.l (.l .n (.l (.c .n .n) (.c .n .n))) (.l (.f 1 .n (.l .n (.c .n .n))) (.c .n (.l (.l .n (.l .n (.l (.l .n (.c .n (.j .n .n))) .n))) (.l (.l .n (.l (.c .n .n) (.c .n .n))) (.l (.l .n (.l (.l (.l .n (.l .n (.c .n .n))) (.l .n (.l .n (.c .n .n)))) .n)) (.c .n .n)))))))))) rfl ?_
  unfold aJ.f at H
  refine Or.inl (aJ.l0_lp (k := k) H [some 33, none, none, none, none] (bR ⟨fY lm_, ⟨.inl ⟨rfl, rfl⟩, trivial⟩⟩ ⟨fm_, ⟨rfl, ⟨rfl, ⟨rfl, ⟨rfl, trivial⟩⟩⟩⟩⟩ fi_ ⟨⟨_, rfl⟩, ⟨_, rfl, ⟨.inl ⟨rfl, rfl⟩, ⟨.inl ⟨rfl, rfl⟩, trivial⟩⟩⟩, ⟨⟨_, rfl⟩, ⟨_, rfl, ⟨⟨rfl, rfl⟩, ⟨⟨rfl, rfl⟩, ⟨⟨rfl, rfl⟩, ⟨⟨rfl, rfl⟩, trivial⟩⟩⟩⟩⟩, trivial⟩⟩ rfl) ?_)
  intro k x4 x5 d8 d9 k8 m9 o0 o5 hk H; rcases k with _ | k; exact bC H; rw [aJ.l0] at H
  refine cu 94 [(0, .bp 0 0), (2, .bp 1 0), (3, .bp 17 0), (4, .own 57 x4.length), (5, .int .i64 x5), (18, .bool (decide (x5 < (x4.length : Int))))] [(0, .box [(bV d8), .int .i64 d9]), (1, .box [.nil, .nil, .nil, .nil]), (17, .box [.own 58 k8.length, .own 59 m9.length, .own 60 o0.length, .own 61 o5.length]), (57, .arr 9 1 (x4.map aR)), (58, .arr 9 1 (k8.map aR)), (59, .arr 47 2 (m9.map aK)), (60, .arr 49 3 (o0.map aI)), (61, .arr 52 4 (o5.map aH))] rfl rfl rfl (bJ H (fun c H => ?_) (fun c H => ?_))
  revert H; refine aN (fun G7 A H => (cM [0] (aW.ac A) ⟨rfl, trivial⟩ rfl rfl rfl rfl rfl rfl rfl rfl (bJ H (fun c H => ?_) (fun c H => ?_))))
  refine nd_ H (fun c H => (Nd.mk nf_ (El.mk (aV _ _ nf_ nf_) (Or.inl (nd_ H (fun c H => (jD 198 [(0, .bp 0 0), (2, .bp 1 0), (3, .bp 17 0), (4, .own 57 x4.length), (5, .int .i64 x5)] [(0, .box [(bV G7.2.1), .int .i64 G7.2.2]), (1, .box [.nil, .nil, .nil, .nil]), (17, .box [.own 174 (k8.length + 1), .own 59 m9.length, .own 60 o0.length, .own 61 o5.length]), (57, .arr 9 1 (x4.map aR)), (59, .arr 47 2 (m9.map aK)), (60, .arr 49 3 (o0.map aI)), (61, .arr 52 4 (o5.map aH)), (174, .arr 9 1 ((k8 ++ ([aP ByteArray.empty x4 x5] : List ByteArray)).map aR))] rfl ⟨.inl rfl, ⟨.inl rfl, ⟨.inl rfl, ⟨.inl rfl, ⟨.inl rfl, trivial⟩⟩⟩⟩⟩ ⟨rfl, ⟨rfl, ⟨rfl, ⟨rfl, ⟨rfl, ⟨rfl, ⟨rfl, ⟨fm_, trivial⟩⟩⟩⟩⟩⟩⟩⟩ (⟨(k, x4, wrap64 (x5 + 1), G7.2.1, G7.2.2, (k8 ++ ([aP ByteArray.empty x4 x5] : List ByteArray)), m9, o0, o5), [some 57, some 174, some 59, some 60, some 61], ⟨H, lt_⟩, lt_, (bR ⟨rfl, ⟨.inl ⟨rfl, rfl⟩, trivial⟩⟩ ⟨rfl, ⟨rfl, ⟨rfl, ⟨rfl, ⟨rfl, trivial⟩⟩⟩⟩⟩ fi_ ⟨⟨_, rfl⟩, ⟨_, rfl, ⟨.inl ⟨rfl, rfl⟩, ⟨.inl ⟨rfl, rfl⟩, trivial⟩⟩⟩, ⟨⟨_, rfl⟩, ⟨_, rfl, ⟨fY lm_, ⟨rfl, ⟨rfl, ⟨rfl, trivial⟩⟩⟩⟩⟩, trivial⟩⟩ rfl)⟩))))))))
  refine cu 118 [(0, .bp 0 0), (2, .bp 1 0), (3, .bp 17 0), (4, .own 57 x4.length), (5, .int .i64 x5)] [(0, .box [(bV G7.2.1), .int .i64 G7.2.2]), (1, .box [.nil, .nil, .nil, .nil]), (17, .box [.own 58 k8.length, .own 59 m9.length, .own 60 o0.length, .own 61 o5.length]), (57, .arr 9 1 (x4.map aR)), (58, .arr 9 1 (k8.map aR)), (59, .arr 47 2 (m9.map aK)), (60, .arr 49 3 (o0.map aI)), (61, .arr 52 4 (o5.map aH))] rfl rfl rfl (⟨(k, x4, wrap64 (x5 + 1), G7.2.1, G7.2.2, k8, m9, o0, o5), [some 57, some 58, some 59, some 60, some 61], ⟨H, lt_⟩, lt_, (bR ⟨rfl, ⟨.inl ⟨rfl, rfl⟩, trivial⟩⟩ ⟨rfl, ⟨rfl, ⟨rfl, ⟨rfl, ⟨rfl, trivial⟩⟩⟩⟩⟩ fi_ ⟨⟨_, rfl⟩, ⟨_, rfl, ⟨.inl ⟨rfl, rfl⟩, ⟨.inl ⟨rfl, rfl⟩, trivial⟩⟩⟩, ⟨⟨_, rfl⟩, ⟨_, rfl, ⟨rfl, ⟨rfl, ⟨rfl, ⟨rfl, trivial⟩⟩⟩⟩⟩, trivial⟩⟩ rfl)⟩)
  revert H; refine aN (fun N1 A H => (cM [0] (aW.ac A) ⟨rfl, trivial⟩ rfl rfl rfl rfl rfl rfl rfl rfl (vD 118 [58, 59, 60, 61] [(0, .bp 0 0), (2, .bp 1 0), (3, .bp 17 0), (6, .int .i64 N1.1)] [(0, .box [(bV N1.2.1), .int .i64 N1.2.2]), (1, .box [.nil, .nil, .nil, .nil]), (17, .box [(aM k8), (aF m9), (aC o0), (aE o5)])] rfl rfl ⟨.inl (.inl rfl), ⟨.inl (.inl rfl), ⟨.inl (.inl rfl), ⟨.inl (.inl rfl), trivial⟩⟩⟩⟩ ⟨.inl (rfl), ⟨.inl (rfl), ⟨.inr ⟨_, rfl, ⟨rG rfl rfl (.inr lm_) lm_, ⟨rG rfl rfl (.inr lm_) lm_, ⟨rG rfl rfl (.inr lm_) lm_, ⟨rG rfl rfl (.inr lm_) lm_, trivial⟩⟩⟩⟩⟩, trivial⟩⟩⟩ (aJ.l1_lp (k := k) H [] (bR ⟨.inl ⟨rfl, rfl⟩, trivial⟩ trivial fi_ ⟨⟨_, rfl⟩, ⟨_, rfl, ⟨.inl ⟨rfl, rfl⟩, ⟨.inl ⟨rfl, rfl⟩, trivial⟩⟩⟩, ⟨⟨_, rfl⟩, ⟨_, rfl, ⟨.inl ⟨rfl, rfl⟩, ⟨.inl ⟨rfl, rfl⟩, ⟨.inl ⟨rfl, rfl⟩, ⟨.inl ⟨rfl, rfl⟩, trivial⟩⟩⟩⟩⟩, trivial⟩⟩ rfl) ?_))))
  intro k x6 c9 d6 m8 s6 s7 s8 hk H; rcases k with _ | k; exact bC H; rw [aJ.l1] at H
  refine bJ H (fun c H => ?_) (fun c H => ?_)
  refine Br.t ft_ (Br.t ft_ (Br.t ft_ (Br.t ft_ (bJ H (fun c H => ?_) (fun c H => ?_)))))
  revert H; refine aN (fun P9 A H => (cM [0] (bS.ac A) ⟨rfl, trivial⟩ rfl rfl rfl rfl rfl rfl rfl rfl ?_))
  revert H; refine aN (fun L9 A H => (cM [0] (bS.ac A) ⟨rfl, trivial⟩ rfl rfl rfl rfl rfl rfl rfl rfl (Or.inr (Or.inl ?_))))
  revert H; refine aN (fun H9 A H => (fA (cV.ac A) (bP (fH (bB (bQ rfl) (bB (bQ rfl) (bB (bQ rfl) (bB (bQ rfl) (fG)))))) (bP (iM lm_ lm_) (eK))) (Or.inl rfl) rfl rfl (Nat.le_of_ble_eq_true rfl) (cu 278 [(0, .bp 0 0), (2, .bp 1 0), (3, .bp 17 0), (6, .int .i64 x6)] [(0, .box [(bV L9.2.1), .int .i64 L9.2.2]), (1, .box [.nil, .nil, .nil, .nil]), (17, .box [(aM H9.1), (aF H9.2.1), (aC H9.2.2.1), (aE H9.2.2.2)])] rfl rfl rfl (⟨(k, wrap64 (x6 - 1), L9.2.1, L9.2.2, H9.1, H9.2.1, H9.2.2.1, H9.2.2.2), [], ⟨H, lt_⟩, lt_, (bR ⟨.inl ⟨rfl, rfl⟩, trivial⟩ trivial fi_ ⟨⟨_, rfl⟩, ⟨_, rfl, ⟨.inl ⟨rfl, rfl⟩, ⟨.inl ⟨rfl, rfl⟩, trivial⟩⟩⟩, ⟨⟨_, rfl⟩, ⟨_, rfl, ⟨.inl ⟨rfl, rfl⟩, ⟨.inl ⟨rfl, rfl⟩, ⟨.inl ⟨rfl, rfl⟩, ⟨.inl ⟨rfl, rfl⟩, trivial⟩⟩⟩⟩⟩, trivial⟩⟩ rfl)⟩))))
  refine Or.inl (jD 198 [(0, .bp 0 0), (2, .bp 1 0), (3, .bp 17 0), (7, .own 182 9)] [(0, .box [(bV c9), .int .i64 d6]), (1, .box [.nil, .nil, .nil, .nil]), (17, .box [(aM m8), (aF s6), (aC s7), (aE s8)]), (182, .arr 9 1 (([(⟨#[97]⟩ : ByteArray), (⟨#[98]⟩ : ByteArray), (⟨#[106, 49]⟩ : ByteArray), (⟨#[106, 50]⟩ : ByteArray), (⟨#[106, 51]⟩ : ByteArray), (⟨#[107, 45, 107]⟩ : ByteArray), (⟨#[118, 49]⟩ : ByteArray), (⟨#[118, 50]⟩ : ByteArray), (⟨#[122]⟩ : ByteArray)] : List ByteArray).map aR))] rfl ⟨.inl rfl, ⟨.inl rfl, ⟨.inl rfl, ⟨.inl rfl, trivial⟩⟩⟩⟩ ⟨rfl, ⟨rfl, ⟨rfl, ⟨fm_, trivial⟩⟩⟩⟩ (aJ.l2_lp (k := k) H [] (bR ⟨.inl ⟨rfl, rfl⟩, trivial⟩ trivial fi_ ⟨⟨_, rfl⟩, ⟨_, rfl, ⟨.inl ⟨rfl, rfl⟩, ⟨.inl ⟨rfl, rfl⟩, trivial⟩⟩⟩, ⟨⟨_, rfl⟩, ⟨_, rfl, ⟨.inl ⟨rfl, rfl⟩, ⟨.inl ⟨rfl, rfl⟩, ⟨.inl ⟨rfl, rfl⟩, ⟨.inl ⟨rfl, rfl⟩, trivial⟩⟩⟩⟩⟩, trivial⟩⟩ rfl) ?_))
  intro k x8 C7 C8 g9 i5 i6 i7 hk H; rcases k with _ | k; exact bC H; rw [aJ.l2] at H
  refine bJ H (fun c H => ?_) (fun c H => ?_)
  revert H; refine aN (fun L4 A H => (cM [0] (aW.ac A) ⟨rfl, trivial⟩ rfl rfl rfl rfl rfl rfl rfl rfl (bJ H (fun c H => ?_) (fun c H => ?_))))
  exact ⟨(k, wrap64 (x8 + 1), L4.2.1, L4.2.2, _, _, _, _), [], ⟨H, lt_⟩, lt_, (bR ⟨.inl ⟨rfl, rfl⟩, trivial⟩ trivial fi_ ⟨⟨_, rfl⟩, ⟨_, rfl, ⟨.inl ⟨rfl, rfl⟩, ⟨.inl ⟨rfl, rfl⟩, trivial⟩⟩⟩, ⟨⟨_, rfl⟩, ⟨_, rfl, ⟨.inl ⟨rfl, rfl⟩, ⟨.inl ⟨rfl, rfl⟩, ⟨.inl ⟨rfl, rfl⟩, ⟨.inl ⟨rfl, rfl⟩, trivial⟩⟩⟩⟩⟩, trivial⟩⟩ rfl)⟩
  refine Or.inr (Or.inl ?_)
  revert H; refine aN (fun E5 A H => (cM [0] (bS.ac A) ⟨rfl, trivial⟩ rfl rfl rfl rfl rfl (jH ⟨rfl, ⟨nJ rfl lm_ lm_, trivial⟩⟩) rfl rfl (cu 294 [(0, .bp 0 0), (2, .bp 1 0), (3, .bp 17 0), (7, .own 182 9), (8, .int .i64 x8), (9, .str E5.1)] [(0, .box [(bV E5.2.1), .int .i64 E5.2.2]), (1, .box [.nil, .nil, .nil, .nil]), (17, .box [(aM g9), (aF i5), (aC i6), (aE i7)]), (182, .arr 9 1 (([(⟨#[97]⟩ : ByteArray), (⟨#[98]⟩ : ByteArray), (⟨#[106, 49]⟩ : ByteArray), (⟨#[106, 50]⟩ : ByteArray), (⟨#[106, 51]⟩ : ByteArray), (⟨#[107, 45, 107]⟩ : ByteArray), (⟨#[118, 49]⟩ : ByteArray), (⟨#[118, 50]⟩ : ByteArray), (⟨#[122]⟩ : ByteArray)] : List ByteArray).map aR))] rfl rfl rfl (aJ.j0_sq (x8 := x8) (g9 := g9) (i5 := i5) (i6 := i6) (i7 := i7) (E5 := E5) (KK := k + 1) (r := r) ?_ ?_))))
  refine bJ H (fun c H => ?_) (fun c H => ?_)
  refine Br.t ft_ (Br.t ft_ (⟨(k, decide (x8 < 6)), [], ⟨H, lt_⟩, (fq rfl rfl fi_ rfl)⟩))
  refine Br.f ff_ (Br.f ff_ (⟨(k, false), [], ⟨H, lt_⟩, (fq rfl rfl fi_ rfl)⟩))
  intro k x74 hk H; rcases k with _ | k; exact bC H; rw [aJ.j0] at H
  refine kN H (fun c H => ?_) (fun c H => ?_)
  refine nd_ H (fun c H => (nd_ H (fun c H => (El.mk (aV _ _ nf_ nf_) (Or.inr (Or.inl ?_))))))
  revert H; refine aN (fun J7 A H => (fA (cV.ac A) (bP (fH (bB (bQ rfl) (bB (bQ rfl) (bB (bQ rfl) (bB (bQ rfl) (fG)))))) (bP (iM lm_ lm_) (eK))) (Or.inl rfl) rfl rfl (Nat.le_of_ble_eq_true rfl) (⟨(k, wrap64 (x8 + 1), E5.2.1, E5.2.2, J7.1, J7.2.1, J7.2.2.1, J7.2.2.2), [], ⟨H, lt_⟩, lt_, (bR ⟨.inl ⟨rfl, rfl⟩, trivial⟩ trivial fi_ ⟨⟨_, rfl⟩, ⟨_, rfl, ⟨.inl ⟨rfl, rfl⟩, ⟨.inl ⟨rfl, rfl⟩, trivial⟩⟩⟩, ⟨⟨_, rfl⟩, ⟨_, rfl, ⟨.inl ⟨rfl, rfl⟩, ⟨.inl ⟨rfl, rfl⟩, ⟨.inl ⟨rfl, rfl⟩, ⟨.inl ⟨rfl, rfl⟩, trivial⟩⟩⟩⟩⟩, trivial⟩⟩ rfl)⟩)))
  refine nd_ H (fun c H => (nd_ H (fun c H => (El.mk (aV _ _ nf_ nf_) ?_))))
  revert H; refine aN (fun O0 A H => (cM [0] (aW.ac A) ⟨rfl, trivial⟩ rfl rfl rfl rfl rfl rfl rfl rfl ?_))
  revert H; refine aN (fun U2 A H => (cmk (cN.ac A) rfl rfl (Or.inr (Or.inl ?_))))
  revert H; refine aN (fun J8 A H => (fA (cV.ac A) (bP (fH (bB (bQ rfl) (bB (bQ rfl) (bB (bQ rfl) (bB (bQ rfl) (fG)))))) (bP (iM lm_ lm_) (eK))) (Or.inl rfl) rfl rfl (Nat.le_of_ble_eq_true rfl) (⟨(k, wrap64 (x8 + 1), O0.2.1, O0.2.2, J8.1, J8.2.1, J8.2.2.1, J8.2.2.2), [], ⟨H, lt_⟩, lt_, (bR ⟨.inl ⟨rfl, rfl⟩, trivial⟩ trivial fi_ ⟨⟨_, rfl⟩, ⟨_, rfl, ⟨.inl ⟨rfl, rfl⟩, ⟨.inl ⟨rfl, rfl⟩, trivial⟩⟩⟩, ⟨⟨_, rfl⟩, ⟨_, rfl, ⟨.inl ⟨rfl, rfl⟩, ⟨.inl ⟨rfl, rfl⟩, ⟨.inl ⟨rfl, rfl⟩, ⟨.inl ⟨rfl, rfl⟩, trivial⟩⟩⟩⟩⟩, trivial⟩⟩ rfl)⟩)))
  revert H; refine aN (fun P4 A H => (cM [0] (aW.ac A) ⟨rfl, trivial⟩ rfl rfl rfl rfl rfl rfl rfl rfl (aJ.l3_lp (k := k) H [] (bR ⟨.inl ⟨rfl, rfl⟩, trivial⟩ trivial fi_ ⟨⟨_, rfl⟩, ⟨_, rfl, ⟨.inl ⟨rfl, rfl⟩, ⟨.inl ⟨rfl, rfl⟩, trivial⟩⟩⟩, ⟨⟨_, rfl⟩, ⟨_, rfl, ⟨.inl ⟨rfl, rfl⟩, ⟨.inl ⟨rfl, rfl⟩, ⟨.inl ⟨rfl, rfl⟩, ⟨.inl ⟨rfl, rfl⟩, trivial⟩⟩⟩⟩⟩, trivial⟩⟩ rfl) ?_)))
  intro k x10 r7 r8 o6 o7 e8 o8 hk H; rcases k with _ | k; exact bC H; rw [aJ.l3] at H
  refine bJ H (fun c H => ?_) (fun c H => ?_)
  refine Br.t ft_ (Br.t ft_ (Br.t ft_ (Br.t ft_ (cu 326 [(0, .bp 0 0), (2, .bp 1 0), (3, .bp 17 0), (10, .int .i64 x10), (104, .bool (decide ((e8.length : Int) > 1)))] [(0, .box [(bV r7), .int .i64 r8]), (1, .box [.nil, .nil, .nil, .nil]), (17, .box [(aM o6), (aF o7), (aC e8), (aE o8)])] rfl rfl rfl (bJ H (fun c H => ?_) (fun c H => ?_))))))
  revert H; refine aN (fun P3 A H => (cM [0] (aW.ac A) ⟨rfl, trivial⟩ rfl rfl rfl rfl rfl rfl rfl rfl ?_))
  revert H; refine aN (fun R2 A H => (cmk (cN.ac A) rfl rfl (nd_ H (fun c H => ?_))))
  revert H; refine aN (fun N8 A H => (cM [0] (aW.ac A) ⟨rfl, trivial⟩ rfl rfl rfl rfl rfl rfl rfl rfl (nd_ H (fun c H => (nd_ H (fun c H => (El.mk (cF _ _ nf_ nf_) ?_)))))))
  revert H; refine aN (fun N9 A H => (cM [0] (aW.ac A) ⟨rfl, trivial⟩ rfl rfl rfl rfl rfl rfl rfl rfl (nd_ H (fun c H => (nd_ H (fun c H => (El.mk (cF _ _ nf_ nf_) (Or.inr (Or.inl ?_)))))))))
  revert H; refine aN (fun L3 A H => (cM [0] (bS.ac A) ⟨rfl, trivial⟩ rfl rfl rfl rfl rfl (jH ⟨rfl, ⟨nJ rfl lm_ lm_, trivial⟩⟩) rfl rfl (Or.inr (Or.inl ?_))))
  revert H; refine aN (fun H3 A H => (fA (cV.ac A) (bP (fH (bB (bQ rfl) (bB (bQ rfl) (bB (bQ rfl) (bB (bQ rfl) (fG)))))) (bP (iM lm_ lm_) (eK))) (Or.inl rfl) rfl rfl (Nat.le_of_ble_eq_true rfl) (cu 574 [(0, .bp 0 0), (2, .bp 1 0), (3, .bp 17 0), (10, .int .i64 x10)] [(0, .box [(bV L3.2.1), .int .i64 L3.2.2]), (1, .box [.nil, .nil, .nil, .nil]), (17, .box [(aM H3.1), (aF H3.2.1), (aC H3.2.2.1), (aE H3.2.2.2)])] rfl rfl rfl (⟨(k, wrap64 (x10 - 1), L3.2.1, L3.2.2, H3.1, H3.2.1, H3.2.2.1, H3.2.2.2), [], ⟨H, lt_⟩, lt_, (bR ⟨.inl ⟨rfl, rfl⟩, trivial⟩ trivial fi_ ⟨⟨_, rfl⟩, ⟨_, rfl, ⟨.inl ⟨rfl, rfl⟩, ⟨.inl ⟨rfl, rfl⟩, trivial⟩⟩⟩, ⟨⟨_, rfl⟩, ⟨_, rfl, ⟨.inl ⟨rfl, rfl⟩, ⟨.inl ⟨rfl, rfl⟩, ⟨.inl ⟨rfl, rfl⟩, ⟨.inl ⟨rfl, rfl⟩, trivial⟩⟩⟩⟩⟩, trivial⟩⟩ rfl)⟩))))
  revert H; refine aN (fun E8 A H => (cM [0] (aW.ac A) ⟨rfl, trivial⟩ rfl rfl rfl rfl rfl rfl rfl rfl (bJ H (fun c H => ?_) (fun c H => ?_))))
  refine aJ.l4_lp (E8 := E8) (k := k) H [] (bR ⟨.inl ⟨rfl, rfl⟩, trivial⟩ trivial fi_ ⟨⟨_, rfl⟩, ⟨_, rfl, ⟨.inl ⟨rfl, rfl⟩, ⟨.inl ⟨rfl, rfl⟩, ⟨.inl ⟨rfl, rfl⟩, ⟨.inl ⟨rfl, rfl⟩, trivial⟩⟩⟩⟩⟩, trivial⟩ rfl) ?_
  intro k x11 B5 B6 B7 B8 hk H; rcases k with _ | k; exact bC H; rw [aJ.l4] at H
  refine bJ H (fun c H => ?_) (fun c H => ?_)
  revert H; refine aN (fun Q9 A H => (cmk (cN.ac A) rfl rfl (nd_ H (fun c H => (Or.inr (Or.inl ?_))))))
  revert H; refine aN (fun H0 A H => (fA (cV.ac A) (bP (fH (bB (bQ rfl) (bB (bQ rfl) (bB (bQ rfl) (bB (bQ rfl) (fG)))))) (bP (iM lm_ lm_) (eK))) (Or.inl rfl) rfl rfl (Nat.le_of_ble_eq_true rfl) (cu 430 [(0, .bp 0 0), (2, .bp 1 0), (3, .bp 17 0), (11, .int .i64 x11)] [(0, .box [(bV E8.2.1), .int .i64 E8.2.2]), (1, .box [.nil, .nil, .nil, .nil]), (17, .box [(aM H0.1), (aF H0.2.1), (aC H0.2.2.1), (aE H0.2.2.2)])] rfl rfl rfl (⟨(k, wrap64 (x11 + 1), H0.1, H0.2.1, H0.2.2.1, H0.2.2.2), [], ⟨H, lt_⟩, lt_, (bR ⟨.inl ⟨rfl, rfl⟩, trivial⟩ trivial fi_ ⟨⟨_, rfl⟩, ⟨_, rfl, ⟨.inl ⟨rfl, rfl⟩, ⟨.inl ⟨rfl, rfl⟩, ⟨.inl ⟨rfl, rfl⟩, ⟨.inl ⟨rfl, rfl⟩, trivial⟩⟩⟩⟩⟩, trivial⟩ rfl)⟩))))
  refine aJ.l5_lp (k := k) H [] (bR ⟨.inl ⟨rfl, rfl⟩, trivial⟩ trivial fi_ ⟨⟨_, rfl⟩, ⟨_, rfl, ⟨.inl ⟨rfl, rfl⟩, ⟨.inl ⟨rfl, rfl⟩, trivial⟩⟩⟩, ⟨⟨_, rfl⟩, ⟨_, rfl, ⟨.inl ⟨rfl, rfl⟩, ⟨.inl ⟨rfl, rfl⟩, ⟨.inl ⟨rfl, rfl⟩, ⟨.inl ⟨rfl, rfl⟩, trivial⟩⟩⟩⟩⟩, trivial⟩⟩ rfl) ?_
  intro k x12 w7 w8 B1 B2 B3 B4 hk H; rcases k with _ | k; exact bC H; rw [aJ.l5] at H
  refine bJ H (fun c H => ?_) (fun c H => ?_)
  revert H; refine aN (fun Q8 A H => (cmk (cN.ac A) rfl rfl (nd_ H (fun c H => (Or.inr (Or.inl ?_))))))
  revert H; refine aN (fun P1 A H => (cM [0] (bS.ac A) ⟨rfl, trivial⟩ rfl rfl rfl rfl rfl (jH ⟨rfl, ⟨nJ rfl lm_ lm_, trivial⟩⟩) rfl rfl (Or.inr (Or.inl ?_))))
  revert H; refine aN (fun K8 A H => (cM [0] (bS.ac A) ⟨rfl, trivial⟩ rfl rfl rfl rfl rfl (jH ⟨rfl, ⟨nJ rfl lm_ lm_, trivial⟩⟩) rfl rfl (Or.inr (Or.inl ?_))))
  revert H; refine aN (fun G9 A H => (fA (cV.ac A) (bP (fH (bB (bQ rfl) (bB (bQ rfl) (bB (bQ rfl) (bB (bQ rfl) (fG)))))) (bP (iM lm_ lm_) (eK))) (Or.inl rfl) rfl rfl (Nat.le_of_ble_eq_true rfl) (cu 502 [(0, .bp 0 0), (2, .bp 1 0), (3, .bp 17 0), (12, .int .i64 x12)] [(0, .box [(bV K8.2.1), .int .i64 K8.2.2]), (1, .box [.nil, .nil, .nil, .nil]), (17, .box [(aM G9.1), (aF G9.2.1), (aC G9.2.2.1), (aE G9.2.2.2)])] rfl rfl rfl (⟨(k, wrap64 (x12 + 1), K8.2.1, K8.2.2, G9.1, G9.2.1, G9.2.2.1, G9.2.2.2), [], ⟨H, lt_⟩, lt_, (bR ⟨.inl ⟨rfl, rfl⟩, trivial⟩ trivial fi_ ⟨⟨_, rfl⟩, ⟨_, rfl, ⟨.inl ⟨rfl, rfl⟩, ⟨.inl ⟨rfl, rfl⟩, trivial⟩⟩⟩, ⟨⟨_, rfl⟩, ⟨_, rfl, ⟨.inl ⟨rfl, rfl⟩, ⟨.inl ⟨rfl, rfl⟩, ⟨.inl ⟨rfl, rfl⟩, ⟨.inl ⟨rfl, rfl⟩, trivial⟩⟩⟩⟩⟩, trivial⟩⟩ rfl)⟩))))
  revert H; refine aN (fun J3 A H => (cmk (dT.ac A) rfl rfl (cu 422 [(2, .bp 1 0)] [(0, .box [(bV w7), .int .i64 w8]), (1, .box [(aM J3.1), (aF J3.2.1), (aC J3.2.2.1), (aE J3.2.2.2)])] rfl rfl rfl ?_)))
  cases H
  exact fT [some 0] [] ((rta rfl)) ⟨rfl, trivial⟩ rfl
  revert H; refine aN (fun J5 A H => (cmk (dT.ac A) rfl rfl (cu 374 [(2, .bp 1 0)] [(0, .box [(bV E8.2.1), .int .i64 E8.2.2]), (1, .box [(aM J5.1), (aF J5.2.1), (aC J5.2.2.1), (aE J5.2.2.2)])] rfl rfl rfl ?_)))
  cases H
  exact fT [some 0] [] ((rta rfl)) ⟨rfl, trivial⟩ rfl
  refine Br.f ff_ (Br.f ff_ (Br.f ff_ (Br.f ff_ (cu 326 [(0, .bp 0 0), (2, .bp 1 0), (3, .bp 17 0), (10, .int .i64 x10), (104, .bool false)] [(0, .box [(bV r7), .int .i64 r8]), (1, .box [.nil, .nil, .nil, .nil]), (17, .box [(aM o6), (aF o7), (aC e8), (aE o8)])] rfl rfl rfl (Br.f rfl ?_)))))
  revert H; refine aN (fun E9 A H => (cM [0] (aW.ac A) ⟨rfl, trivial⟩ rfl rfl rfl rfl rfl rfl rfl rfl (bJ H (fun c H => ?_) (fun c H => ?_))))
  refine aJ.l6_lp (E9 := E9) (k := k) H [] (bR ⟨.inl ⟨rfl, rfl⟩, trivial⟩ trivial fi_ ⟨⟨_, rfl⟩, ⟨_, rfl, ⟨.inl ⟨rfl, rfl⟩, ⟨.inl ⟨rfl, rfl⟩, ⟨.inl ⟨rfl, rfl⟩, ⟨.inl ⟨rfl, rfl⟩, trivial⟩⟩⟩⟩⟩, trivial⟩ rfl) ?_
  intro k G0 C3 C4 C5 C6 hk H; rcases k with _ | k; exact bC H; rw [aJ.l6] at H
  refine bJ H (fun c H => ?_) (fun c H => ?_)
  revert H; refine aN (fun R1 A H => (cmk (cN.ac A) rfl rfl (nd_ H (fun c H => (Or.inr (Or.inl ?_))))))
  revert H; refine aN (fun H2 A H => (fA (cV.ac A) (bP (fH (bB (bQ rfl) (bB (bQ rfl) (bB (bQ rfl) (bB (bQ rfl) (fG)))))) (bP (iM lm_ lm_) (eK))) (Or.inl rfl) rfl rfl (Nat.le_of_ble_eq_true rfl) (cu 430 [(0, .bp 0 0), (2, .bp 1 0), (3, .bp 17 0), (11, .int .i64 G0)] [(0, .box [(bV E9.2.1), .int .i64 E9.2.2]), (1, .box [.nil, .nil, .nil, .nil]), (17, .box [(aM H2.1), (aF H2.2.1), (aC H2.2.2.1), (aE H2.2.2.2)])] rfl rfl rfl (⟨(k, wrap64 (G0 + 1), H2.1, H2.2.1, H2.2.2.1, H2.2.2.2), [], ⟨H, lt_⟩, lt_, (bR ⟨.inl ⟨rfl, rfl⟩, trivial⟩ trivial fi_ ⟨⟨_, rfl⟩, ⟨_, rfl, ⟨.inl ⟨rfl, rfl⟩, ⟨.inl ⟨rfl, rfl⟩, ⟨.inl ⟨rfl, rfl⟩, ⟨.inl ⟨rfl, rfl⟩, trivial⟩⟩⟩⟩⟩, trivial⟩ rfl)⟩))))
  refine aJ.l7_lp (k := k) H [] (bR ⟨.inl ⟨rfl, rfl⟩, trivial⟩ trivial fi_ ⟨⟨_, rfl⟩, ⟨_, rfl, ⟨.inl ⟨rfl, rfl⟩, ⟨.inl ⟨rfl, rfl⟩, trivial⟩⟩⟩, ⟨⟨_, rfl⟩, ⟨_, rfl, ⟨.inl ⟨rfl, rfl⟩, ⟨.inl ⟨rfl, rfl⟩, ⟨.inl ⟨rfl, rfl⟩, ⟨.inl ⟨rfl, rfl⟩, trivial⟩⟩⟩⟩⟩, trivial⟩⟩ rfl) ?_
  intro k F9 w9 A3 B9 C0 C1 C2 hk H; rcases k with _ | k; exact bC H; rw [aJ.l7] at H
  refine bJ H (fun c H => ?_) (fun c H => ?_)
  revert H; refine aN (fun R0 A H => (cmk (cN.ac A) rfl rfl (nd_ H (fun c H => (Or.inr (Or.inl ?_))))))
  revert H; refine aN (fun P2 A H => (cM [0] (bS.ac A) ⟨rfl, trivial⟩ rfl rfl rfl rfl rfl (jH ⟨rfl, ⟨nJ rfl lm_ lm_, trivial⟩⟩) rfl rfl (Or.inr (Or.inl ?_))))
  revert H; refine aN (fun K9 A H => (cM [0] (bS.ac A) ⟨rfl, trivial⟩ rfl rfl rfl rfl rfl (jH ⟨rfl, ⟨nJ rfl lm_ lm_, trivial⟩⟩) rfl rfl (Or.inr (Or.inl ?_))))
  revert H; refine aN (fun H1 A H => (fA (cV.ac A) (bP (fH (bB (bQ rfl) (bB (bQ rfl) (bB (bQ rfl) (bB (bQ rfl) (fG)))))) (bP (iM lm_ lm_) (eK))) (Or.inl rfl) rfl rfl (Nat.le_of_ble_eq_true rfl) (cu 502 [(0, .bp 0 0), (2, .bp 1 0), (3, .bp 17 0), (12, .int .i64 F9)] [(0, .box [(bV K9.2.1), .int .i64 K9.2.2]), (1, .box [.nil, .nil, .nil, .nil]), (17, .box [(aM H1.1), (aF H1.2.1), (aC H1.2.2.1), (aE H1.2.2.2)])] rfl rfl rfl (⟨(k, wrap64 (F9 + 1), K9.2.1, K9.2.2, H1.1, H1.2.1, H1.2.2.1, H1.2.2.2), [], ⟨H, lt_⟩, lt_, (bR ⟨.inl ⟨rfl, rfl⟩, trivial⟩ trivial fi_ ⟨⟨_, rfl⟩, ⟨_, rfl, ⟨.inl ⟨rfl, rfl⟩, ⟨.inl ⟨rfl, rfl⟩, trivial⟩⟩⟩, ⟨⟨_, rfl⟩, ⟨_, rfl, ⟨.inl ⟨rfl, rfl⟩, ⟨.inl ⟨rfl, rfl⟩, ⟨.inl ⟨rfl, rfl⟩, ⟨.inl ⟨rfl, rfl⟩, trivial⟩⟩⟩⟩⟩, trivial⟩⟩ rfl)⟩))))
  revert H; refine aN (fun J4 A H => (cmk (dT.ac A) rfl rfl (cu 422 [(2, .bp 1 0)] [(0, .box [(bV w9), .int .i64 A3]), (1, .box [(aM J4.1), (aF J4.2.1), (aC J4.2.2.1), (aE J4.2.2.2)])] rfl rfl rfl ?_)))
  cases H
  exact fT [some 0] [] ((rta rfl)) ⟨rfl, trivial⟩ rfl
  revert H; refine aN (fun J6 A H => (cmk (dT.ac A) rfl rfl (cu 374 [(2, .bp 1 0)] [(0, .box [(bV E9.2.1), .int .i64 E9.2.2]), (1, .box [(aM J6.1), (aF J6.2.1), (aC J6.2.2.1), (aE J6.2.2.2)])] rfl rfl rfl ?_)))
  cases H
  exact fT [some 0] [] ((rta rfl)) ⟨rfl, trivial⟩ rfl
  refine Br.f ff_ (Br.f ff_ (Br.f ff_ (Br.f ff_ (Br.f rfl (Or.inl (jD 198 [(0, .bp 0 0), (2, .bp 1 0), (3, .bp 17 0), (7, .own 182 9)] [(0, .box [(bV c9), .int .i64 d6]), (1, .box [.nil, .nil, .nil, .nil]), (17, .box [(aM m8), (aF s6), (aC s7), (aE s8)]), (182, .arr 9 1 (([(⟨#[97]⟩ : ByteArray), (⟨#[98]⟩ : ByteArray), (⟨#[106, 49]⟩ : ByteArray), (⟨#[106, 50]⟩ : ByteArray), (⟨#[106, 51]⟩ : ByteArray), (⟨#[107, 45, 107]⟩ : ByteArray), (⟨#[118, 49]⟩ : ByteArray), (⟨#[118, 50]⟩ : ByteArray), (⟨#[122]⟩ : ByteArray)] : List ByteArray).map aR))] rfl ⟨.inl rfl, ⟨.inl rfl, ⟨.inl rfl, ⟨.inl rfl, trivial⟩⟩⟩⟩ ⟨rfl, ⟨rfl, ⟨rfl, ⟨fm_, trivial⟩⟩⟩⟩ (aJ.l8_lp (k := k) H [] (bR ⟨.inl ⟨rfl, rfl⟩, trivial⟩ trivial fi_ ⟨⟨_, rfl⟩, ⟨_, rfl, ⟨.inl ⟨rfl, rfl⟩, ⟨.inl ⟨rfl, rfl⟩, trivial⟩⟩⟩, ⟨⟨_, rfl⟩, ⟨_, rfl, ⟨.inl ⟨rfl, rfl⟩, ⟨.inl ⟨rfl, rfl⟩, ⟨.inl ⟨rfl, rfl⟩, ⟨.inl ⟨rfl, rfl⟩, trivial⟩⟩⟩⟩⟩, trivial⟩⟩ rfl) ?_)))))))
  intro k E1 C9 D0 i8 j5 j6 j7 hk H; rcases k with _ | k; exact bC H; rw [aJ.l8] at H
  refine bJ H (fun c H => ?_) (fun c H => ?_)
  revert H; refine aN (fun L8 A H => (cM [0] (aW.ac A) ⟨rfl, trivial⟩ rfl rfl rfl rfl rfl rfl rfl rfl (bJ H (fun c H => ?_) (fun c H => ?_))))
  exact ⟨(k, wrap64 (E1 + 1), L8.2.1, L8.2.2, _, _, _, _), [], ⟨H, lt_⟩, lt_, (bR ⟨.inl ⟨rfl, rfl⟩, trivial⟩ trivial fi_ ⟨⟨_, rfl⟩, ⟨_, rfl, ⟨.inl ⟨rfl, rfl⟩, ⟨.inl ⟨rfl, rfl⟩, trivial⟩⟩⟩, ⟨⟨_, rfl⟩, ⟨_, rfl, ⟨.inl ⟨rfl, rfl⟩, ⟨.inl ⟨rfl, rfl⟩, ⟨.inl ⟨rfl, rfl⟩, ⟨.inl ⟨rfl, rfl⟩, trivial⟩⟩⟩⟩⟩, trivial⟩⟩ rfl)⟩
  refine Or.inr (Or.inl ?_)
  revert H; refine aN (fun E6 A H => (cM [0] (bS.ac A) ⟨rfl, trivial⟩ rfl rfl rfl rfl rfl (jH ⟨rfl, ⟨nJ rfl lm_ lm_, trivial⟩⟩) rfl rfl (cu 294 [(0, .bp 0 0), (2, .bp 1 0), (3, .bp 17 0), (7, .own 182 9), (8, .int .i64 E1), (9, .str E6.1)] [(0, .box [(bV E6.2.1), .int .i64 E6.2.2]), (1, .box [.nil, .nil, .nil, .nil]), (17, .box [(aM i8), (aF j5), (aC j6), (aE j7)]), (182, .arr 9 1 (([(⟨#[97]⟩ : ByteArray), (⟨#[98]⟩ : ByteArray), (⟨#[106, 49]⟩ : ByteArray), (⟨#[106, 50]⟩ : ByteArray), (⟨#[106, 51]⟩ : ByteArray), (⟨#[107, 45, 107]⟩ : ByteArray), (⟨#[118, 49]⟩ : ByteArray), (⟨#[118, 50]⟩ : ByteArray), (⟨#[122]⟩ : ByteArray)] : List ByteArray).map aR))] rfl rfl rfl (aJ.j1_sq (E1 := E1) (i8 := i8) (j5 := j5) (j6 := j6) (j7 := j7) (E6 := E6) (KK := k + 1) (r := r) ?_ ?_))))
  refine bJ H (fun c H => ?_) (fun c H => ?_)
  refine Br.t ft_ (Br.t ft_ (⟨(k, decide (E1 < 6)), [], ⟨H, lt_⟩, (fq rfl rfl fi_ rfl)⟩))
  refine Br.f ff_ (Br.f ff_ (⟨(k, false), [], ⟨H, lt_⟩, (fq rfl rfl fi_ rfl)⟩))
  intro k N0 hk H; rcases k with _ | k; exact bC H; rw [aJ.j1] at H
  refine kN H (fun c H => ?_) (fun c H => ?_)
  refine nd_ H (fun c H => (nd_ H (fun c H => (El.mk (aV _ _ nf_ nf_) (Or.inr (Or.inl ?_))))))
  revert H; refine aN (fun K3 A H => (fA (cV.ac A) (bP (fH (bB (bQ rfl) (bB (bQ rfl) (bB (bQ rfl) (bB (bQ rfl) (fG)))))) (bP (iM lm_ lm_) (eK))) (Or.inl rfl) rfl rfl (Nat.le_of_ble_eq_true rfl) (⟨(k, wrap64 (E1 + 1), E6.2.1, E6.2.2, K3.1, K3.2.1, K3.2.2.1, K3.2.2.2), [], ⟨H, lt_⟩, lt_, (bR ⟨.inl ⟨rfl, rfl⟩, trivial⟩ trivial fi_ ⟨⟨_, rfl⟩, ⟨_, rfl, ⟨.inl ⟨rfl, rfl⟩, ⟨.inl ⟨rfl, rfl⟩, trivial⟩⟩⟩, ⟨⟨_, rfl⟩, ⟨_, rfl, ⟨.inl ⟨rfl, rfl⟩, ⟨.inl ⟨rfl, rfl⟩, ⟨.inl ⟨rfl, rfl⟩, ⟨.inl ⟨rfl, rfl⟩, trivial⟩⟩⟩⟩⟩, trivial⟩⟩ rfl)⟩)))
  refine nd_ H (fun c H => (nd_ H (fun c H => (El.mk (aV _ _ nf_ nf_) ?_))))
  revert H; refine aN (fun O3 A H => (cM [0] (aW.ac A) ⟨rfl, trivial⟩ rfl rfl rfl rfl rfl rfl rfl rfl ?_))
  revert H; refine aN (fun U3 A H => (cmk (cN.ac A) rfl rfl (Or.inr (Or.inl ?_))))
  revert H; refine aN (fun K4 A H => (fA (cV.ac A) (bP (fH (bB (bQ rfl) (bB (bQ rfl) (bB (bQ rfl) (bB (bQ rfl) (fG)))))) (bP (iM lm_ lm_) (eK))) (Or.inl rfl) rfl rfl (Nat.le_of_ble_eq_true rfl) (⟨(k, wrap64 (E1 + 1), O3.2.1, O3.2.2, K4.1, K4.2.1, K4.2.2.1, K4.2.2.2), [], ⟨H, lt_⟩, lt_, (bR ⟨.inl ⟨rfl, rfl⟩, trivial⟩ trivial fi_ ⟨⟨_, rfl⟩, ⟨_, rfl, ⟨.inl ⟨rfl, rfl⟩, ⟨.inl ⟨rfl, rfl⟩, trivial⟩⟩⟩, ⟨⟨_, rfl⟩, ⟨_, rfl, ⟨.inl ⟨rfl, rfl⟩, ⟨.inl ⟨rfl, rfl⟩, ⟨.inl ⟨rfl, rfl⟩, ⟨.inl ⟨rfl, rfl⟩, trivial⟩⟩⟩⟩⟩, trivial⟩⟩ rfl)⟩)))
  revert H; refine aN (fun P8 A H => (cM [0] (aW.ac A) ⟨rfl, trivial⟩ rfl rfl rfl rfl rfl rfl rfl rfl (aJ.l9_lp (k := k) H [] (bR ⟨.inl ⟨rfl, rfl⟩, trivial⟩ trivial fi_ ⟨⟨_, rfl⟩, ⟨_, rfl, ⟨.inl ⟨rfl, rfl⟩, ⟨.inl ⟨rfl, rfl⟩, trivial⟩⟩⟩, ⟨⟨_, rfl⟩, ⟨_, rfl, ⟨.inl ⟨rfl, rfl⟩, ⟨.inl ⟨rfl, rfl⟩, ⟨.inl ⟨rfl, rfl⟩, ⟨.inl ⟨rfl, rfl⟩, trivial⟩⟩⟩⟩⟩, trivial⟩⟩ rfl) ?_)))
  intro k F7 r9 s5 o9 p5 g7 p6 hk H; rcases k with _ | k; exact bC H; rw [aJ.l9] at H
  refine bJ H (fun c H => ?_) (fun c H => ?_)
  refine Br.t ft_ (Br.t ft_ (Br.t ft_ (Br.t ft_ (cu 326 [(0, .bp 0 0), (2, .bp 1 0), (3, .bp 17 0), (10, .int .i64 F7), (104, .bool (decide ((g7.length : Int) > 1)))] [(0, .box [(bV r9), .int .i64 s5]), (1, .box [.nil, .nil, .nil, .nil]), (17, .box [(aM o9), (aF p5), (aC g7), (aE p6)])] rfl rfl rfl (bJ H (fun c H => ?_) (fun c H => ?_))))))
  revert H; refine aN (fun P7 A H => (cM [0] (aW.ac A) ⟨rfl, trivial⟩ rfl rfl rfl rfl rfl rfl rfl rfl ?_))
  revert H; refine aN (fun R7 A H => (cmk (cN.ac A) rfl rfl (nd_ H (fun c H => ?_))))
  revert H; refine aN (fun O1 A H => (cM [0] (aW.ac A) ⟨rfl, trivial⟩ rfl rfl rfl rfl rfl rfl rfl rfl (nd_ H (fun c H => (nd_ H (fun c H => (El.mk (cF _ _ nf_ nf_) ?_)))))))
  revert H; refine aN (fun O2 A H => (cM [0] (aW.ac A) ⟨rfl, trivial⟩ rfl rfl rfl rfl rfl rfl rfl rfl (nd_ H (fun c H => (nd_ H (fun c H => (El.mk (cF _ _ nf_ nf_) (Or.inr (Or.inl ?_)))))))))
  revert H; refine aN (fun L7 A H => (cM [0] (bS.ac A) ⟨rfl, trivial⟩ rfl rfl rfl rfl rfl (jH ⟨rfl, ⟨nJ rfl lm_ lm_, trivial⟩⟩) rfl rfl (Or.inr (Or.inl ?_))))
  revert H; refine aN (fun H8 A H => (fA (cV.ac A) (bP (fH (bB (bQ rfl) (bB (bQ rfl) (bB (bQ rfl) (bB (bQ rfl) (fG)))))) (bP (iM lm_ lm_) (eK))) (Or.inl rfl) rfl rfl (Nat.le_of_ble_eq_true rfl) (cu 574 [(0, .bp 0 0), (2, .bp 1 0), (3, .bp 17 0), (10, .int .i64 F7)] [(0, .box [(bV L7.2.1), .int .i64 L7.2.2]), (1, .box [.nil, .nil, .nil, .nil]), (17, .box [(aM H8.1), (aF H8.2.1), (aC H8.2.2.1), (aE H8.2.2.2)])] rfl rfl rfl (⟨(k, wrap64 (F7 - 1), L7.2.1, L7.2.2, H8.1, H8.2.1, H8.2.2.1, H8.2.2.2), [], ⟨H, lt_⟩, lt_, (bR ⟨.inl ⟨rfl, rfl⟩, trivial⟩ trivial fi_ ⟨⟨_, rfl⟩, ⟨_, rfl, ⟨.inl ⟨rfl, rfl⟩, ⟨.inl ⟨rfl, rfl⟩, trivial⟩⟩⟩, ⟨⟨_, rfl⟩, ⟨_, rfl, ⟨.inl ⟨rfl, rfl⟩, ⟨.inl ⟨rfl, rfl⟩, ⟨.inl ⟨rfl, rfl⟩, ⟨.inl ⟨rfl, rfl⟩, trivial⟩⟩⟩⟩⟩, trivial⟩⟩ rfl)⟩))))
  revert H; refine aN (fun F2 A H => (cM [0] (aW.ac A) ⟨rfl, trivial⟩ rfl rfl rfl rfl rfl rfl rfl rfl (bJ H (fun c H => ?_) (fun c H => ?_))))
  refine aJ.l10_lp (F2 := F2) (k := k) H [] (bR ⟨.inl ⟨rfl, rfl⟩, trivial⟩ trivial fi_ ⟨⟨_, rfl⟩, ⟨_, rfl, ⟨.inl ⟨rfl, rfl⟩, ⟨.inl ⟨rfl, rfl⟩, ⟨.inl ⟨rfl, rfl⟩, ⟨.inl ⟨rfl, rfl⟩, trivial⟩⟩⟩⟩⟩, trivial⟩ rfl) ?_
  intro k G2 u5 u6 u7 u9 hk H; rcases k with _ | k; exact bC H; rw [aJ.l10] at H
  refine bJ H (fun c H => ?_) (fun c H => ?_)
  revert H; refine aN (fun R4 A H => (cmk (cN.ac A) rfl rfl (nd_ H (fun c H => (Or.inr (Or.inl ?_))))))
  revert H; refine aN (fun H5 A H => (fA (cV.ac A) (bP (fH (bB (bQ rfl) (bB (bQ rfl) (bB (bQ rfl) (bB (bQ rfl) (fG)))))) (bP (iM lm_ lm_) (eK))) (Or.inl rfl) rfl rfl (Nat.le_of_ble_eq_true rfl) (cu 430 [(0, .bp 0 0), (2, .bp 1 0), (3, .bp 17 0), (11, .int .i64 G2)] [(0, .box [(bV F2.2.1), .int .i64 F2.2.2]), (1, .box [.nil, .nil, .nil, .nil]), (17, .box [(aM H5.1), (aF H5.2.1), (aC H5.2.2.1), (aE H5.2.2.2)])] rfl rfl rfl (⟨(k, wrap64 (G2 + 1), H5.1, H5.2.1, H5.2.2.1, H5.2.2.2), [], ⟨H, lt_⟩, lt_, (bR ⟨.inl ⟨rfl, rfl⟩, trivial⟩ trivial fi_ ⟨⟨_, rfl⟩, ⟨_, rfl, ⟨.inl ⟨rfl, rfl⟩, ⟨.inl ⟨rfl, rfl⟩, ⟨.inl ⟨rfl, rfl⟩, ⟨.inl ⟨rfl, rfl⟩, trivial⟩⟩⟩⟩⟩, trivial⟩ rfl)⟩))))
  refine aJ.l11_lp (k := k) H [] (bR ⟨.inl ⟨rfl, rfl⟩, trivial⟩ trivial fi_ ⟨⟨_, rfl⟩, ⟨_, rfl, ⟨.inl ⟨rfl, rfl⟩, ⟨.inl ⟨rfl, rfl⟩, trivial⟩⟩⟩, ⟨⟨_, rfl⟩, ⟨_, rfl, ⟨.inl ⟨rfl, rfl⟩, ⟨.inl ⟨rfl, rfl⟩, ⟨.inl ⟨rfl, rfl⟩, ⟨.inl ⟨rfl, rfl⟩, trivial⟩⟩⟩⟩⟩, trivial⟩⟩ rfl) ?_
  intro k G1 A4 A5 t7 t8 t9 u4 hk H; rcases k with _ | k; exact bC H; rw [aJ.l11] at H
  refine bJ H (fun c H => ?_) (fun c H => ?_)
  revert H; refine aN (fun R3 A H => (cmk (cN.ac A) rfl rfl (nd_ H (fun c H => (Or.inr (Or.inl ?_))))))
  revert H; refine aN (fun P5 A H => (cM [0] (bS.ac A) ⟨rfl, trivial⟩ rfl rfl rfl rfl rfl (jH ⟨rfl, ⟨nJ rfl lm_ lm_, trivial⟩⟩) rfl rfl (Or.inr (Or.inl ?_))))
  revert H; refine aN (fun L5 A H => (cM [0] (bS.ac A) ⟨rfl, trivial⟩ rfl rfl rfl rfl rfl (jH ⟨rfl, ⟨nJ rfl lm_ lm_, trivial⟩⟩) rfl rfl (Or.inr (Or.inl ?_))))
  revert H; refine aN (fun H4 A H => (fA (cV.ac A) (bP (fH (bB (bQ rfl) (bB (bQ rfl) (bB (bQ rfl) (bB (bQ rfl) (fG)))))) (bP (iM lm_ lm_) (eK))) (Or.inl rfl) rfl rfl (Nat.le_of_ble_eq_true rfl) (cu 502 [(0, .bp 0 0), (2, .bp 1 0), (3, .bp 17 0), (12, .int .i64 G1)] [(0, .box [(bV L5.2.1), .int .i64 L5.2.2]), (1, .box [.nil, .nil, .nil, .nil]), (17, .box [(aM H4.1), (aF H4.2.1), (aC H4.2.2.1), (aE H4.2.2.2)])] rfl rfl rfl (⟨(k, wrap64 (G1 + 1), L5.2.1, L5.2.2, H4.1, H4.2.1, H4.2.2.1, H4.2.2.2), [], ⟨H, lt_⟩, lt_, (bR ⟨.inl ⟨rfl, rfl⟩, trivial⟩ trivial fi_ ⟨⟨_, rfl⟩, ⟨_, rfl, ⟨.inl ⟨rfl, rfl⟩, ⟨.inl ⟨rfl, rfl⟩, trivial⟩⟩⟩, ⟨⟨_, rfl⟩, ⟨_, rfl, ⟨.inl ⟨rfl, rfl⟩, ⟨.inl ⟨rfl, rfl⟩, ⟨.inl ⟨rfl, rfl⟩, ⟨.inl ⟨rfl, rfl⟩, trivial⟩⟩⟩⟩⟩, trivial⟩⟩ rfl)⟩))))
  revert H; refine aN (fun J9 A H => (cmk (dT.ac A) rfl rfl (cu 422 [(2, .bp 1 0)] [(0, .box [(bV A4), .int .i64 A5]), (1, .box [(aM J9.1), (aF J9.2.1), (aC J9.2.2.1), (aE J9.2.2.2)])] rfl rfl rfl ?_)))
  cases H
  exact fT [some 0] [] ((rta rfl)) ⟨rfl, trivial⟩ rfl
  revert H; refine aN (fun K1 A H => (cmk (dT.ac A) rfl rfl (cu 374 [(2, .bp 1 0)] [(0, .box [(bV F2.2.1), .int .i64 F2.2.2]), (1, .box [(aM K1.1), (aF K1.2.1), (aC K1.2.2.1), (aE K1.2.2.2)])] rfl rfl rfl ?_)))
  cases H
  exact fT [some 0] [] ((rta rfl)) ⟨rfl, trivial⟩ rfl
  refine Br.f ff_ (Br.f ff_ (Br.f ff_ (Br.f ff_ (cu 326 [(0, .bp 0 0), (2, .bp 1 0), (3, .bp 17 0), (10, .int .i64 F7), (104, .bool false)] [(0, .box [(bV r9), .int .i64 s5]), (1, .box [.nil, .nil, .nil, .nil]), (17, .box [(aM o9), (aF p5), (aC g7), (aE p6)])] rfl rfl rfl (Br.f rfl ?_)))))
  revert H; refine aN (fun F3 A H => (cM [0] (aW.ac A) ⟨rfl, trivial⟩ rfl rfl rfl rfl rfl rfl rfl rfl (bJ H (fun c H => ?_) (fun c H => ?_))))
  refine aJ.l12_lp (F3 := F3) (k := k) H [] (bR ⟨.inl ⟨rfl, rfl⟩, trivial⟩ trivial fi_ ⟨⟨_, rfl⟩, ⟨_, rfl, ⟨.inl ⟨rfl, rfl⟩, ⟨.inl ⟨rfl, rfl⟩, ⟨.inl ⟨rfl, rfl⟩, ⟨.inl ⟨rfl, rfl⟩, trivial⟩⟩⟩⟩⟩, trivial⟩ rfl) ?_
  intro k G4 v7 v8 v9 w5 hk H; rcases k with _ | k; exact bC H; rw [aJ.l12] at H
  refine bJ H (fun c H => ?_) (fun c H => ?_)
  revert H; refine aN (fun R6 A H => (cmk (cN.ac A) rfl rfl (nd_ H (fun c H => (Or.inr (Or.inl ?_))))))
  revert H; refine aN (fun H7 A H => (fA (cV.ac A) (bP (fH (bB (bQ rfl) (bB (bQ rfl) (bB (bQ rfl) (bB (bQ rfl) (fG)))))) (bP (iM lm_ lm_) (eK))) (Or.inl rfl) rfl rfl (Nat.le_of_ble_eq_true rfl) (cu 430 [(0, .bp 0 0), (2, .bp 1 0), (3, .bp 17 0), (11, .int .i64 G4)] [(0, .box [(bV F3.2.1), .int .i64 F3.2.2]), (1, .box [.nil, .nil, .nil, .nil]), (17, .box [(aM H7.1), (aF H7.2.1), (aC H7.2.2.1), (aE H7.2.2.2)])] rfl rfl rfl (⟨(k, wrap64 (G4 + 1), H7.1, H7.2.1, H7.2.2.1, H7.2.2.2), [], ⟨H, lt_⟩, lt_, (bR ⟨.inl ⟨rfl, rfl⟩, trivial⟩ trivial fi_ ⟨⟨_, rfl⟩, ⟨_, rfl, ⟨.inl ⟨rfl, rfl⟩, ⟨.inl ⟨rfl, rfl⟩, ⟨.inl ⟨rfl, rfl⟩, ⟨.inl ⟨rfl, rfl⟩, trivial⟩⟩⟩⟩⟩, trivial⟩ rfl)⟩))))
  refine aJ.l13_lp (k := k) H [] (bR ⟨.inl ⟨rfl, rfl⟩, trivial⟩ trivial fi_ ⟨⟨_, rfl⟩, ⟨_, rfl, ⟨.inl ⟨rfl, rfl⟩, ⟨.inl ⟨rfl, rfl⟩, trivial⟩⟩⟩, ⟨⟨_, rfl⟩, ⟨_, rfl, ⟨.inl ⟨rfl, rfl⟩, ⟨.inl ⟨rfl, rfl⟩, ⟨.inl ⟨rfl, rfl⟩, ⟨.inl ⟨rfl, rfl⟩, trivial⟩⟩⟩⟩⟩, trivial⟩⟩ rfl) ?_
  intro k G3 A6 A7 v3 v4 v5 v6 hk H; rcases k with _ | k; exact bC H; rw [aJ.l13] at H
  refine bJ H (fun c H => ?_) (fun c H => ?_)
  revert H; refine aN (fun R5 A H => (cmk (cN.ac A) rfl rfl (nd_ H (fun c H => (Or.inr (Or.inl ?_))))))
  revert H; refine aN (fun P6 A H => (cM [0] (bS.ac A) ⟨rfl, trivial⟩ rfl rfl rfl rfl rfl (jH ⟨rfl, ⟨nJ rfl lm_ lm_, trivial⟩⟩) rfl rfl (Or.inr (Or.inl ?_))))
  revert H; refine aN (fun L6 A H => (cM [0] (bS.ac A) ⟨rfl, trivial⟩ rfl rfl rfl rfl rfl (jH ⟨rfl, ⟨nJ rfl lm_ lm_, trivial⟩⟩) rfl rfl (Or.inr (Or.inl ?_))))
  revert H; refine aN (fun H6 A H => (fA (cV.ac A) (bP (fH (bB (bQ rfl) (bB (bQ rfl) (bB (bQ rfl) (bB (bQ rfl) (fG)))))) (bP (iM lm_ lm_) (eK))) (Or.inl rfl) rfl rfl (Nat.le_of_ble_eq_true rfl) (cu 502 [(0, .bp 0 0), (2, .bp 1 0), (3, .bp 17 0), (12, .int .i64 G3)] [(0, .box [(bV L6.2.1), .int .i64 L6.2.2]), (1, .box [.nil, .nil, .nil, .nil]), (17, .box [(aM H6.1), (aF H6.2.1), (aC H6.2.2.1), (aE H6.2.2.2)])] rfl rfl rfl (⟨(k, wrap64 (G3 + 1), L6.2.1, L6.2.2, H6.1, H6.2.1, H6.2.2.1, H6.2.2.2), [], ⟨H, lt_⟩, lt_, (bR ⟨.inl ⟨rfl, rfl⟩, trivial⟩ trivial fi_ ⟨⟨_, rfl⟩, ⟨_, rfl, ⟨.inl ⟨rfl, rfl⟩, ⟨.inl ⟨rfl, rfl⟩, trivial⟩⟩⟩, ⟨⟨_, rfl⟩, ⟨_, rfl, ⟨.inl ⟨rfl, rfl⟩, ⟨.inl ⟨rfl, rfl⟩, ⟨.inl ⟨rfl, rfl⟩, ⟨.inl ⟨rfl, rfl⟩, trivial⟩⟩⟩⟩⟩, trivial⟩⟩ rfl)⟩))))
  revert H; refine aN (fun K0 A H => (cmk (dT.ac A) rfl rfl (cu 422 [(2, .bp 1 0)] [(0, .box [(bV A6), .int .i64 A7]), (1, .box [(aM K0.1), (aF K0.2.1), (aC K0.2.2.1), (aE K0.2.2.2)])] rfl rfl rfl ?_)))
  cases H
  exact fT [some 0] [] ((rta rfl)) ⟨rfl, trivial⟩ rfl
  revert H; refine aN (fun K2 A H => (cmk (dT.ac A) rfl rfl (cu 374 [(2, .bp 1 0)] [(0, .box [(bV F3.2.1), .int .i64 F3.2.2]), (1, .box [(aM K2.1), (aF K2.2.1), (aC K2.2.2.1), (aE K2.2.2.2)])] rfl rfl rfl ?_)))
  cases H
  exact fT [some 0] [] ((rta rfl)) ⟨rfl, trivial⟩ rfl
theorem bI.l1_lp {F : (Exit → St → Prop) → St → Prop} {hv : List Tmp} {Q : Exit → St → Prop} {σ : St} {r : Bool} {k : Nat} {b8 : List ByteArray} {a8 : List aD} {x4 : Int} (H : bI.l1 k b8 a8 x4 = some r) (rn : List (Option Nat)) (h1 : cG σ σ [] [(4, .int .i64 x4)] [] [] rn)
    (h2 : ∀ (k0 : Nat) (x4 : Int), k0 < k + 1 → bI.l1 k0 b8 a8 x4 = some r → dL σ hv [] [(4, .int .i64 x4)] [] [] (F (fun e σ' => match e with | .normal => ∃ (y : Nat × Int) (rn : List (Option Nat)), (bI.l1 y.1 b8 a8 y.2 = some r ∧ y.1 < k + 1) ∧ y.1 < k0 ∧ cG σ σ' [] [(4, .int .i64 y.2)] [] [] rn | e => Q e σ'))) : Lp F hv Q σ := by
  unfold Lp
  refine ⟨Nat × Int, fun x => bI.l1 x.1 b8 a8 x.2 = some r ∧ x.1 < k + 1, fun x => x.1, [], fun x => [(4, .int .i64 x.2)], fun x => [], fun x => [], ⟨(k, x4), rn, ⟨H, Nat.lt_succ_self _⟩, h1⟩, ?_⟩
  rintro ⟨k, x4⟩ ⟨H, hk⟩
  exact h2 k x4 hk H
theorem bI.l0_lp {F : (Exit → St → Prop) → St → Prop} {hv : List Tmp} {Q : Exit → St → Prop} {σ : St} {r : Bool} {k : Nat} {b8 : List ByteArray} {a8 : List aD} {x3 : Int} (H : bI.l0 k b8 a8 x3 = some r) (rn : List (Option Nat)) (h1 : cG σ σ [] [(3, .int .i64 x3)] [] [] rn)
    (h2 : ∀ (k0 : Nat) (x3 : Int), k0 < k + 1 → bI.l0 k0 b8 a8 x3 = some r → dL σ hv [] [(3, .int .i64 x3)] [] [] (F (fun e σ' => match e with | .normal => ∃ (y : Nat × Int) (rn : List (Option Nat)), (bI.l0 y.1 b8 a8 y.2 = some r ∧ y.1 < k + 1) ∧ y.1 < k0 ∧ cG σ σ' [] [(3, .int .i64 y.2)] [] [] rn | e => Q e σ'))) : Lp F hv Q σ := by
  unfold Lp
  refine ⟨Nat × Int, fun x => bI.l0 x.1 b8 a8 x.2 = some r ∧ x.1 < k + 1, fun x => x.1, [], fun x => [(3, .int .i64 x.2)], fun x => [], fun x => [], ⟨(k, x3), rn, ⟨H, Nat.lt_succ_self _⟩, h1⟩, ?_⟩
  rintro ⟨k, x3⟩ ⟨H, hk⟩
  exact h2 k x3 hk H
end Go.Proofs.YtnobkcplpbkigaaGreatDoor.PT
