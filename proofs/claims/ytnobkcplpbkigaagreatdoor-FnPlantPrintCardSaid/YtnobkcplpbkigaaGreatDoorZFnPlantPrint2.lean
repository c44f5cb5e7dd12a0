import Derived.Test.YtnobkcplpbkigaaGreatDoorZFnPlantPrint1
import Derived.Shelf.Lay
import Derived.Shelf.Sort.AssemblyIn
import Derived.Ground.SoProg
import Derived.Ground.GgsProg
import Derived.Deep.QuietTactic
import Derived.BigQuiet
import Derived.Test.YtnobkcplpbkigaaGreatDoorProg
import Derived.KernelRfl
set_option linter.unusedVariables false
set_option linter.unusedSimpArgs false
namespace Go.Proofs.YtnobkcplpbkigaaGreatDoor.VP
open Go Go.Aw Go.RowKit Go.Proofs
set_option maxRecDepth 100000
set_option maxHeartbeats 40000000
variable {G : Nat → Option Obj}
def tab : List (TypeId × TI) := [(2, ⟨1, 8, false, 0, 0, [], [.int .i64 0], some .i64, false, false, false, [], [0], []⟩),
  (3, ⟨1, 8, false, 0, 0, [], [.int .i64 0], some .i64, false, false, false, [], [0], []⟩),
  (4, ⟨1, 1, false, 0, 0, [], [.bool false], none, false, false, true, [], [0], []⟩),
  (5, ⟨1, 1, false, 0, 0, [], [.int .u8 0], some .u8, false, false, false, [], [0], []⟩),
  (6, ⟨1, 1, false, 0, 0, [], [.int .u8 0], some .u8, false, false, false, [], [0], []⟩),
  (7, ⟨4, 24, true, 0, 0, [(0, 2), (1, 3), (2, 4), (3, 6)], [.int .i64 0, .int .i64 0, .bool false, .int .u8 0], none, false, false, false, [(0, 1), (1, 1), (2, 1), (3, 1)], [0, 0, 0, 0], []⟩),
  (8, ⟨4, 24, true, 0, 0, [(0, 2), (1, 3), (2, 4), (3, 6)], [.int .i64 0, .int .i64 0, .bool false, .int .u8 0], none, false, false, false, [(0, 1), (1, 1), (2, 1), (3, 1)], [0, 0, 0, 0], []⟩),
  (9, ⟨1, 16, false, 0, 0, [], [.str ⟨#[]⟩], none, true, false, false, [], [0], []⟩),
  (10, ⟨1, 16, false, 0, 0, [], [.str ⟨#[]⟩], none, true, false, false, [], [0], []⟩),
  (11, ⟨1, 16, false, 0, 0, [], [.str ⟨#[]⟩], none, true, false, false, [], [0], []⟩),
  (12, ⟨1, 8, false, 0, 0, [], [.int .u64 0], some .u64, false, false, false, [], [0], []⟩),
  (13, ⟨2, 24, true, 0, 0, [(0, 9), (1, 12)], [.str ⟨#[]⟩, .int .u64 0], none, false, false, false, [(0, 1), (1, 1)], [0, 0], []⟩),
  (14, ⟨2, 24, true, 0, 0, [(0, 9), (1, 12)], [.str ⟨#[]⟩, .int .u64 0], none, false, false, false, [(0, 1), (1, 1)], [0, 0], []⟩),
  (15, ⟨1, 8, false, 0, 0, [], [.und], none, false, false, false, [], [0], []⟩),
  (16, ⟨1, 8, false, 0, 0, [], [.und], none, false, false, false, [], [0], []⟩),
  (17, ⟨1, 8, false, 0, 0, [], [.und], none, false, false, false, [], [0], []⟩),
  (18, ⟨1, 8, true, 0, 0, [(0, 17)], [.und], none, false, false, false, [(0, 1)], [0], []⟩),
  (19, ⟨1, 8, true, 0, 0, [(0, 17)], [.und], none, false, false, false, [(0, 1)], [0], []⟩),
  (21, ⟨1, 4, false, 0, 0, [], [.int .i32 0], some .i32, false, false, false, [], [0], []⟩),
  (22, ⟨1, 24, false, 5, 0, [], [.nil], none, false, true, false, [], [1], []⟩),
  (23, ⟨1, 24, false, 9, 0, [], [.nil], none, false, true, false, [], [1], []⟩),
  (24, ⟨1, 24, false, 47, 0, [], [.nil], none, false, true, false, [], [2], []⟩),
  (25, ⟨1, 24, false, 49, 0, [], [.nil], none, false, true, false, [], [3], []⟩),
  (26, ⟨1, 24, false, 52, 0, [], [.nil], none, false, true, false, [], [4], []⟩),
  (27, ⟨4, 96, true, 0, 0, [(0, 23), (1, 24), (2, 25), (3, 26)], [.nil, .nil, .nil, .nil], none, false, false, false, [(0, 1), (1, 1), (2, 1), (3, 1)], [1, 2, 3, 4], []⟩),
  (28, ⟨4, 96, true, 0, 0, [(0, 23), (1, 24), (2, 25), (3, 26)], [.nil, .nil, .nil, .nil], none, false, false, false, [(0, 1), (1, 1), (2, 1), (3, 1)], [1, 2, 3, 4], []⟩),
  (32, ⟨2, 16, true, 0, 0, [(0, 3), (1, 3)], [.int .i64 0, .int .i64 0], none, false, false, false, [(0, 1), (1, 1)], [0, 0], []⟩),
  (33, ⟨2, 16, true, 0, 0, [(0, 3), (1, 3)], [.int .i64 0, .int .i64 0], none, false, false, false, [(0, 1), (1, 1)], [0, 0], [1, 1]⟩),
  (44, ⟨1, 8, false, 0, 0, [], [.und], none, false, false, false, [], [0], []⟩),
  (46, ⟨2, 32, true, 0, 0, [(0, 9), (1, 9)], [.str ⟨#[]⟩, .str ⟨#[]⟩], none, false, false, false, [(0, 1), (1, 1)], [0, 0], []⟩),
  (47, ⟨2, 32, true, 0, 0, [(0, 9), (1, 9)], [.str ⟨#[]⟩, .str ⟨#[]⟩], none, false, false, false, [(0, 1), (1, 1)], [0, 0], [2, 2]⟩),
  (48, ⟨3, 40, true, 0, 0, [(0, 9), (1, 3), (2, 9)], [.str ⟨#[]⟩, .int .i64 0, .str ⟨#[]⟩], none, false, false, false, [(0, 1), (1, 1), (2, 1)], [0, 0, 0], []⟩),
  (49, ⟨3, 40, true, 0, 0, [(0, 9), (1, 3), (2, 9)], [.str ⟨#[]⟩, .int .i64 0, .str ⟨#[]⟩], none, false, false, false, [(0, 1), (1, 1), (2, 1)], [0, 0, 0], [2, 1, 2]⟩),
  (51, ⟨4, 64, true, 0, 0, [(0, 9), (1, 9), (2, 9), (3, 9)], [.str ⟨#[]⟩, .str ⟨#[]⟩, .str ⟨#[]⟩, .str ⟨#[]⟩], none, false, false, false, [(0, 1), (1, 1), (2, 1), (3, 1)], [0, 0, 0, 0], []⟩),
  (52, ⟨4, 64, true, 0, 0, [(0, 9), (1, 9), (2, 9), (3, 9)], [.str ⟨#[]⟩, .str ⟨#[]⟩, .str ⟨#[]⟩, .str ⟨#[]⟩], none, false, false, false, [(0, 1), (1, 1), (2, 1), (3, 1)], [0, 0, 0, 0], [2, 2, 2, 2]⟩),
  (55, ⟨1, 24, false, 79, 0, [], [.nil], none, false, true, false, [], [2], []⟩),
  (65, ⟨1, 8, false, 0, 0, [], [.und], none, false, false, false, [], [0], []⟩),
  (77, ⟨2, 32, true, 0, 0, [(0, 22), (1, 3)], [.nil, .int .i64 0], none, false, false, false, [(0, 1), (1, 1)], [1, 0], []⟩),
  (78, ⟨2, 32, true, 0, 0, [(0, 22), (1, 3)], [.nil, .int .i64 0], none, false, false, false, [(0, 1), (1, 1)], [1, 0], []⟩),
  (79, ⟨2, 32, true, 9, 2, [], [.str ⟨#[]⟩, .str ⟨#[]⟩], none, false, false, false, [(0, 1), (1, 1)], [0, 0], [2, 2]⟩),
  (94, ⟨1, 24, false, 3, 0, [], [.nil], none, false, true, false, [], [1], []⟩),
  (102, ⟨1, 8, false, 0, 0, [], [.int .u64 0], some .u64, false, false, false, [], [0], []⟩),
  (110, ⟨1, 8, false, 0, 0, [], [.int .u64 0], some .u64, false, false, false, [], [0], []⟩),
  (116, ⟨24, 24, true, 5, 24, [], [.int .u8 0, .int .u8 0, .int .u8 0, .int .u8 0, .int .u8 0, .int .u8 0, .int .u8 0, .int .u8 0, .int .u8 0, .int .u8 0, .int .u8 0, .int .u8 0, .int .u8 0, .int .u8 0, .int .u8 0, .int .u8 0, .int .u8 0, .int .u8 0, .int .u8 0, .int .u8 0, .int .u8 0, .int .u8 0, .int .u8 0, .int .u8 0], none, false, false, false, [(0, 1), (1, 1), (2, 1), (3, 1), (4, 1), (5, 1), (6, 1), (7, 1), (8, 1), (9, 1), (10, 1), (11, 1), (12, 1), (13, 1), (14, 1), (15, 1), (16, 1), (17, 1), (18, 1), (19, 1), (20, 1), (21, 1), (22, 1), (23, 1)], [0, 0, 0, 0, 0, 0, 0, 0, 0, 0, 0, 0, 0, 0, 0, 0, 0, 0, 0, 0, 0, 0, 0, 0], [1, 1, 1, 1, 1, 1, 1, 1, 1, 1, 1, 1, 1, 1, 1, 1, 1, 1, 1, 1, 1, 1, 1, 1]⟩),
  (117, ⟨1, 8, false, 0, 0, [], [.int .u64 0], some .u64, false, false, false, [], [0], []⟩),
  (124, ⟨1, 8, true, 0, 0, [(0, 17)], [.und], none, false, false, false, [(0, 1)], [0], []⟩),
  (125, ⟨1, 8, true, 0, 0, [(0, 17)], [.und], none, false, false, false, [(0, 1)], [0], []⟩),
  (126, ⟨1, 8, false, 0, 0, [], [.und], none, false, false, false, [], [0], []⟩),
  (128, ⟨1, 4, false, 0, 0, [], [.int .u32 0], some .u32, false, false, false, [], [0], []⟩),
  (130, ⟨1, 8, false, 0, 0, [], [.int .i64 0], some .i64, false, false, false, [], [0], []⟩),
  (137, ⟨20, 160, true, 117, 20, [], [.int .u64 0, .int .u64 0, .int .u64 0, .int .u64 0, .int .u64 0, .int .u64 0, .int .u64 0, .int .u64 0, .int .u64 0, .int .u64 0, .int .u64 0, .int .u64 0, .int .u64 0, .int .u64 0, .int .u64 0, .int .u64 0, .int .u64 0, .int .u64 0, .int .u64 0, .int .u64 0], none, false, false, false, [(0, 1), (1, 1), (2, 1), (3, 1), (4, 1), (5, 1), (6, 1), (7, 1), (8, 1), (9, 1), (10, 1), (11, 1), (12, 1), (13, 1), (14, 1), (15, 1), (16, 1), (17, 1), (18, 1), (19, 1)], [0, 0, 0, 0, 0, 0, 0, 0, 0, 0, 0, 0, 0, 0, 0, 0, 0, 0, 0, 0], [1, 1, 1, 1, 1, 1, 1, 1, 1, 1, 1, 1, 1, 1, 1, 1, 1, 1, 1, 1]⟩),
  (138, ⟨65, 65, true, 5, 65, [], [.int .u8 0, .int .u8 0, .int .u8 0, .int .u8 0, .int .u8 0, .int .u8 0, .int .u8 0, .int .u8 0, .int .u8 0, .int .u8 0, .int .u8 0, .int .u8 0, .int .u8 0, .int .u8 0, .int .u8 0, .int .u8 0, .int .u8 0, .int .u8 0, .int .u8 0, .int .u8 0, .int .u8 0, .int .u8 0, .int .u8 0, .int .u8 0, .int .u8 0, .int .u8 0, .int .u8 0, .int .u8 0, .int .u8 0, .int .u8 0, .int .u8 0, .int .u8 0, .int .u8 0, .int .u8 0, .int .u8 0, .int .u8 0, .int .u8 0, .int .u8 0, .int .u8 0, .int .u8 0, .int .u8 0, .int .u8 0, .int .u8 0, .int .u8 0, .int .u8 0, .int .u8 0, .int .u8 0, .int .u8 0, .int .u8 0, .int .u8 0, .int .u8 0, .int .u8 0, .int .u8 0, .int .u8 0, .int .u8 0, .int .u8 0, .int .u8 0, .int .u8 0, .int .u8 0, .int .u8 0, .int .u8 0, .int .u8 0, .int .u8 0, .int .u8 0, .int .u8 0], none, false, false, false, [(0, 1), (1, 1), (2, 1), (3, 1), (4, 1), (5, 1), (6, 1), (7, 1), (8, 1), (9, 1), (10, 1), (11, 1), (12, 1), (13, 1), (14, 1), (15, 1), (16, 1), (17, 1), (18, 1), (19, 1), (20, 1), (21, 1), (22, 1), (23, 1), (24, 1), (25, 1), (26, 1), (27, 1), (28, 1), (29, 1), (30, 1), (31, 1), (32, 1), (33, 1), (34, 1), (35, 1), (36, 1), (37, 1), (38, 1), (39, 1), (40, 1), (41, 1), (42, 1), (43, 1), (44, 1), (45, 1), (46, 1), (47, 1), (48, 1), (49, 1), (50, 1), (51, 1), (52, 1), (53, 1), (54, 1), (55, 1), (56, 1), (57, 1), (58, 1), (59, 1), (60, 1), (61, 1), (62, 1), (63, 1), (64, 1)], [0, 0, 0, 0, 0, 0, 0, 0, 0, 0, 0, 0, 0, 0, 0, 0, 0, 0, 0, 0, 0, 0, 0, 0, 0, 0, 0, 0, 0, 0, 0, 0, 0, 0, 0, 0, 0, 0, 0, 0, 0, 0, 0, 0, 0, 0, 0, 0, 0, 0, 0, 0, 0, 0, 0, 0, 0, 0, 0, 0, 0, 0, 0, 0, 0], []⟩),
  (144, ⟨1, 8, false, 0, 0, [], [.int .u64 0], some .u64, false, false, false, [], [0], []⟩),
  (148, ⟨1, 8, false, 0, 0, [], [.und], none, false, false, false, [], [0], []⟩),
  (151, ⟨1, 8, false, 0, 0, [], [.int .i64 0], some .i64, false, false, false, [], [0], []⟩),
  (158, ⟨1, 8, false, 0, 0, [], [.und], none, false, false, false, [], [0], []⟩),
  (161, ⟨32, 32, true, 5, 32, [], [.int .u8 0, .int .u8 0, .int .u8 0, .int .u8 0, .int .u8 0, .int .u8 0, .int .u8 0, .int .u8 0, .int .u8 0, .int .u8 0, .int .u8 0, .int .u8 0, .int .u8 0, .int .u8 0, .int .u8 0, .int .u8 0, .int .u8 0, .int .u8 0, .int .u8 0, .int .u8 0, .int .u8 0, .int .u8 0, .int .u8 0, .int .u8 0, .int .u8 0, .int .u8 0, .int .u8 0, .int .u8 0, .int .u8 0, .int .u8 0, .int .u8 0, .int .u8 0], none, false, false, false, [(0, 1), (1, 1), (2, 1), (3, 1), (4, 1), (5, 1), (6, 1), (7, 1), (8, 1), (9, 1), (10, 1), (11, 1), (12, 1), (13, 1), (14, 1), (15, 1), (16, 1), (17, 1), (18, 1), (19, 1), (20, 1), (21, 1), (22, 1), (23, 1), (24, 1), (25, 1), (26, 1), (27, 1), (28, 1), (29, 1), (30, 1), (31, 1)], [0, 0, 0, 0, 0, 0, 0, 0, 0, 0, 0, 0, 0, 0, 0, 0, 0, 0, 0, 0, 0, 0, 0, 0, 0, 0, 0, 0, 0, 0, 0, 0], [1, 1, 1, 1, 1, 1, 1, 1, 1, 1, 1, 1, 1, 1, 1, 1, 1, 1, 1, 1, 1, 1, 1, 1, 1, 1, 1, 1, 1, 1, 1, 1]⟩),
  (162, ⟨64, 64, true, 5, 64, [], [.int .u8 0, .int .u8 0, .int .u8 0, .int .u8 0, .int .u8 0, .int .u8 0, .int .u8 0, .int .u8 0, .int .u8 0, .int .u8 0, .int .u8 0, .int .u8 0, .int .u8 0, .int .u8 0, .int .u8 0, .int .u8 0, .int .u8 0, .int .u8 0, .int .u8 0, .int .u8 0, .int .u8 0, .int .u8 0, .int .u8 0, .int .u8 0, .int .u8 0, .int .u8 0, .int .u8 0, .int .u8 0, .int .u8 0, .int .u8 0, .int .u8 0, .int .u8 0, .int .u8 0, .int .u8 0, .int .u8 0, .int .u8 0, .int .u8 0, .int .u8 0, .int .u8 0, .int .u8 0, .int .u8 0, .int .u8 0, .int .u8 0, .int .u8 0, .int .u8 0, .int .u8 0, .int .u8 0, .int .u8 0, .int .u8 0, .int .u8 0, .int .u8 0, .int .u8 0, .int .u8 0, .int .u8 0, .int .u8 0, .int .u8 0, .int .u8 0, .int .u8 0, .int .u8 0, .int .u8 0, .int .u8 0, .int .u8 0, .int .u8 0, .int .u8 0], none, false, false, false, [(0, 1), (1, 1), (2, 1), (3, 1), (4, 1), (5, 1), (6, 1), (7, 1), (8, 1), (9, 1), (10, 1), (11, 1), (12, 1), (13, 1), (14, 1), (15, 1), (16, 1), (17, 1), (18, 1), (19, 1), (20, 1), (21, 1), (22, 1), (23, 1), (24, 1), (25, 1), (26, 1), (27, 1), (28, 1), (29, 1), (30, 1), (31, 1), (32, 1), (33, 1), (34, 1), (35, 1), (36, 1), (37, 1), (38, 1), (39, 1), (40, 1), (41, 1), (42, 1), (43, 1), (44, 1), (45, 1), (46, 1), (47, 1), (48, 1), (49, 1), (50, 1), (51, 1), (52, 1), (53, 1), (54, 1), (55, 1), (56, 1), (57, 1), (58, 1), (59, 1), (60, 1), (61, 1), (62, 1), (63, 1)], [0, 0, 0, 0, 0, 0, 0, 0, 0, 0, 0, 0, 0, 0, 0, 0, 0, 0, 0, 0, 0, 0, 0, 0, 0, 0, 0, 0, 0, 0, 0, 0, 0, 0, 0, 0, 0, 0, 0, 0, 0, 0, 0, 0, 0, 0, 0, 0, 0, 0, 0, 0, 0, 0, 0, 0, 0, 0, 0, 0, 0, 0, 0, 0], []⟩),
  (163, ⟨256, 256, true, 5, 256, [], [.int .u8 0, .int .u8 0, .int .u8 0, .int .u8 0, .int .u8 0, .int .u8 0, .int .u8 0, .int .u8 0, .int .u8 0, .int .u8 0, .int .u8 0, .int .u8 0, .int .u8 0, .int .u8 0, .int .u8 0, .int .u8 0, .int .u8 0, .int .u8 0, .int .u8 0, .int .u8 0, .int .u8 0, .int .u8 0, .int .u8 0, .int .u8 0, .int .u8 0, .int .u8 0, .int .u8 0, .int .u8 0, .int .u8 0, .int .u8 0, .int .u8 0, .int .u8 0, .int .u8 0, .int .u8 0, .int .u8 0, .int .u8 0, .int .u8 0, .int .u8 0, .int .u8 0, .int .u8 0, .int .u8 0, .int .u8 0, .int .u8 0, .int .u8 0, .int .u8 0, .int .u8 0, .int .u8 0, .int .u8 0, .int .u8 0, .int .u8 0, .int .u8 0, .int .u8 0, .int .u8 0, .int .u8 0, .int .u8 0, .int .u8 0, .int .u8 0, .int .u8 0, .int .u8 0, .int .u8 0, .int .u8 0, .int .u8 0, .int .u8 0, .int .u8 0, .int .u8 0, .int .u8 0, .int .u8 0, .int .u8 0, .int .u8 0, .int .u8 0, .int .u8 0, .int .u8 0, .int .u8 0, .int .u8 0, .int .u8 0, .int .u8 0, .int .u8 0, .int .u8 0, .int .u8 0, .int .u8 0, .int .u8 0, .int .u8 0, .int .u8 0, .int .u8 0, .int .u8 0, .int .u8 0, .int .u8 0, .int .u8 0, .int .u8 0, .int .u8 0, .int .u8 0, .int .u8 0, .int .u8 0, .int .u8 0, .int .u8 0, .int .u8 0, .int .u8 0, .int .u8 0, .int .u8 0, .int .u8 0, .int .u8 0, .int .u8 0, .int .u8 0, .int .u8 0, .int .u8 0, .int .u8 0, .int .u8 0, .int .u8 0, .int .u8 0, .int .u8 0, .int .u8 0, .int .u8 0, .int .u8 0, .int .u8 0, .int .u8 0, .int .u8 0, .int .u8 0, .int .u8 0, .int .u8 0, .int .u8 0, .int .u8 0, .int .u8 0, .int .u8 0, .int .u8 0, .int .u8 0, .int .u8 0, .int .u8 0, .int .u8 0, .int .u8 0, .int .u8 0, .int .u8 0, .int .u8 0, .int .u8 0, .int .u8 0, .int .u8 0, .int .u8 0, .int .u8 0, .int .u8 0, .int .u8 0, .int .u8 0, .int .u8 0, .int .u8 0, .int .u8 0, .int .u8 0, .int .u8 0, .int .u8 0, .int .u8 0, .int .u8 0, .int .u8 0, .int .u8 0, .int .u8 0, .int .u8 0, .int .u8 0, .int .u8 0, .int .u8 0, .int .u8 0, .int .u8 0, .int .u8 0, .int .u8 0, .int .u8 0, .int .u8 0, .int .u8 0, .int .u8 0, .int .u8 0, .int .u8 0, .int .u8 0, .int .u8 0, .int .u8 0, .int .u8 0, .int .u8 0, .int .u8 0, .int .u8 0, .int .u8 0, .int .u8 0, .int .u8 0, .int .u8 0, .int .u8 0, .int .u8 0, .int .u8 0, .int .u8 0, .int .u8 0, .int .u8 0, .int .u8 0, .int .u8 0, .int .u8 0, .int .u8 0, .int .u8 0, .int .u8 0, .int .u8 0, .int .u8 0, .int .u8 0, .int .u8 0, .int .u8 0, .int .u8 0, .int .u8 0, .int .u8 0, .int .u8 0, .int .u8 0, .int .u8 0, .int .u8 0, .int .u8 0, .int .u8 0, .int .u8 0, .int .u8 0, .int .u8 0, .int .u8 0, .int .u8 0, .int .u8 0, .int .u8 0, .int .u8 0, .int .u8 0, .int .u8 0, .int .u8 0, .int .u8 0, .int .u8 0, .int .u8 0, .int .u8 0, .int .u8 0, .int .u8 0, .int .u8 0, .int .u8 0, .int .u8 0, .int .u8 0, .int .u8 0, .int .u8 0, .int .u8 0, .int .u8 0, .int .u8 0, .int .u8 0, .int .u8 0, .int .u8 0, .int .u8 0, .int .u8 0, .int .u8 0, .int .u8 0, .int .u8 0, .int .u8 0, .int .u8 0, .int .u8 0, .int .u8 0, .int .u8 0, .int .u8 0, .int .u8 0, .int .u8 0, .int .u8 0, .int .u8 0, .int .u8 0, .int .u8 0, .int .u8 0, .int .u8 0, .int .u8 0, .int .u8 0, .int .u8 0, .int .u8 0, .int .u8 0, .int .u8 0], none, false, false, false, [(0, 1), (1, 1), (2, 1), (3, 1), (4, 1), (5, 1), (6, 1), (7, 1), (8, 1), (9, 1), (10, 1), (11, 1), (12, 1), (13, 1), (14, 1), (15, 1), (16, 1), (17, 1), (18, 1), (19, 1), (20, 1), (21, 1), (22, 1), (23, 1), (24, 1), (25, 1), (26, 1), (27, 1), (28, 1), (29, 1), (30, 1), (31, 1), (32, 1), (33, 1), (34, 1), (35, 1), (36, 1), (37, 1), (38, 1), (39, 1), (40, 1), (41, 1), (42, 1), (43, 1), (44, 1), (45, 1), (46, 1), (47, 1), (48, 1), (49, 1), (50, 1), (51, 1), (52, 1), (53, 1), (54, 1), (55, 1), (56, 1), (57, 1), (58, 1), (59, 1), (60, 1), (61, 1), (62, 1), (63, 1), (64, 1), (65, 1), (66, 1), (67, 1), (68, 1), (69, 1), (70, 1), (71, 1), (72, 1), (73, 1), (74, 1), (75, 1), (76, 1), (77, 1), (78, 1), (79, 1), (80, 1), (81, 1), (82, 1), (83, 1), (84, 1), (85, 1), (86, 1), (87, 1), (88, 1), (89, 1), (90, 1), (91, 1), (92, 1), (93, 1), (94, 1), (95, 1), (96, 1), (97, 1), (98, 1), (99, 1), (100, 1), (101, 1), (102, 1), (103, 1), (104, 1), (105, 1), (106, 1), (107, 1), (108, 1), (109, 1), (110, 1), (111, 1), (112, 1), (113, 1), (114, 1), (115, 1), (116, 1), (117, 1), (118, 1), (119, 1), (120, 1), (121, 1), (122, 1), (123, 1), (124, 1), (125, 1), (126, 1), (127, 1), (128, 1), (129, 1), (130, 1), (131, 1), (132, 1), (133, 1), (134, 1), (135, 1), (136, 1), (137, 1), (138, 1), (139, 1), (140, 1), (141, 1), (142, 1), (143, 1), (144, 1), (145, 1), (146, 1), (147, 1), (148, 1), (149, 1), (150, 1), (151, 1), (152, 1), (153, 1), (154, 1), (155, 1), (156, 1), (157, 1), (158, 1), (159, 1), (160, 1), (161, 1), (162, 1), (163, 1), (164, 1), (165, 1), (166, 1), (167, 1), (168, 1), (169, 1), (170, 1), (171, 1), (172, 1), (173, 1), (174, 1), (175, 1), (176, 1), (177, 1), (178, 1), (179, 1), (180, 1), (181, 1), (182, 1), (183, 1), (184, 1), (185, 1), (186, 1), (187, 1), (188, 1), (189, 1), (190, 1), (191, 1), (192, 1), (193, 1), (194, 1), (195, 1), (196, 1), (197, 1), (198, 1), (199, 1), (200, 1), (201, 1), (202, 1), (203, 1), (204, 1), (205, 1), (206, 1), (207, 1), (208, 1), (209, 1), (210, 1), (211, 1), (212, 1), (213, 1), (214, 1), (215, 1), (216, 1), (217, 1), (218, 1), (219, 1), (220, 1), (221, 1), (222, 1), (223, 1), (224, 1), (225, 1), (226, 1), (227, 1), (228, 1), (229, 1), (230, 1), (231, 1), (232, 1), (233, 1), (234, 1), (235, 1), (236, 1), (237, 1), (238, 1), (239, 1), (240, 1), (241, 1), (242, 1), (243, 1), (244, 1), (245, 1), (246, 1), (247, 1), (248, 1), (249, 1), (250, 1), (251, 1), (252, 1), (253, 1), (254, 1), (255, 1)], [0, 0, 0, 0, 0, 0, 0, 0, 0, 0, 0, 0, 0, 0, 0, 0, 0, 0, 0, 0, 0, 0, 0, 0, 0, 0, 0, 0, 0, 0, 0, 0, 0, 0, 0, 0, 0, 0, 0, 0, 0, 0, 0, 0, 0, 0, 0, 0, 0, 0, 0, 0, 0, 0, 0, 0, 0, 0, 0, 0, 0, 0, 0, 0, 0, 0, 0, 0, 0, 0, 0, 0, 0, 0, 0, 0, 0, 0, 0, 0, 0, 0, 0, 0, 0, 0, 0, 0, 0, 0, 0, 0, 0, 0, 0, 0, 0, 0, 0, 0, 0, 0, 0, 0, 0, 0, 0, 0, 0, 0, 0, 0, 0, 0, 0, 0, 0, 0, 0, 0, 0, 0, 0, 0, 0, 0, 0, 0, 0, 0, 0, 0, 0, 0, 0, 0, 0, 0, 0, 0, 0, 0, 0, 0, 0, 0, 0, 0, 0, 0, 0, 0, 0, 0, 0, 0, 0, 0, 0, 0, 0, 0, 0, 0, 0, 0, 0, 0, 0, 0, 0, 0, 0, 0, 0, 0, 0, 0, 0, 0, 0, 0, 0, 0, 0, 0, 0, 0, 0, 0, 0, 0, 0, 0, 0, 0, 0, 0, 0, 0, 0, 0, 0, 0, 0, 0, 0, 0, 0, 0, 0, 0, 0, 0, 0, 0, 0, 0, 0, 0, 0, 0, 0, 0, 0, 0, 0, 0, 0, 0, 0, 0, 0, 0, 0, 0, 0, 0, 0, 0, 0, 0, 0, 0, 0, 0, 0, 0, 0, 0, 0, 0, 0, 0, 0, 0], []⟩),
  (164, ⟨2, 2, true, 0, 0, [(0, 5), (1, 5)], [.int .u8 0, .int .u8 0], none, false, false, false, [(0, 1), (1, 1)], [0, 0], []⟩),
  (165, ⟨2, 2, true, 0, 0, [(0, 5), (1, 5)], [.int .u8 0, .int .u8 0], none, false, false, false, [(0, 1), (1, 1)], [0, 0], []⟩),
  (166, ⟨32, 32, true, 165, 16, [], [.int .u8 0, .int .u8 0, .int .u8 0, .int .u8 0, .int .u8 0, .int .u8 0, .int .u8 0, .int .u8 0, .int .u8 0, .int .u8 0, .int .u8 0, .int .u8 0, .int .u8 0, .int .u8 0, .int .u8 0, .int .u8 0, .int .u8 0, .int .u8 0, .int .u8 0, .int .u8 0, .int .u8 0, .int .u8 0, .int .u8 0, .int .u8 0, .int .u8 0, .int .u8 0, .int .u8 0, .int .u8 0, .int .u8 0, .int .u8 0, .int .u8 0, .int .u8 0], none, false, false, false, [(0, 2), (2, 2), (4, 2), (6, 2), (8, 2), (10, 2), (12, 2), (14, 2), (16, 2), (18, 2), (20, 2), (22, 2), (24, 2), (26, 2), (28, 2), (30, 2)], [0, 0, 0, 0, 0, 0, 0, 0, 0, 0, 0, 0, 0, 0, 0, 0, 0, 0, 0, 0, 0, 0, 0, 0, 0, 0, 0, 0, 0, 0, 0, 0], []⟩),
  (169, ⟨1, 8, false, 0, 0, [], [.int .u64 0], some .u64, false, false, false, [], [0], []⟩),
  (172, ⟨1, 8, false, 0, 0, [], [.und], none, false, false, false, [], [0], []⟩),
  (175, ⟨4, 40, true, 0, 0, [(0, 17), (1, 17), (2, 17), (3, 9)], [.und, .und, .und, .str ⟨#[]⟩], none, false, false, false, [(0, 1), (1, 1), (2, 1), (3, 1)], [0, 0, 0, 0], []⟩),
  (176, ⟨4, 40, true, 0, 0, [(0, 17), (1, 17), (2, 17), (3, 9)], [.und, .und, .und, .str ⟨#[]⟩], none, false, false, false, [(0, 1), (1, 1), (2, 1), (3, 1)], [0, 0, 0, 0], []⟩),
  (180, ⟨1, 1, false, 0, 0, [], [.int .u8 0], some .u8, false, false, false, [], [0], []⟩),
  (181, ⟨1, 1, false, 0, 0, [], [.int .u8 0], some .u8, false, false, false, [], [0], []⟩),
  (183, ⟨1, 8, false, 0, 0, [], [.und], none, false, false, false, [], [0], []⟩),
  (184, ⟨1, 4, false, 0, 0, [], [.int .i32 0], some .i32, false, false, false, [], [0], []⟩),
  (185, ⟨1, 4, false, 0, 0, [], [.int .i32 0], some .i32, false, false, false, [], [0], []⟩),
  (188, ⟨2, 24, true, 0, 0, [(0, 9), (1, 181)], [.str ⟨#[]⟩, .int .u8 0], none, false, false, false, [(0, 1), (1, 1)], [0, 0], []⟩),
  (189, ⟨2, 24, true, 0, 0, [(0, 9), (1, 181)], [.str ⟨#[]⟩, .int .u8 0], none, false, false, false, [(0, 1), (1, 1)], [0, 0], []⟩)]
theorem tok : TOk Tryz.prog (lk tab) := aKB tab (by kernel_rfl)
theorem hP : Tryz.prog.follows .mixedOrders = true := by kernel_rfl
def aW (x : ByteArray) : List V := [.str x]
def aM (l : List ByteArray) : V := .sl 1 l.length (l.map aW)
theorem wQ (x : ByteArray) : (aW x).all V.bare = true := rfl
theorem aX (l : List ByteArray) (i : Int) (h0 : 0 ≤ i) (h1 : i < (l.length : Int)) : (l.map aW)[i.toNat]? = some (aW (aV ByteArray.empty l i)) := by
  have : i.toNat < l.length := by omega
  simp [aV, this]
def aJ (x : aC) : List V := [.str x.f0, .str x.f1]
def aF (l : List aC) : V := .sl 2 l.length (l.map aJ)
theorem bP (l : List aC) (i : Int) (h0 : 0 ≤ i) (h1 : i < (l.length : Int)) : (l.map aJ)[i.toNat]? = some (aJ (aO l i)) := by
  have : i.toNat < l.length := by omega
  simp [aO, this]
def aH (x : aB) : List V := [.str x.f0, .int .i64 x.f1, .str x.f2]
def aD (l : List aB) : V := .sl 3 l.length (l.map aH)
theorem bJ (l : List aB) (i : Int) (h0 : 0 ≤ i) (h1 : i < (l.length : Int)) : (l.map aH)[i.toNat]? = some (aH (aK l i)) := by
  have : i.toNat < l.length := by omega
  simp [aK, this]
def aG (x : aA) : List V := [.str x.f0, .str x.f1, .str x.f2, .str x.f3]
def aE (l : List aA) : V := .sl 4 l.length (l.map aG)
theorem bQ (l : List aA) (i : Int) (h0 : 0 ≤ i) (h1 : i < (l.length : Int)) : (l.map aG)[i.toNat]? = some (aG (aI l i)) := by
  have : i.toNat < l.length := by omega
  simp [aI, this]
def tM (x : Int) : List V := [.int .u8 x]
def bV (l : List Int) : V := .sl 1 l.length (l.map tM)
theorem qT (l : List Int) (i : Int) (h0 : 0 ≤ i) (h1 : i < (l.length : Int)) : (l.map tM)[i.toNat]? = some (tM (rd l i)) := by
  have : i.toNat < l.length := by omega
  simp [rd, this]
def zG (x : Int) : List V := [.int .i64 x]
theorem zC (l : List Int) (i : Int) (h0 : 0 ≤ i) (h1 : i < (l.length : Int)) : (l.map zG)[i.toNat]? = some (zG (rd l i)) := by
  have : i.toNat < l.length := by omega
  simp [rd, this]
def dV (x : bR) : List V := [.str x.f0, .str x.f1]
def cZ (l : List bR) : V := .sl 2 l.length (l.map dV)
theorem oQ (x : bR) : (dV x).all V.bare = true := rfl
theorem gE (l : List bR) (i : Int) (h0 : 0 ≤ i) (h1 : i < (l.length : Int)) : (l.map dV)[i.toNat]? = some (dV (cH l i)) := by
  have : i.toNat < l.length := by omega
  simp [cH, this]
theorem oO : aEC Tryz.prog 85 := ⟨_, _, Tryz.underlying85, by kernel_rfl, fun _ => by kernel_rfl⟩
attribute [local irreducible] jK Lp Sq Cut kR kJ cJ

theorem gN.ac {l0 : List Int} {r : (List Int) × Int} (H : gN.f l0 = some r) : cI Tryz.prog G 18 [] [(bV l0)] [.box [(bV r.1), .int .i64 r.2]] (.bp 0 0) := by
  refine bO tok hP Tryz.func18 rfl (by kernel_rfl) [.tmp 2] rfl (by kernel_rfl) (Nat.le_of_ble_eq_true rfl) (.l .n (.l .n (.c .n .n))) rfl ?_
  unfold gN.f at H
  refine bM H (fun c H => ?_) (fun c H => ?_)
  refine Nd.mk (by decide) (nd_ H (fun c H => (jW 88 [(2, .bp 72 0)] [(72, .box [.sl 1 ((2000 : Int).toNat) ((l0.take (2000 : Int).toNat).map tM), .int .i64 0])] rfl ⟨.inl rfl, trivial⟩ ⟨fL rfl ⟨kU rfl lm_ lm_, ⟨rfl, trivial⟩⟩, trivial⟩ ?_)))
  cases H
  exact fO [some 72] [] ((rfl)) ⟨fL rfl ⟨kU rfl lm_ lm_, ⟨rfl, trivial⟩⟩, trivial⟩ rfl
  refine cu 64 [(2, .bp 48 0)] [(48, .box [(bV l0), .int .i64 0])] rfl rfl rfl ?_
  cases H
  exact fO [some 48] [] ((rfl)) ⟨rfl, trivial⟩ rfl
theorem aS.ac {a0_0 : List Int} {a0_1 : Int} {a1 : Int} {r : Int × (List Int) × Int} (H : aS.f a0_0 a0_1 a1 = some r) : cI Tryz.prog G 34 [.box [(bV a0_0), .int .i64 a0_1]] [.bp 0 0, .int .i64 a1] [.box [(bV r.2.1), .int .i64 r.2.2]] (.int .i64 r.1) := by
  refine bO tok hP Tryz.func34 rfl (by kernel_rfl) [.tmp 4] rfl (by kernel_rfl) (Nat.le_of_ble_eq_true rfl) (.l .n (.l .n (.l (.c .n (.l (.c .n .n) .n)) (.l .n (.l (.c .n (.l (.c .n .n) .n)) (.c .n .n)))))) rfl ?_
  unfold aS.f at H
  refine bM H (fun c H => ?_) (fun c H => ?_)
  refine Br.t ft_ (Br.t ft_ (Br.t ft_ (Br.t ft_ (Br.t ft_ (Br.t ft_ (cu 161 [(0, .bp 0 0), (1, .int .i64 a1), (24, .bool true)] [(0, .box [(bV a0_0), .int .i64 (wrap64 (a0_1 + 1))])] rfl rfl rfl (Br.t rfl (cu 169 [(4, .int .i64 0)] [(0, .box [(bV a0_0), .int .i64 (wrap64 (a0_1 + 1))])] rfl rfl rfl ?_))))))))
  cases H
  exact fO [some 0] [] ((fX rfl)) ⟨rfl, trivial⟩ rfl
  refine Br.f ff_ (Br.f ff_ (Br.f ff_ (Br.f ff_ (Br.f ff_ (Br.f ff_ (cu 161 [(0, .bp 0 0), (1, .int .i64 a1), (24, .bool (decide ((a0_0.length : Int) = 0)))] [(0, .box [(bV a0_0), .int .i64 (wrap64 (a0_1 + 1))])] rfl rfl rfl (bM H (fun c H => ?_) (fun c H => ?_))))))))
  refine cu 169 [(4, .int .i64 0)] [(0, .box [(bV a0_0), .int .i64 (wrap64 (a0_1 + 1))])] rfl rfl rfl ?_
  cases H
  exact fO [some 0] [] ((fX rfl)) ⟨rfl, trivial⟩ rfl
  refine cu 265 [(0, .bp 0 0), (1, .int .i64 a1), (5, .int .i64 (wrap64 ((wrap64 (a0_1 + 1)) - 1))), (36, .bool (decide ((wrap64 ((wrap64 (a0_1 + 1)) - 1)) < (a0_0.length : Int))))] [(0, .box [(bV a0_0), .int .i64 (wrap64 (a0_1 + 1))])] rfl rfl rfl (bM H (fun c H => ?_) (fun c H => ?_))
  refine nd_ H (fun c H => (Nd.mk nf_ (El.mk (qT _ _ nf_ nf_) (nd_ H (fun c H => (cu 353 [(4, .int .i64 (Int.tmod (wrap64 (rd a0_0 (wrap64 ((wrap64 (a0_1 + 1)) - 1)))) a1))] [(0, .box [(bV a0_0), .int .i64 (wrap64 (a0_1 + 1))])] rfl rfl rfl ?_))))))
  cases H
  exact fO [some 0] [] ((fX rfl)) ⟨rfl, trivial⟩ rfl
  refine nd_ H (fun c H => (nd_ H (fun c H => (nd_ H (fun c H => (El.mk (qT _ _ nf_ nf_) (Nd.mk nf_ (nd_ H (fun c H => (nd_ H (fun c H => (El.mk (qT _ _ nf_ nf_) (Nd.mk nf_ (cu 633 [(1, .int .i64 a1), (6, .int .i64 (wrap64 ((wrap64 ((wrap64 ((wrap64 ((wrap64 (rd a0_0 (Int.tmod (wrap64 ((wrap64 (a0_1 + 1)) - 1)) (a0_0.length : Int)))) * 131)) + (wrap64 ((wrap64 (rd a0_0 (Int.tmod (wrap64 ((wrap64 ((wrap64 ((wrap64 (a0_1 + 1)) - 1)) * 7)) + 3)) (a0_0.length : Int)))) * 1117)))) + (wrap64 ((wrap64 ((wrap64 (a0_1 + 1)) - 1)) * 29)))) + (wrap64 ((wrap64 (Int.tdiv (wrap64 ((wrap64 (a0_1 + 1)) - 1)) (a0_0.length : Int))) * 53)))))] [(0, .box [(bV a0_0), .int .i64 (wrap64 (a0_1 + 1))])] rfl rfl rfl (Nd.mk (by decide) (nd_ H (fun c H => ?_)))))))))))))))))
  cases H
  exact fO [some 0] [] ((fX rfl)) ⟨rfl, trivial⟩ rfl
theorem bA.ac {a0_0 : List Int} {a0_1 : Int} {l1 : List ByteArray} {r : ByteArray × (List Int) × Int} (H : bA.f a0_0 a0_1 l1 = some r) : cI Tryz.prog G 35 [.box [(bV a0_0), .int .i64 a0_1]] [.bp 0 0, (aM l1)] [.box [(bV r.2.1), .int .i64 r.2.2]] (.str r.1) := by
  refine bO tok hP Tryz.func35 rfl (by kernel_rfl) [.tmp 4] rfl (by kernel_rfl) (Nat.le_of_ble_eq_true rfl) .n rfl ?_
  unfold bA.f at H
  revert H; refine aN (fun t18 A H => (bW [0] (aS.ac A) ⟨rfl, trivial⟩ rfl rfl rfl rfl rfl rfl rfl rfl (nd_ H (fun c H => (nd_ H (fun c H => (El.mk (aX _ _ nf_ nf_) ?_)))))))
  cases H
  exact fO [some 0] [] ((fX rfl)) ⟨rfl, trivial⟩ rfl
theorem fJ.ac {a0 : Int} {a1 : Int} {a2 : Int} {r : Bool} (H : fJ.f a0 a1 a2 = some r) : cI Tryz.prog G 54 [] [.int .i64 a0, .int .i64 a1, .int .i64 a2] [] (.bool r) := by
  refine bO tok hP Tryz.func54 rfl (by kernel_rfl) [.tmp 6] rfl (by kernel_rfl) (Nat.le_of_ble_eq_true rfl) (.l .n (.c .n .n)) rfl ?_
  unfold fJ.f at H
  refine bM H (fun c H => ?_) (fun c H => ?_)
  refine Br.t ft_ (Br.t ft_ (Br.t ft_ (cu 80 [(6, .bool (decide (a0 ≤ a2)))] [] rfl rfl rfl ?_)))
  cases H
  exact rz rfl
  refine Br.f ff_ (Br.f ff_ (Br.f ff_ (cu 80 [(6, .bool false)] [] rfl rfl rfl ?_)))
  cases H
  exact rz rfl
theorem aY.l0_lp {F : (Exit → St → Prop) → St → Prop} {hv : List Tmp} {Q : Exit → St → Prop} {σ : St} {r : Bool} {k : Nat} {a0 : ByteArray} {x3 : Int} (H : aY.l0 k a0 x3 = some r) (rn : List (Option Nat)) (h1 : cJ σ σ [] [(3, .int .i64 x3)] [] [] rn)
    (h2 : ∀ (k0 : Nat) (x3 : Int), k0 < k + 1 → aY.l0 k0 a0 x3 = some r → dE σ hv [] [(3, .int .i64 x3)] [] [] (F (fun e σ' => match e with | .normal => ∃ (y : Nat × Int) (rn : List (Option Nat)), (aY.l0 y.1 a0 y.2 = some r ∧ y.1 < k + 1) ∧ y.1 < k0 ∧ cJ σ σ' [] [(3, .int .i64 y.2)] [] [] rn | e => Q e σ'))) : Lp F hv Q σ := by
  unfold Lp
  refine ⟨Nat × Int, fun x => aY.l0 x.1 a0 x.2 = some r ∧ x.1 < k + 1, fun x => x.1, [], fun x => [(3, .int .i64 x.2)], fun x => [], fun x => [], ⟨(k, x3), rn, ⟨H, Nat.lt_succ_self _⟩, h1⟩, ?_⟩
  rintro ⟨k, x3⟩ ⟨H, hk⟩
  exact h2 k x3 hk H
theorem aY.ac {k : Nat} {a0 : ByteArray} {r : Bool} (H : aY.f k a0 = some r) : cI Tryz.prog G 51 [] [.str a0] [] (.bool r) := by
  refine bO tok hP Tryz.func51 rfl (by kernel_rfl) [.tmp 2] rfl (by kernel_rfl) (Nat.le_of_ble_eq_true rfl) (.l .n (.l .n (.l (.l .n (.l (.c .n .n) (.l (.l .n (.c .n .n)) .n))) .n))) rfl ?_
  unfold aY.f at H
  revert H; refine aN (fun t156 A H => (cmk (fJ.ac A) rfl rfl (dM H (fun c H => ?_) (fun c H => ?_))))
  refine aY.l0_lp (a0 := a0) (k := k) H [] (fq rfl rfl fi_ rfl) ?_
  intro k x3 hk H; rcases k with _ | k; exact bC H; rw [aY.l0] at H
  refine cu 80 [(0, .str a0), (3, .int .i64 x3), (12, .bool (decide (x3 < (a0.size : Int))))] [] rfl rfl rfl (bM H (fun c H => ?_) (fun c H => ?_))
  refine nd_ H (fun c H => (Nd.mk nf_ (bM H (fun c H => ?_) (fun c H => ?_))))
  refine Br.t ft_ (Br.t ft_ (bM H (fun c H => ?_) (fun c H => ?_)))
  refine Br.t ft_ (Br.t ft_ (Br.t ft_ (Br.t ft_ (Br.t rfl (Br.t rfl (Br.t rfl (cu 264 [(0, .str a0), (3, .int .i64 x3), (36, .bool (!true))] [] rfl rfl rfl (Br.f rfl (⟨(k, wrap64 (x3 + 1)), [], ⟨H, lt_⟩, lt_, (fq rfl rfl fi_ rfl)⟩)))))))))
  refine Br.f ff_ (Br.f ff_ (bM H (fun c H => ?_) (fun c H => ?_)))
  refine Br.t ft_ (Br.f ff_ (Br.t ft_ (Br.f ff_ (bM H (fun c H => ?_) (fun c H => ?_)))))
  refine Br.t ft_ (Br.t ft_ (cu 264 [(0, .str a0), (3, .int .i64 x3), (36, .bool (!true))] [] rfl rfl rfl (Br.f rfl (⟨(k, wrap64 (x3 + 1)), [], ⟨H, lt_⟩, lt_, (fq rfl rfl fi_ rfl)⟩))))
  refine Br.f ff_ (Br.f ff_ (cu 264 [(0, .str a0), (3, .int .i64 x3), (36, .bool (!(decide ((bt a0 x3) = 45))))] [] rfl rfl rfl (iI H (fun c H => ?_) (fun c H => ?_))))
  exact ⟨(k, wrap64 (x3 + 1)), [], ⟨H, lt_⟩, lt_, (fq rfl rfl fi_ rfl)⟩
  cases H
  exact rz rfl
  refine Br.f ff_ (Br.f ff_ (Br.f ff_ (Br.f ff_ (Br.f rfl (Br.f rfl (Br.f rfl (cu 264 [(0, .str a0), (3, .int .i64 x3), (36, .bool (!(decide ((bt a0 x3) = 45))))] [] rfl rfl rfl (iI H (fun c H => ?_) (fun c H => ?_)))))))))
  exact ⟨(k, wrap64 (x3 + 1)), [], ⟨H, lt_⟩, lt_, (fq rfl rfl fi_ rfl)⟩
  cases H
  exact rz rfl
  refine Br.f ff_ (Br.f ff_ (Br.f rfl (Br.f rfl (Br.f rfl (bM H (fun c H => ?_) (fun c H => ?_))))))
  refine Br.t ft_ (Br.f rfl (Br.t ft_ (Br.f rfl (bM H (fun c H => ?_) (fun c H => ?_)))))
  refine Br.t ft_ (Br.t ft_ (cu 264 [(0, .str a0), (3, .int .i64 x3), (36, .bool (!true))] [] rfl rfl rfl (Br.f rfl (⟨(k, wrap64 (x3 + 1)), [], ⟨H, lt_⟩, lt_, (fq rfl rfl fi_ rfl)⟩))))
  refine Br.f ff_ (Br.f ff_ (cu 264 [(0, .str a0), (3, .int .i64 x3), (36, .bool (!(decide ((bt a0 x3) = 45))))] [] rfl rfl rfl (iI H (fun c H => ?_) (fun c H => ?_))))
  exact ⟨(k, wrap64 (x3 + 1)), [], ⟨H, lt_⟩, lt_, (fq rfl rfl fi_ rfl)⟩
  cases H
  exact rz rfl
  refine Br.f ff_ (Br.f rfl (Br.f ff_ (Br.f rfl (Br.f rfl (Br.f rfl (Br.f rfl (cu 264 [(0, .str a0), (3, .int .i64 x3), (36, .bool (!(decide ((bt a0 x3) = 45))))] [] rfl rfl rfl (iI H (fun c H => ?_) (fun c H => ?_)))))))))
  exact ⟨(k, wrap64 (x3 + 1)), [], ⟨H, lt_⟩, lt_, (fq rfl rfl fi_ rfl)⟩
  cases H
  exact rz rfl
  cases H
  exact rz rfl
  cases H
  exact rz rfl
theorem dH.l0_lp {F : (Exit → St → Prop) → St → Prop} {hv : List Tmp} {Q : Exit → St → Prop} {σ : St} {r : Bool} {k : Nat} {l0 : List ByteArray} {a1 : ByteArray} {x5 : Int} (H : dH.l0 k l0 a1 x5 = some r) (rn : List (Option Nat)) (h1 : cJ σ σ [] [(5, .int .i64 x5)] [] [] rn)
    (h2 : ∀ (k0 : Nat) (x5 : Int), k0 < k + 1 → dH.l0 k0 l0 a1 x5 = some r → dE σ hv [] [(5, .int .i64 x5)] [] [] (F (fun e σ' => match e with | .normal => ∃ (y : Nat × Int) (rn : List (Option Nat)), (dH.l0 y.1 l0 a1 y.2 = some r ∧ y.1 < k + 1) ∧ y.1 < k0 ∧ cJ σ σ' [] [(5, .int .i64 y.2)] [] [] rn | e => Q e σ'))) : Lp F hv Q σ := by
  unfold Lp
  refine ⟨Nat × Int, fun x => dH.l0 x.1 l0 a1 x.2 = some r ∧ x.1 < k + 1, fun x => x.1, [], fun x => [(5, .int .i64 x.2)], fun x => [], fun x => [], ⟨(k, x5), rn, ⟨H, Nat.lt_succ_self _⟩, h1⟩, ?_⟩
  rintro ⟨k, x5⟩ ⟨H, hk⟩
  exact h2 k x5 hk H
theorem dH.ac {k : Nat} {l0 : List ByteArray} {a1 : ByteArray} {r : Bool} (H : dH.f k l0 a1 = some r) : cI Tryz.prog G 52 [] [(aM l0), .str a1] [] (.bool r) := by
  refine bO tok hP Tryz.func52 rfl (by kernel_rfl) [.tmp 4] rfl (by kernel_rfl) (Nat.le_of_ble_eq_true rfl) (.l .n (.l (.l .n (.l .n (.l (.c .n .n) .n))) .n)) rfl ?_
  unfold dH.f at H
  refine dH.l0_lp (l0 := l0) (a1 := a1) (k := k) H [] (fq rfl rfl fi_ rfl) ?_
  intro k x5 hk H; rcases k with _ | k; exact bC H; rw [dH.l0] at H
  refine bM H (fun c H => ?_) (fun c H => ?_)
  refine nd_ H (fun c H => (Nd.mk nf_ (El.mk (aX _ _ nf_ nf_) (cu 96 [(0, (aM l0)), (1, .str a1), (5, .int .i64 x5), (17, .bool (decide ((aV ByteArray.empty l0 x5).toList = a1.toList)))] [] rfl rfl rfl (bM H (fun c H => ?_) (fun c H => ?_))))))
  cases H
  exact rz rfl
  exact ⟨(k, wrap64 (x5 + 1)), [], ⟨H, lt_⟩, lt_, (fq rfl rfl fi_ rfl)⟩
  cases H
  exact rz rfl
theorem dJ.l0_lp {F : (Exit → St → Prop) → St → Prop} {hv : List Tmp} {Q : Exit → St → Prop} {σ : St} {r : (List ByteArray) × (List aC) × (List aB) × (List aA) × Int} {k : Nat} {a0_0 : List ByteArray} {a0_1 : List aC} {a0_2 : List aB} {a0_3 : List aA} {l1 : List ByteArray} {x6 : Int} (H : dJ.l0 k a0_0 a0_1 a0_2 a0_3 l1 x6 = some r) (rn : List (Option Nat)) (h1 : cJ σ σ [] [(6, .int .i64 x6)] [] [] rn)
    (h2 : ∀ (k0 : Nat) (x6 : Int), k0 < k + 1 → dJ.l0 k0 a0_0 a0_1 a0_2 a0_3 l1 x6 = some r → dE σ hv [] [(6, .int .i64 x6)] [] [] (F (fun e σ' => match e with | .normal => ∃ (y : Nat × Int) (rn : List (Option Nat)), (dJ.l0 y.1 a0_0 a0_1 a0_2 a0_3 l1 y.2 = some r ∧ y.1 < k + 1) ∧ y.1 < k0 ∧ cJ σ σ' [] [(6, .int .i64 y.2)] [] [] rn | e => Q e σ'))) : Lp F hv Q σ := by
  unfold Lp
  refine ⟨Nat × Int, fun x => dJ.l0 x.1 a0_0 a0_1 a0_2 a0_3 l1 x.2 = some r ∧ x.1 < k + 1, fun x => x.1, [], fun x => [(6, .int .i64 x.2)], fun x => [], fun x => [], ⟨(k, x6), rn, ⟨H, Nat.lt_succ_self _⟩, h1⟩, ?_⟩
  rintro ⟨k, x6⟩ ⟨H, hk⟩
  exact h2 k x6 hk H
theorem dJ.ac {k : Nat} {a0_0 : List ByteArray} {a0_1 : List aC} {a0_2 : List aB} {a0_3 : List aA} {l1 : List ByteArray} {r : (List ByteArray) × (List aC) × (List aB) × (List aA) × Int} (H : dJ.f k a0_0 a0_1 a0_2 a0_3 l1 = some r) : cI Tryz.prog G 66 [] [.agg [(aM a0_0), (aF a0_1), (aD a0_2), (aE a0_3)], (aM l1)] [] (.tup [.agg [(aM r.1), (aF r.2.1), (aD r.2.2.1), (aE r.2.2.2.1)], .int .i64 r.2.2.2.2]) := by
  refine bO tok hP Tryz.func66 rfl (by kernel_rfl) [.cell 4 28, .tmp 5] rfl (by kernel_rfl) (Nat.le_of_ble_eq_true rfl) (.l .n (.l (.c .n (.l (.c .n .n) .n)) (.l (.c .n .n) (.l .n (.l .n (.l (.l (.c .n .n) .n) (.c .n .n))))))) rfl ?_
  unfold dJ.f at H
  refine iI H (fun c H => ?_) (fun c H => ?_)
  refine Br.f ff_ (Nd.mk (by decide) (nd_ H (fun c H => (El.mk (aX _ _ nf_ nf_) (Br.f ff_ (Br.f ff_ ?_))))))
  revert H; refine aN (fun t191 A H => (cmk (aY.ac A) rfl rfl (Br.f ff_ (Br.f ff_ (cu 104 [(1, (aM l1)), (2, .bp 0 0), (4, .bp 8 0), (16, .bool (!t191))] [(0, .box [(aM a0_0), (aF a0_1), (aD a0_2), (aE a0_3)]), (8, .box [.nil, .nil, .nil, .nil])] rfl rfl rfl (dM H (fun c H => ?_) (fun c H => ?_)))))))
  refine Nd.mk (by decide) (Nd.mk nf_ (El.mk (aX _ _ nf_ nf_) ?_))
  revert H; refine aN (fun t192 A H => (cmk (dH.ac A) rfl rfl (cu 152 [(1, (aM l1)), (2, .bp 0 0), (4, .bp 8 0), (23, .bool t192)] [(0, .box [(aM a0_0), (aF a0_1), (aD a0_2), (aE a0_3)]), (8, .box [.nil, .nil, .nil, .nil])] rfl rfl rfl (jF H (fun c H => ?_) (fun c H => ?_)))))
  cases H
  exact rts rfl
  refine bM H (fun c H => ?_) (fun c H => ?_)
  cases H
  exact rts rfl
  refine dJ.l0_lp (a0_0 := a0_0) (a0_1 := a0_1) (a0_2 := a0_2) (a0_3 := a0_3) (l1 := l1) (k := k) H [] (fq rfl rfl fi_ rfl) ?_
  intro k x6 hk H; rcases k with _ | k; exact bC H; rw [dJ.l0] at H
  refine bM H (fun c H => ?_) (fun c H => ?_)
  refine Br.t ft_ (Br.t ft_ (Br.t ft_ (nd_ H (fun c H => (Nd.mk nf_ (El.mk (aX _ _ nf_ nf_) (Br.t ft_ (Br.t ft_ (Br.t ft_ (Nd.mk (by decide) (Nd.mk nf_ (El.mk (aX _ _ nf_ nf_) (Br.t ft_ (Br.t ft_ (Br.t ft_ (cu 320 [(1, (aM l1)), (2, .bp 0 0), (4, .bp 8 0), (6, .int .i64 x6), (45, .bool (Op.bytesLess (aV ByteArray.empty a0_0 x6).toList (aV ByteArray.empty l1 1).toList))] [(0, .box [(aM a0_0), (aF a0_1), (aD a0_2), (aE a0_3)]), (8, .box [.nil, .nil, .nil, .nil])] rfl rfl rfl (jF H (fun c H => ?_) (fun c H => ?_))))))))))))))))))
  exact ⟨(k, wrap64 (x6 + 1)), [], ⟨H, lt_⟩, lt_, (fq rfl rfl fi_ rfl)⟩
  refine Or.inl (Nd.mk nf_ (nd_ H (fun c H => (nd_ H (fun c H => (Nd.mk (by decide) (Nd.mk nf_ (El.mk (aX _ _ nf_ nf_) (Or.inl (nd_ H (fun c H => (Nd.mk nf_ (Nd.mk nf_ (nd_ H (fun c H => (jW 464 [(2, .bp 0 0), (4, .bp 8 0)] [(0, .box [.own 440 (0 + (x6).toNat + 1 + (a0_0.length - (x6).toNat)), (aF a0_1), (aD a0_2), (aE a0_3)]), (8, .box [.nil, .nil, .nil, .nil]), (440, .arr 9 1 ((((([] : List ByteArray) ++ (a0_0.take (x6).toNat)) ++ ([aV ByteArray.empty l1 1] : List ByteArray)) ++ (a0_0.drop (x6).toNat)).map aW))] rfl ⟨.inl rfl, ⟨.inl rfl, trivial⟩⟩ ⟨rfl, ⟨rfl, ⟨fm_, trivial⟩⟩⟩ ?_))))))))))))))))
  cases H
  exact eY [440] (cF (fM (bH (iU rfl lm_ lm_ rfl) (bH (fG rfl) (bH (fG rfl) (bH (fG rfl) (fN)))))) (cF (fX rfl) (eJ)))
  refine Br.f ff_ (Br.f ff_ (Br.f ff_ (Br.f ff_ (Br.f ff_ (Br.f ff_ (Br.f ff_ (Br.f ff_ (Br.f ff_ (cu 320 [(1, (aM l1)), (2, .bp 0 0), (4, .bp 8 0), (6, .int .i64 x6), (45, .bool false)] [(0, .box [(aM a0_0), (aF a0_1), (aD a0_2), (aE a0_3)]), (8, .box [.nil, .nil, .nil, .nil])] rfl rfl rfl (Br.f rfl (Or.inl (nd_ H (fun c H => (nd_ H (fun c H => (nd_ H (fun c H => (Nd.mk (by decide) (Nd.mk nf_ (El.mk (aX _ _ nf_ nf_) (Or.inl (nd_ H (fun c H => (Nd.mk nf_ (Nd.mk nf_ (nd_ H (fun c H => (jW 464 [(2, .bp 0 0), (4, .bp 8 0)] [(0, .box [.own 440 (0 + (x6).toNat + 1 + (a0_0.length - (x6).toNat)), (aF a0_1), (aD a0_2), (aE a0_3)]), (8, .box [.nil, .nil, .nil, .nil]), (440, .arr 9 1 ((((([] : List ByteArray) ++ (a0_0.take (x6).toNat)) ++ ([aV ByteArray.empty l1 1] : List ByteArray)) ++ (a0_0.drop (x6).toNat)).map aW))] rfl ⟨.inl rfl, ⟨.inl rfl, trivial⟩⟩ ⟨rfl, ⟨rfl, ⟨fm_, trivial⟩⟩⟩ ?_))))))))))))))))))))))))))))
  cases H
  exact eY [440] (cF (fM (bH (iU rfl lm_ lm_ rfl) (bH (fG rfl) (bH (fG rfl) (bH (fG rfl) (fN)))))) (cF (fX rfl) (eJ)))
  refine cu 128 [(4, .bp 8 0), (5, .int .i64 3)] [(8, .box [(aM a0_0), (aF a0_1), (aD a0_2), (aE a0_3)])] rfl rfl rfl ?_
  cases H
  exact rts rfl
  refine Br.t ft_ (Br.t ft_ (Br.t ft_ (Br.t ft_ (Br.t ft_ (cu 104 [(1, (aM l1)), (2, .bp 0 0), (4, .bp 8 0), (16, .bool true)] [(0, .box [(aM a0_0), (aF a0_1), (aD a0_2), (aE a0_3)]), (8, .box [.nil, .nil, .nil, .nil])] rfl rfl rfl (Br.t rfl (cu 128 [(4, .bp 8 0), (5, .int .i64 3)] [(8, .box [(aM a0_0), (aF a0_1), (aD a0_2), (aE a0_3)])] rfl rfl rfl ?_)))))))
  cases H
  exact rts rfl
theorem cN.l0_lp {F : (Exit → St → Prop) → St → Prop} {hv : List Tmp} {Q : Exit → St → Prop} {σ : St} {r : Bool} {k : Nat} {a0_1 : List aC} {a1 : ByteArray} {a2 : ByteArray} {x7 : Int} (H : cN.l0 k a0_1 a1 a2 x7 = some r) (rn : List (Option Nat)) (h1 : cJ σ σ [] [(7, .int .i64 x7)] [] [] rn)
    (h2 : ∀ (k0 : Nat) (x7 : Int), k0 < k + 1 → cN.l0 k0 a0_1 a1 a2 x7 = some r → dE σ hv [] [(7, .int .i64 x7)] [] [] (F (fun e σ' => match e with | .normal => ∃ (y : Nat × Int) (rn : List (Option Nat)), (cN.l0 y.1 a0_1 a1 a2 y.2 = some r ∧ y.1 < k + 1) ∧ y.1 < k0 ∧ cJ σ σ' [] [(7, .int .i64 y.2)] [] [] rn | e => Q e σ'))) : Lp F hv Q σ := by
  unfold Lp
  refine ⟨Nat × Int, fun x => cN.l0 x.1 a0_1 a1 a2 x.2 = some r ∧ x.1 < k + 1, fun x => x.1, [], fun x => [(7, .int .i64 x.2)], fun x => [], fun x => [], ⟨(k, x7), rn, ⟨H, Nat.lt_succ_self _⟩, h1⟩, ?_⟩
  rintro ⟨k, x7⟩ ⟨H, hk⟩
  exact h2 k x7 hk H
theorem cN.ac {k : Nat} {a0_0 : List ByteArray} {a0_1 : List aC} {a0_2 : List aB} {a0_3 : List aA} {a1 : ByteArray} {a2 : ByteArray} {r : Bool} (H : cN.f k a0_0 a0_1 a0_2 a0_3 a1 a2 = some r) : cI Tryz.prog G 37 [] [.agg [(aM a0_0), (aF a0_1), (aD a0_2), (aE a0_3)], .str a1, .str a2] [] (.bool r) := by
  refine bO tok hP Tryz.func37 rfl (by kernel_rfl) [.tmp 6] rfl (by kernel_rfl) (Nat.le_of_ble_eq_true rfl) (.l .n (.l (.l .n (.l .n (.l (.c .n (.l (.c .n .n) .n)) .n))) .n)) rfl ?_
  unfold cN.f at H
  refine cN.l0_lp (a0_1 := a0_1) (a1 := a1) (a2 := a2) (k := k) H [] (fq rfl rfl fi_ rfl) ?_
  intro k x7 hk H; rcases k with _ | k; exact bC H; rw [cN.l0] at H
  refine bM H (fun c H => ?_) (fun c H => ?_)
  refine nd_ H (fun c H => (Nd.mk nf_ (El.mk (bP _ _ nf_ nf_) (bM H (fun c H => ?_) (fun c H => ?_)))))
  refine Br.t ft_ (Br.t ft_ (Br.t ft_ (Nd.mk nf_ (Nd.mk nf_ (El.mk (bP _ _ nf_ nf_) (Br.t ft_ (Br.t ft_ (Br.t ft_ (Br.t ft_ (Br.t ft_ (bM H (fun c H => ?_) (fun c H => ?_))))))))))))
  refine Br.t ft_ (Br.t ft_ (Br.t ft_ (Br.t ft_ (Br.t ft_ (Br.t ft_ (Br.t ft_ (Br.t ft_ (Br.t ft_ (Br.t ft_ (cu 368 [(1, .str a1), (2, .str a2), (3, .bp 0 0), (7, .int .i64 x7), (52, .bool true)] [(0, .box [(aM a0_0), (aF a0_1), (aD a0_2), (aE a0_3)])] rfl rfl rfl (Br.t rfl (cu 376 [(6, .bool true)] [] rfl rfl rfl ?_))))))))))))
  cases H
  exact rz rfl
  refine Br.f ff_ (Br.f ff_ (Br.f ff_ (Nd.mk nf_ (Nd.mk nf_ (El.mk (bP _ _ nf_ nf_) (Br.f ff_ (Br.f ff_ (Br.f ff_ (Br.f ff_ (Br.f ff_ (bM H (fun c H => ?_) (fun c H => ?_))))))))))))
  refine Br.t ft_ (Br.t ft_ (Br.t ft_ (Nd.mk nf_ (Nd.mk nf_ (El.mk (bP _ _ nf_ nf_) (Br.t ft_ (Br.t ft_ (Br.t ft_ (Br.t ft_ (Br.f ff_ (Br.t ft_ (Br.f ff_ (cu 368 [(1, .str a1), (2, .str a2), (3, .bp 0 0), (7, .int .i64 x7), (52, .bool (decide (((aO a0_1 x7).f1).toList = a1.toList)))] [(0, .box [(aM a0_0), (aF a0_1), (aD a0_2), (aE a0_3)])] rfl rfl rfl (bM H (fun c H => ?_) (fun c H => ?_)))))))))))))))
  refine cu 376 [(6, .bool true)] [] rfl rfl rfl ?_
  cases H
  exact rz rfl
  exact ⟨(k, wrap64 (x7 + 1)), [], ⟨H, lt_⟩, lt_, (fq rfl rfl fi_ rfl)⟩
  refine Br.f ff_ (Br.f ff_ (Br.f ff_ (Br.f ff_ (Br.f ff_ (Br.f ff_ (Br.f ff_ (Br.f ff_ (Br.f ff_ (Br.f ff_ (cu 368 [(1, .str a1), (2, .str a2), (3, .bp 0 0), (7, .int .i64 x7), (52, .bool false)] [(0, .box [(aM a0_0), (aF a0_1), (aD a0_2), (aE a0_3)])] rfl rfl rfl (Br.f rfl (⟨(k, wrap64 (x7 + 1)), [], ⟨H, lt_⟩, lt_, (fq rfl rfl fi_ rfl)⟩))))))))))))
  refine Br.f ff_ (Br.f ff_ (Br.f ff_ (Br.f ff_ (Br.f ff_ (Br.f ff_ (Br.f ff_ (Br.f ff_ (Br.f rfl (Br.f rfl (Br.f rfl (Br.f rfl (Nd.mk nf_ (Nd.mk nf_ (El.mk (bP _ _ nf_ nf_) (Br.f rfl (Br.f rfl (Br.f rfl (Br.f rfl (Br.f rfl (bM H (fun c H => ?_) (fun c H => ?_)))))))))))))))))))))
  refine Br.t ft_ (Br.t ft_ (Br.t ft_ (Nd.mk nf_ (Nd.mk nf_ (El.mk (bP _ _ nf_ nf_) (Br.t ft_ (Br.t ft_ (Br.t ft_ (Br.t ft_ (Br.f rfl (Br.t ft_ (Br.f rfl (cu 368 [(1, .str a1), (2, .str a2), (3, .bp 0 0), (7, .int .i64 x7), (52, .bool (decide (((aO a0_1 x7).f1).toList = a1.toList)))] [(0, .box [(aM a0_0), (aF a0_1), (aD a0_2), (aE a0_3)])] rfl rfl rfl (bM H (fun c H => ?_) (fun c H => ?_)))))))))))))))
  refine cu 376 [(6, .bool true)] [] rfl rfl rfl ?_
  cases H
  exact rz rfl
  exact ⟨(k, wrap64 (x7 + 1)), [], ⟨H, lt_⟩, lt_, (fq rfl rfl fi_ rfl)⟩
  refine Br.f ff_ (Br.f ff_ (Br.f ff_ (Br.f ff_ (Br.f ff_ (Br.f ff_ (Br.f ff_ (Br.f rfl (Br.f ff_ (Br.f rfl (cu 368 [(1, .str a1), (2, .str a2), (3, .bp 0 0), (7, .int .i64 x7), (52, .bool false)] [(0, .box [(aM a0_0), (aF a0_1), (aD a0_2), (aE a0_3)])] rfl rfl rfl (Br.f rfl (⟨(k, wrap64 (x7 + 1)), [], ⟨H, lt_⟩, lt_, (fq rfl rfl fi_ rfl)⟩))))))))))))
  cases H
  exact rz rfl
theorem eR.ac {a0_0 : ByteArray} {a0_1 : ByteArray} {a1_0 : ByteArray} {a1_1 : ByteArray} {r : Bool} (H : eR.f a0_0 a0_1 a1_0 a1_1 = some r) : cI Tryz.prog G 53 [] [.agg [.str a0_0, .str a0_1], .agg [.str a1_0, .str a1_1]] [] (.bool r) := by
  refine bO tok hP Tryz.func53 rfl (by kernel_rfl) [.tmp 4] rfl (by kernel_rfl) (Nat.le_of_ble_eq_true rfl) (.l .n (.c .n .n)) rfl ?_
  unfold eR.f at H
  refine jF H (fun c H => ?_) (fun c H => ?_)
  refine Br.t ft_ (Br.t ft_ (Br.t ft_ (Br.t ft_ (Br.t ft_ (Br.t ft_ (Br.t ft_ (cu 184 [(4, .bool true)] [] rfl rfl rfl ?_)))))))
  cases H
  exact rz rfl
  refine Br.f ff_ (Br.f ff_ (Br.f ff_ (Br.f ff_ (Br.f ff_ (bM H (fun c H => ?_) (fun c H => ?_))))))
  refine Br.t ft_ (Br.t ft_ (Br.t ft_ (Br.t ft_ (Br.f ff_ (Br.t ft_ (Br.f ff_ (cu 184 [(4, .bool (Op.bytesLess a0_1.toList a1_1.toList))] [] rfl rfl rfl ?_)))))))
  cases H
  exact rz rfl
  refine Br.f ff_ (Br.f ff_ (Br.f ff_ (Br.f ff_ (Br.f ff_ (Br.f ff_ (Br.f ff_ (cu 184 [(4, .bool false)] [] rfl rfl rfl ?_)))))))
  cases H
  exact rz rfl
theorem cP.l0_lp {F : (Exit → St → Prop) → St → Prop} {hv : List Tmp} {Q : Exit → St → Prop} {σ : St} {r : (List ByteArray) × (List aC) × (List aB) × (List aA) × Int} {k : Nat} {a0_0 : List ByteArray} {a0_1 : List aC} {a0_2 : List aB} {a0_3 : List aA} {l1 : List ByteArray} {x7 : Int} (H : cP.l0 k a0_0 a0_1 a0_2 a0_3 l1 x7 = some r) (rn : List (Option Nat)) (h1 : cJ σ σ [] [(7, .int .i64 x7)] [] [] rn)
    (h2 : ∀ (k0 : Nat) (x7 : Int), k0 < k + 1 → cP.l0 k0 a0_0 a0_1 a0_2 a0_3 l1 x7 = some r → dE σ hv [] [(7, .int .i64 x7)] [] [] (F (fun e σ' => match e with | .normal => ∃ (y : Nat × Int) (rn : List (Option Nat)), (cP.l0 y.1 a0_0 a0_1 a0_2 a0_3 l1 y.2 = some r ∧ y.1 < k + 1) ∧ y.1 < k0 ∧ cJ σ σ' [] [(7, .int .i64 y.2)] [] [] rn | e => Q e σ'))) : Lp F hv Q σ := by
  unfold Lp
  refine ⟨Nat × Int, fun x => cP.l0 x.1 a0_0 a0_1 a0_2 a0_3 l1 x.2 = some r ∧ x.1 < k + 1, fun x => x.1, [], fun x => [(7, .int .i64 x.2)], fun x => [], fun x => [], ⟨(k, x7), rn, ⟨H, Nat.lt_succ_self _⟩, h1⟩, ?_⟩
  rintro ⟨k, x7⟩ ⟨H, hk⟩
  exact h2 k x7 hk H
theorem cP.l1_lp {F : (Exit → St → Prop) → St → Prop} {hv : List Tmp} {Q : Exit → St → Prop} {σ : St} {r : (List ByteArray) × (List aC) × (List aB) × (List aA) × Int} {k : Nat} {a0_0 : List ByteArray} {a0_1 : List aC} {a0_2 : List aB} {a0_3 : List aA} {l1 : List ByteArray} {x7_1 : Int} (H : cP.l1 k a0_0 a0_1 a0_2 a0_3 l1 x7_1 = some r) (rn : List (Option Nat)) (h1 : cJ σ σ [] [(7, .int .i64 x7_1)] [] [] rn)
    (h2 : ∀ (k0 : Nat) (x7_1 : Int), k0 < k + 1 → cP.l1 k0 a0_0 a0_1 a0_2 a0_3 l1 x7_1 = some r → dE σ hv [] [(7, .int .i64 x7_1)] [] [] (F (fun e σ' => match e with | .normal => ∃ (y : Nat × Int) (rn : List (Option Nat)), (cP.l1 y.1 a0_0 a0_1 a0_2 a0_3 l1 y.2 = some r ∧ y.1 < k + 1) ∧ y.1 < k0 ∧ cJ σ σ' [] [(7, .int .i64 y.2)] [] [] rn | e => Q e σ'))) : Lp F hv Q σ := by
  unfold Lp
  refine ⟨Nat × Int, fun x => cP.l1 x.1 a0_0 a0_1 a0_2 a0_3 l1 x.2 = some r ∧ x.1 < k + 1, fun x => x.1, [], fun x => [(7, .int .i64 x.2)], fun x => [], fun x => [], ⟨(k, x7_1), rn, ⟨H, Nat.lt_succ_self _⟩, h1⟩, ?_⟩
  rintro ⟨k, x7_1⟩ ⟨H, hk⟩
  exact h2 k x7_1 hk H
theorem cP.ac {k : Nat} {a0_0 : List ByteArray} {a0_1 : List aC} {a0_2 : List aB} {a0_3 : List aA} {l1 : List ByteArray} {r : (List ByteArray) × (List aC) × (List aB) × (List aA) × Int} (H : cP.f k a0_0 a0_1 a0_2 a0_3 l1 = some r) : cI Tryz.prog G 67 [] [.agg [(aM a0_0), (aF a0_1), (aD a0_2), (aE a0_3)], (aM l1)] [] (.tup [.agg [(aM r.1), (aF r.2.1), (aD r.2.2.1), (aE r.2.2.2.1)], .int .i64 r.2.2.2.2]) := by
  refine bO tok hP Tryz.func67 rfl (by kernel_rfl) [.cell 4 28, .tmp 5] rfl (by kernel_rfl) (Nat.le_of_ble_eq_true rfl) (.l .n (.l (.c .n (.l (.c .n .n) .n)) (.l (.c .n .n) (.l (.c .n (.l (.c .n .n) .n)) (.l (.c .n .n) (.l .n (.l (.c .n .n) (.l .n (.l (.l (.c .n .n) .n) (.c .n .n)))))))))) rfl ?_
  unfold cP.f at H
  refine iI H (fun c H => ?_) (fun c H => ?_)
  refine Br.f ff_ (Nd.mk (by decide) (nd_ H (fun c H => (El.mk (aX _ _ nf_ nf_) (Br.f ff_ (Br.f ff_ ?_))))))
  revert H; refine aN (fun t316 A H => (cmk (aY.ac A) rfl rfl (Br.f ff_ (Br.f ff_ (dM H (fun c H => ?_) (fun c H => ?_))))))
  refine Br.f ff_ (Nd.mk (by decide) (nd_ H (fun c H => (El.mk (aX _ _ nf_ nf_) (Br.f ff_ (Br.f ff_ ?_))))))
  revert H; refine aN (fun t317 A H => (cmk (aY.ac A) rfl rfl (Br.f ff_ (Br.f ff_ (dM H (fun c H => ?_) (fun c H => ?_))))))
  refine Br.f ff_ (Nd.mk (by decide) (Nd.mk nf_ (El.mk (aX _ _ nf_ nf_) (Br.f ff_ (Br.f ff_ (Br.f ff_ (Nd.mk (by decide) (Nd.mk nf_ (El.mk (aX _ _ nf_ nf_) (Br.f ff_ (Br.f ff_ (Br.f ff_ (cu 232 [(1, (aM l1)), (2, .bp 0 0), (4, .bp 8 0), (33, .bool (decide ((aV ByteArray.empty l1 1).toList = (aV ByteArray.empty l1 2).toList)))] [(0, .box [(aM a0_0), (aF a0_1), (aD a0_2), (aE a0_3)]), (8, .box [.nil, .nil, .nil, .nil])] rfl rfl rfl (bM H (fun c H => ?_) (fun c H => ?_)))))))))))))))
  refine cu 256 [(4, .bp 8 0), (5, .int .i64 3)] [(8, .box [(aM a0_0), (aF a0_1), (aD a0_2), (aE a0_3)])] rfl rfl rfl ?_
  cases H
  exact rts rfl
  refine Nd.mk (by decide) (Nd.mk nf_ (El.mk (aX _ _ nf_ nf_) (Nd.mk (by decide) (Nd.mk nf_ (El.mk (aX _ _ nf_ nf_) ?_)))))
  revert H; refine aN (fun t318 A H => (cmk (cN.ac A) rfl rfl (cu 296 [(1, (aM l1)), (2, .bp 0 0), (4, .bp 8 0), (42, .bool t318)] [(0, .box [(aM a0_0), (aF a0_1), (aD a0_2), (aE a0_3)]), (8, .box [.nil, .nil, .nil, .nil])] rfl rfl rfl (jF H (fun c H => ?_) (fun c H => ?_)))))
  cases H
  exact rts rfl
  refine Nd.mk (by decide) (Nd.mk nf_ (El.mk (aX _ _ nf_ nf_) ?_))
  revert H; refine aN (fun t319 A H => (cmk (dH.ac A) rfl rfl (dM H (fun c H => ?_) (fun c H => ?_))))
  refine Br.f ff_ (Br.f ff_ (Br.f ff_ (Nd.mk (by decide) (Nd.mk nf_ (El.mk (aX _ _ nf_ nf_) (Br.f ff_ (Br.f ff_ ?_)))))))
  revert H; refine aN (fun t320 A H => (cmk (dH.ac A) rfl rfl (Br.f ff_ (Br.f ff_ (cu 424 [(1, (aM l1)), (2, .bp 0 0), (4, .bp 8 0), (59, .bool (!t320))] [(0, .box [(aM a0_0), (aF a0_1), (aD a0_2), (aE a0_3)]), (8, .box [.nil, .nil, .nil, .nil])] rfl rfl rfl (dM H (fun c H => ?_) (fun c H => ?_)))))))
  refine cu 456 [(1, (aM l1)), (2, .bp 0 0), (4, .bp 8 0), (64, .bool (decide ((a0_1.length : Int) ≥ 12)))] [(0, .box [(aM a0_0), (aF a0_1), (aD a0_2), (aE a0_3)]), (8, .box [.nil, .nil, .nil, .nil])] rfl rfl rfl (bM H (fun c H => ?_) (fun c H => ?_))
  cases H
  exact rts rfl
  refine Nd.mk (by decide) (Nd.mk nf_ (El.mk (aX _ _ nf_ nf_) (Nd.mk (by decide) (Nd.mk nf_ (El.mk (aX _ _ nf_ nf_) (cu 568 [(1, (aM l1)), (2, .bp 0 0), (4, .bp 8 0), (6, .bp 512 0), (77, .bool (Op.bytesLess (aV ByteArray.empty l1 2).toList (aV ByteArray.empty l1 1).toList))] [(0, .box [(aM a0_0), (aF a0_1), (aD a0_2), (aE a0_3)]), (8, .box [.nil, .nil, .nil, .nil]), (512, .box [.str (aV ByteArray.empty l1 1), .str (aV ByteArray.empty l1 2)])] rfl rfl rfl (jF H (fun c H => ?_) (fun c H => ?_))))))))
  refine Nd.mk (by decide) (Nd.mk nf_ (El.mk (aX _ _ nf_ nf_) (Nd.mk (by decide) (Nd.mk nf_ (El.mk (aX _ _ nf_ nf_) (cP.l0_lp (a0_0 := a0_0) (a0_1 := a0_1) (a0_2 := a0_2) (a0_3 := a0_3) (l1 := l1) (k := k) H [] (fq rfl rfl fi_ rfl) ?_))))))
  intro k x7 hk H; rcases k with _ | k; exact bC H; rw [cP.l0] at H
  refine bM H (fun c H => ?_) (fun c H => ?_)
  refine Br.t ft_ (Br.t ft_ (Br.t ft_ (nd_ H (fun c H => (Nd.mk nf_ (El.mk (bP _ _ nf_ nf_) (Br.t ft_ (Br.t ft_ (Br.t ft_ ?_)))))))))
  revert H; refine aN (fun t321 A H => (cmk (eR.ac A) rfl rfl (Br.t ft_ (cu 752 [(2, .bp 0 0), (4, .bp 8 0), (6, .bp 512 0), (7, .int .i64 x7), (98, .bool t321)] [(0, .box [(aM a0_0), (aF a0_1), (aD a0_2), (aE a0_3)]), (8, .box [.nil, .nil, .nil, .nil]), (512, .box [.str (aV ByteArray.empty l1 2), .str (aV ByteArray.empty l1 1)])] rfl rfl rfl (jF H (fun c H => ?_) (fun c H => ?_))))))
  exact ⟨(k, wrap64 (x7 + 1)), [], ⟨H, lt_⟩, lt_, (fq rfl rfl fi_ rfl)⟩
  refine Or.inl (Nd.mk nf_ (nd_ H (fun c H => (nd_ H (fun c H => (Or.inl (nd_ H (fun c H => (Nd.mk nf_ (Nd.mk nf_ (nd_ H (fun c H => (jW 880 [(2, .bp 0 0), (4, .bp 8 0)] [(0, .box [(aM a0_0), .own 856 (0 + (x7).toNat + 1 + (a0_1.length - (x7).toNat)), (aD a0_2), (aE a0_3)]), (8, .box [.nil, .nil, .nil, .nil]), (856, .arr 47 2 ((((([] : List aC) ++ (a0_1.take (x7).toNat)) ++ ([(⟨aV ByteArray.empty l1 2, aV ByteArray.empty l1 1⟩ : aC)] : List aC)) ++ (a0_1.drop (x7).toNat)).map aJ))] rfl ⟨.inl rfl, ⟨.inl rfl, trivial⟩⟩ ⟨rfl, ⟨rfl, ⟨fm_, trivial⟩⟩⟩ ?_)))))))))))))
  cases H
  exact eY [856] (cF (fM (bH (fG rfl) (bH (iU rfl lm_ lm_ rfl) (bH (fG rfl) (bH (fG rfl) (fN)))))) (cF (fX rfl) (eJ)))
  refine Br.f ff_ (Br.f ff_ (Br.f ff_ (Br.f ff_ (Br.f ff_ (Br.f ff_ (Br.f ff_ (cu 752 [(2, .bp 0 0), (4, .bp 8 0), (6, .bp 512 0), (7, .int .i64 x7), (98, .bool false)] [(0, .box [(aM a0_0), (aF a0_1), (aD a0_2), (aE a0_3)]), (8, .box [.nil, .nil, .nil, .nil]), (512, .box [.str (aV ByteArray.empty l1 2), .str (aV ByteArray.empty l1 1)])] rfl rfl rfl (Br.f rfl (Or.inl (nd_ H (fun c H => (nd_ H (fun c H => (nd_ H (fun c H => (Or.inl (nd_ H (fun c H => (Nd.mk nf_ (Nd.mk nf_ (nd_ H (fun c H => (jW 880 [(2, .bp 0 0), (4, .bp 8 0)] [(0, .box [(aM a0_0), .own 856 (0 + (x7).toNat + 1 + (a0_1.length - (x7).toNat)), (aD a0_2), (aE a0_3)]), (8, .box [.nil, .nil, .nil, .nil]), (856, .arr 47 2 ((((([] : List aC) ++ (a0_1.take (x7).toNat)) ++ ([(⟨aV ByteArray.empty l1 2, aV ByteArray.empty l1 1⟩ : aC)] : List aC)) ++ (a0_1.drop (x7).toNat)).map aJ))] rfl ⟨.inl rfl, ⟨.inl rfl, trivial⟩⟩ ⟨rfl, ⟨rfl, ⟨fm_, trivial⟩⟩⟩ ?_)))))))))))))))))))))))
  cases H
  exact eY [856] (cF (fM (bH (fG rfl) (bH (iU rfl lm_ lm_ rfl) (bH (fG rfl) (bH (fG rfl) (fN)))))) (cF (fX rfl) (eJ)))
  refine cP.l1_lp (a0_0 := a0_0) (a0_1 := a0_1) (a0_2 := a0_2) (a0_3 := a0_3) (l1 := l1) (k := k) H [] (fq rfl rfl fi_ rfl) ?_
  intro k x7_1 hk H; rcases k with _ | k; exact bC H; rw [cP.l1] at H
  refine bM H (fun c H => ?_) (fun c H => ?_)
  refine Br.t ft_ (Br.t ft_ (Br.t ft_ (nd_ H (fun c H => (Nd.mk nf_ (El.mk (bP _ _ nf_ nf_) (Br.t ft_ (Br.t ft_ (Br.t ft_ ?_)))))))))
  revert H; refine aN (fun t322 A H => (cmk (eR.ac A) rfl rfl (Br.t ft_ (cu 688 [(2, .bp 0 0), (4, .bp 8 0), (6, .bp 512 0), (7, .int .i64 x7_1), (98, .bool t322)] [(0, .box [(aM a0_0), (aF a0_1), (aD a0_2), (aE a0_3)]), (8, .box [.nil, .nil, .nil, .nil]), (512, .box [.str (aV ByteArray.empty l1 1), .str (aV ByteArray.empty l1 2)])] rfl rfl rfl (jF H (fun c H => ?_) (fun c H => ?_))))))
  exact ⟨(k, wrap64 (x7_1 + 1)), [], ⟨H, lt_⟩, lt_, (fq rfl rfl fi_ rfl)⟩
  refine Or.inl (Nd.mk nf_ (nd_ H (fun c H => (nd_ H (fun c H => (Or.inl (nd_ H (fun c H => (Nd.mk nf_ (Nd.mk nf_ (nd_ H (fun c H => (jW 816 [(2, .bp 0 0), (4, .bp 8 0)] [(0, .box [(aM a0_0), .own 792 (0 + (x7_1).toNat + 1 + (a0_1.length - (x7_1).toNat)), (aD a0_2), (aE a0_3)]), (8, .box [.nil, .nil, .nil, .nil]), (792, .arr 47 2 ((((([] : List aC) ++ (a0_1.take (x7_1).toNat)) ++ ([(⟨aV ByteArray.empty l1 1, aV ByteArray.empty l1 2⟩ : aC)] : List aC)) ++ (a0_1.drop (x7_1).toNat)).map aJ))] rfl ⟨.inl rfl, ⟨.inl rfl, trivial⟩⟩ ⟨rfl, ⟨rfl, ⟨fm_, trivial⟩⟩⟩ ?_)))))))))))))
  cases H
  exact eY [792] (cF (fM (bH (fG rfl) (bH (iU rfl lm_ lm_ rfl) (bH (fG rfl) (bH (fG rfl) (fN)))))) (cF (fX rfl) (eJ)))
  refine Br.f ff_ (Br.f ff_ (Br.f ff_ (Br.f ff_ (Br.f ff_ (Br.f ff_ (Br.f ff_ (cu 688 [(2, .bp 0 0), (4, .bp 8 0), (6, .bp 512 0), (7, .int .i64 x7_1), (98, .bool false)] [(0, .box [(aM a0_0), (aF a0_1), (aD a0_2), (aE a0_3)]), (8, .box [.nil, .nil, .nil, .nil]), (512, .box [.str (aV ByteArray.empty l1 1), .str (aV ByteArray.empty l1 2)])] rfl rfl rfl (Br.f rfl (Or.inl (nd_ H (fun c H => (nd_ H (fun c H => (nd_ H (fun c H => (Or.inl (nd_ H (fun c H => (Nd.mk nf_ (Nd.mk nf_ (nd_ H (fun c H => (jW 816 [(2, .bp 0 0), (4, .bp 8 0)] [(0, .box [(aM a0_0), .own 792 (0 + (x7_1).toNat + 1 + (a0_1.length - (x7_1).toNat)), (aD a0_2), (aE a0_3)]), (8, .box [.nil, .nil, .nil, .nil]), (792, .arr 47 2 ((((([] : List aC) ++ (a0_1.take (x7_1).toNat)) ++ ([(⟨aV ByteArray.empty l1 1, aV ByteArray.empty l1 2⟩ : aC)] : List aC)) ++ (a0_1.drop (x7_1).toNat)).map aJ))] rfl ⟨.inl rfl, ⟨.inl rfl, trivial⟩⟩ ⟨rfl, ⟨rfl, ⟨fm_, trivial⟩⟩⟩ ?_)))))))))))))))))))))))
  cases H
  exact eY [792] (cF (fM (bH (fG rfl) (bH (iU rfl lm_ lm_ rfl) (bH (fG rfl) (bH (fG rfl) (fN)))))) (cF (fX rfl) (eJ)))
  refine cu 448 [(4, .bp 8 0), (5, .int .i64 5)] [(8, .box [(aM a0_0), (aF a0_1), (aD a0_2), (aE a0_3)])] rfl rfl rfl ?_
  cases H
  exact rts rfl
  refine Br.t ft_ (Br.t ft_ (Br.t ft_ (Br.t ft_ (Br.t ft_ (Br.t ft_ (Br.t ft_ (cu 424 [(1, (aM l1)), (2, .bp 0 0), (4, .bp 8 0), (59, .bool true)] [(0, .box [(aM a0_0), (aF a0_1), (aD a0_2), (aE a0_3)]), (8, .box [.nil, .nil, .nil, .nil])] rfl rfl rfl (Br.t rfl (cu 448 [(4, .bp 8 0), (5, .int .i64 5)] [(8, .box [(aM a0_0), (aF a0_1), (aD a0_2), (aE a0_3)])] rfl rfl rfl ?_)))))))))
  cases H
  exact rts rfl
  refine Br.t ft_ (Br.t ft_ (Br.t ft_ (Br.t ft_ (Br.t ft_ (Br.t ft_ (Br.t ft_ (cu 232 [(1, (aM l1)), (2, .bp 0 0), (4, .bp 8 0), (33, .bool true)] [(0, .box [(aM a0_0), (aF a0_1), (aD a0_2), (aE a0_3)]), (8, .box [.nil, .nil, .nil, .nil])] rfl rfl rfl (Br.t rfl (cu 256 [(4, .bp 8 0), (5, .int .i64 3)] [(8, .box [(aM a0_0), (aF a0_1), (aD a0_2), (aE a0_3)])] rfl rfl rfl ?_)))))))))
  cases H
  exact rts rfl
  refine Br.t ft_ (Br.t ft_ (Br.t ft_ (Br.t ft_ (Br.t ft_ (Br.t rfl (Br.t rfl (Br.t rfl (Br.t rfl (Br.t rfl (Br.t rfl (Br.t rfl (Br.t rfl (cu 232 [(1, (aM l1)), (2, .bp 0 0), (4, .bp 8 0), (33, .bool true)] [(0, .box [(aM a0_0), (aF a0_1), (aD a0_2), (aE a0_3)]), (8, .box [.nil, .nil, .nil, .nil])] rfl rfl rfl (Br.t rfl (cu 256 [(4, .bp 8 0), (5, .int .i64 3)] [(8, .box [(aM a0_0), (aF a0_1), (aD a0_2), (aE a0_3)])] rfl rfl rfl ?_)))))))))))))))
  cases H
  exact rts rfl
  refine Br.t ft_ (Br.t ft_ (Br.t ft_ (Br.t ft_ (Br.t ft_ (Br.t rfl (Br.t rfl (Br.t rfl (Br.t rfl (Br.t rfl (Br.t rfl (Br.t rfl (Br.t rfl (Br.t rfl (Br.t rfl (Br.t rfl (Br.t rfl (Br.t rfl (Br.t rfl (cu 232 [(1, (aM l1)), (2, .bp 0 0), (4, .bp 8 0), (33, .bool true)] [(0, .box [(aM a0_0), (aF a0_1), (aD a0_2), (aE a0_3)]), (8, .box [.nil, .nil, .nil, .nil])] rfl rfl rfl (Br.t rfl (cu 256 [(4, .bp 8 0), (5, .int .i64 3)] [(8, .box [(aM a0_0), (aF a0_1), (aD a0_2), (aE a0_3)])] rfl rfl rfl ?_)))))))))))))))))))))
  cases H
  exact rts rfl
theorem bN.l0_lp {F : (Exit → St → Prop) → St → Prop} {hv : List Tmp} {Q : Exit → St → Prop} {σ : St} {r : Int} {k : Nat} {a0 : ByteArray} {x3 : Int} {x4 : Int} (H : bN.l0 k a0 x3 x4 = some r) (rn : List (Option Nat)) (h1 : cJ σ σ [] [(3, .int .i64 x3), (4, .int .i64 x4)] [] [] rn)
    (h2 : ∀ (k0 : Nat) (x3 : Int) (x4 : Int), k0 < k + 1 → bN.l0 k0 a0 x3 x4 = some r → dE σ hv [] [(3, .int .i64 x3), (4, .int .i64 x4)] [] [] (F (fun e σ' => match e with | .normal => ∃ (y : Nat × Int × Int) (rn : List (Option Nat)), (bN.l0 y.1 a0 y.2.1 y.2.2 = some r ∧ y.1 < k + 1) ∧ y.1 < k0 ∧ cJ σ σ' [] [(3, .int .i64 y.2.1), (4, .int .i64 y.2.2)] [] [] rn | e => Q e σ'))) : Lp F hv Q σ := by
  unfold Lp
  refine ⟨Nat × Int × Int, fun x => bN.l0 x.1 a0 x.2.1 x.2.2 = some r ∧ x.1 < k + 1, fun x => x.1, [], fun x => [(3, .int .i64 x.2.1), (4, .int .i64 x.2.2)], fun x => [], fun x => [], ⟨(k, x3, x4), rn, ⟨H, Nat.lt_succ_self _⟩, h1⟩, ?_⟩
  rintro ⟨k, x3, x4⟩ ⟨H, hk⟩
  exact h2 k x3 x4 hk H
theorem bN.l1_lp {F : (Exit → St → Prop) → St → Prop} {hv : List Tmp} {Q : Exit → St → Prop} {σ : St} {r : Int} {k : Nat} {a0 : ByteArray} {x3_1 : Int} {x4_1 : Int} (H : bN.l1 k a0 x3_1 x4_1 = some r) (rn : List (Option Nat)) (h1 : cJ σ σ [] [(3, .int .i64 x3_1), (4, .int .i64 x4_1)] [] [] rn)
    (h2 : ∀ (k0 : Nat) (x3_1 : Int) (x4_1 : Int), k0 < k + 1 → bN.l1 k0 a0 x3_1 x4_1 = some r → dE σ hv [] [(3, .int .i64 x3_1), (4, .int .i64 x4_1)] [] [] (F (fun e σ' => match e with | .normal => ∃ (y : Nat × Int × Int) (rn : List (Option Nat)), (bN.l1 y.1 a0 y.2.1 y.2.2 = some r ∧ y.1 < k + 1) ∧ y.1 < k0 ∧ cJ σ σ' [] [(3, .int .i64 y.2.1), (4, .int .i64 y.2.2)] [] [] rn | e => Q e σ'))) : Lp F hv Q σ := by
  unfold Lp
  refine ⟨Nat × Int × Int, fun x => bN.l1 x.1 a0 x.2.1 x.2.2 = some r ∧ x.1 < k + 1, fun x => x.1, [], fun x => [(3, .int .i64 x.2.1), (4, .int .i64 x.2.2)], fun x => [], fun x => [], ⟨(k, x3_1, x4_1), rn, ⟨H, Nat.lt_succ_self _⟩, h1⟩, ?_⟩
  rintro ⟨k, x3_1, x4_1⟩ ⟨H, hk⟩
  exact h2 k x3_1 x4_1 hk H
theorem bN.ac {k : Nat} {a0 : ByteArray} {r : Int} (H : bN.f k a0 = some r) : cI Tryz.prog G 82 [] [.str a0] [] (.int .i64 r) := by
  refine bO tok hP Tryz.func82 rfl (by kernel_rfl) [.tmp 2] rfl (by kernel_rfl) (Nat.le_of_ble_eq_true rfl) (.l .n (.l (.c .n (.l (.c .n .n) .n)) (.c .n (.l (.l .n (.l .n (.l (.l (.c .n (.l (.c .n .n) .n)) .n) .n))) .n)))) rfl ?_
  unfold bN.f at H
  revert H; refine aN (fun t388 A H => (cmk (fJ.ac A) rfl rfl (dM H (fun c H => ?_) (fun c H => ?_))))
  refine Br.f ff_ (Br.f ff_ (Br.f ff_ (bM H (fun c H => ?_) (fun c H => ?_))))
  refine Br.t ft_ (Nd.mk (by decide) (nd_ H (fun c H => (Br.t ft_ (Br.f ff_ (Br.t ft_ (Br.f ff_ (cu 120 [(0, .str a0), (18, .bool (decide ((bt a0 0) = 48)))] [] rfl rfl rfl (bM H (fun c H => ?_) (fun c H => ?_))))))))))
  refine cu 128 [(2, .int .i64 (-1))] [] rfl rfl rfl ?_
  cases H
  exact rz rfl
  refine cu 128 [(0, .str a0), (3, .int .i64 0)] [] rfl rfl rfl (bN.l0_lp (a0 := a0) (k := k) H [] (fq rfl rfl fi_ rfl) ?_)
  intro k x3 x4 hk H; rcases k with _ | k; exact bC H; rw [bN.l0] at H
  refine bM H (fun c H => ?_) (fun c H => ?_)
  refine nd_ H (fun c H => (Nd.mk nf_ (bM H (fun c H => ?_) (fun c H => ?_))))
  refine Br.t ft_ (Br.t ft_ (Br.t ft_ (Br.t ft_ (cu 248 [(0, .str a0), (3, .int .i64 x3), (4, .int .i64 x4), (34, .bool true)] [] rfl rfl rfl (Br.t rfl (cu 256 [(2, .int .i64 (-1))] [] rfl rfl rfl ?_))))))
  cases H
  exact rz rfl
  refine Br.f ff_ (Br.f ff_ (Nd.mk nf_ (Nd.mk nf_ (Br.f ff_ (Br.f ff_ (cu 248 [(0, .str a0), (3, .int .i64 x3), (4, .int .i64 x4), (34, .bool (decide ((bt a0 x4) > 57)))] [] rfl rfl rfl (bM H (fun c H => ?_) (fun c H => ?_))))))))
  refine cu 256 [(2, .int .i64 (-1))] [] rfl rfl rfl ?_
  cases H
  exact rz rfl
  refine Nd.mk nf_ (Nd.mk nf_ (⟨(k, wrap64 ((wrap64 ((wrap64 (x3 * 10)) + (wrap64 (bt a0 x4)))) - 48), wrap64 (x4 + 1)), [], ⟨H, lt_⟩, lt_, (fq rfl rfl fi_ rfl)⟩))
  cases H
  exact rz rfl
  refine Br.f ff_ (Br.f ff_ (Br.f ff_ (Br.f ff_ (Br.f ff_ (cu 120 [(0, .str a0), (18, .bool false)] [] rfl rfl rfl (Br.f rfl (cu 128 [(0, .str a0), (3, .int .i64 0)] [] rfl rfl rfl (bN.l1_lp (a0 := a0) (k := k) H [] (fq rfl rfl fi_ rfl) ?_))))))))
  intro k x3_1 x4_1 hk H; rcases k with _ | k; exact bC H; rw [bN.l1] at H
  refine bM H (fun c H => ?_) (fun c H => ?_)
  refine nd_ H (fun c H => (Nd.mk nf_ (bM H (fun c H => ?_) (fun c H => ?_))))
  refine Br.t ft_ (Br.t ft_ (Br.t ft_ (Br.t ft_ (cu 248 [(0, .str a0), (3, .int .i64 x3_1), (4, .int .i64 x4_1), (34, .bool true)] [] rfl rfl rfl (Br.t rfl (cu 256 [(2, .int .i64 (-1))] [] rfl rfl rfl ?_))))))
  cases H
  exact rz rfl
  refine Br.f ff_ (Br.f ff_ (Nd.mk nf_ (Nd.mk nf_ (Br.f ff_ (Br.f ff_ (cu 248 [(0, .str a0), (3, .int .i64 x3_1), (4, .int .i64 x4_1), (34, .bool (decide ((bt a0 x4_1) > 57)))] [] rfl rfl rfl (bM H (fun c H => ?_) (fun c H => ?_))))))))
  refine cu 256 [(2, .int .i64 (-1))] [] rfl rfl rfl ?_
  cases H
  exact rz rfl
  refine Nd.mk nf_ (Nd.mk nf_ (⟨(k, wrap64 ((wrap64 ((wrap64 (x3_1 * 10)) + (wrap64 (bt a0 x4_1)))) - 48), wrap64 (x4_1 + 1)), [], ⟨H, lt_⟩, lt_, (fq rfl rfl fi_ rfl)⟩))
  cases H
  exact rz rfl
  refine Br.t ft_ (Br.t ft_ (Br.t ft_ (Br.t ft_ (Br.t ft_ (cu 120 [(0, .str a0), (18, .bool true)] [] rfl rfl rfl (Br.t rfl (cu 128 [(2, .int .i64 (-1))] [] rfl rfl rfl ?_)))))))
  cases H
  exact rz rfl
theorem cG.l0_lp {F : (Exit → St → Prop) → St → Prop} {hv : List Tmp} {Q : Exit → St → Prop} {σ : St} {r : Int} {k : Nat} {a0_2 : List aB} {a1 : ByteArray} {x5 : Int} (H : cG.l0 k a0_2 a1 x5 = some r) (rn : List (Option Nat)) (h1 : cJ σ σ [] [(5, .int .i64 x5)] [] [] rn)
    (h2 : ∀ (k0 : Nat) (x5 : Int), k0 < k + 1 → cG.l0 k0 a0_2 a1 x5 = some r → dE σ hv [] [(5, .int .i64 x5)] [] [] (F (fun e σ' => match e with | .normal => ∃ (y : Nat × Int) (rn : List (Option Nat)), (cG.l0 y.1 a0_2 a1 y.2 = some r ∧ y.1 < k + 1) ∧ y.1 < k0 ∧ cJ σ σ' [] [(5, .int .i64 y.2)] [] [] rn | e => Q e σ'))) : Lp F hv Q σ := by
  unfold Lp
  refine ⟨Nat × Int, fun x => cG.l0 x.1 a0_2 a1 x.2 = some r ∧ x.1 < k + 1, fun x => x.1, [], fun x => [(5, .int .i64 x.2)], fun x => [], fun x => [], ⟨(k, x5), rn, ⟨H, Nat.lt_succ_self _⟩, h1⟩, ?_⟩
  rintro ⟨k, x5⟩ ⟨H, hk⟩
  exact h2 k x5 hk H
theorem cG.ac {k : Nat} {a0_0 : List ByteArray} {a0_1 : List aC} {a0_2 : List aB} {a0_3 : List aA} {a1 : ByteArray} {r : Int} (H : cG.f k a0_0 a0_1 a0_2 a0_3 a1 = some r) : cI Tryz.prog G 55 [] [.agg [(aM a0_0), (aF a0_1), (aD a0_2), (aE a0_3)], .str a1] [] (.int .i64 r) := by
  refine bO tok hP Tryz.func55 rfl (by kernel_rfl) [.tmp 4] rfl (by kernel_rfl) (Nat.le_of_ble_eq_true rfl) (.l .n (.l (.l .n (.l .n (.l (.c .n .n) .n))) .n)) rfl ?_
  unfold cG.f at H
  refine cG.l0_lp (a0_2 := a0_2) (a1 := a1) (k := k) H [] (fq rfl rfl fi_ rfl) ?_
  intro k x5 hk H; rcases k with _ | k; exact bC H; rw [cG.l0] at H
  refine bM H (fun c H => ?_) (fun c H => ?_)
  refine nd_ H (fun c H => (Nd.mk nf_ (El.mk (bJ _ _ nf_ nf_) (cu 128 [(1, .str a1), (2, .bp 0 0), (5, .int .i64 x5), (20, .bool (decide (((aK a0_2 x5).f0).toList = a1.toList)))] [(0, .box [(aM a0_0), (aF a0_1), (aD a0_2), (aE a0_3)])] rfl rfl rfl (bM H (fun c H => ?_) (fun c H => ?_))))))
  cases H
  exact rz rfl
  exact ⟨(k, wrap64 (x5 + 1)), [], ⟨H, lt_⟩, lt_, (fq rfl rfl fi_ rfl)⟩
  cases H
  exact rz rfl
theorem cK.l0_lp {F : (Exit → St → Prop) → St → Prop} {hv : List Tmp} {Q : Exit → St → Prop} {σ : St} {r : (List ByteArray) × (List aC) × (List aB) × (List aA) × Int} {k : Nat} {a0_0 : List ByteArray} {a0_1 : List aC} {a0_2 : List aB} {a0_3 : List aA} {a1_0 : ByteArray} {a1_1 : Int} {a1_2 : ByteArray} {x6 : Int} (H : cK.l0 k a0_0 a0_1 a0_2 a0_3 a1_0 a1_1 a1_2 x6 = some r) (rn : List (Option Nat)) (h1 : cJ σ σ [] [(6, .int .i64 x6)] [] [] rn)
    (h2 : ∀ (k0 : Nat) (x6 : Int), k0 < k + 1 → cK.l0 k0 a0_0 a0_1 a0_2 a0_3 a1_0 a1_1 a1_2 x6 = some r → dE σ hv [] [(6, .int .i64 x6)] [] [] (F (fun e σ' => match e with | .normal => ∃ (y : Nat × Int) (rn : List (Option Nat)), (cK.l0 y.1 a0_0 a0_1 a0_2 a0_3 a1_0 a1_1 a1_2 y.2 = some r ∧ y.1 < k + 1) ∧ y.1 < k0 ∧ cJ σ σ' [] [(6, .int .i64 y.2)] [] [] rn | e => Q e σ'))) : Lp F hv Q σ := by
  unfold Lp
  refine ⟨Nat × Int, fun x => cK.l0 x.1 a0_0 a0_1 a0_2 a0_3 a1_0 a1_1 a1_2 x.2 = some r ∧ x.1 < k + 1, fun x => x.1, [], fun x => [(6, .int .i64 x.2)], fun x => [], fun x => [], ⟨(k, x6), rn, ⟨H, Nat.lt_succ_self _⟩, h1⟩, ?_⟩
  rintro ⟨k, x6⟩ ⟨H, hk⟩
  exact h2 k x6 hk H
theorem cK.ac {k : Nat} {a0_0 : List ByteArray} {a0_1 : List aC} {a0_2 : List aB} {a0_3 : List aA} {a1_0 : ByteArray} {a1_1 : Int} {a1_2 : ByteArray} {r : (List ByteArray) × (List aC) × (List aB) × (List aA) × Int} (H : cK.f k a0_0 a0_1 a0_2 a0_3 a1_0 a1_1 a1_2 = some r) : cI Tryz.prog G 83 [] [.agg [(aM a0_0), (aF a0_1), (aD a0_2), (aE a0_3)], .agg [.str a1_0, .int .i64 a1_1, .str a1_2]] [] (.tup [.agg [(aM r.1), (aF r.2.1), (aD r.2.2.1), (aE r.2.2.2.1)], .int .i64 r.2.2.2.2]) := by
  refine bO tok hP Tryz.func83 rfl (by kernel_rfl) [.cell 4 28, .tmp 5] rfl (by kernel_rfl) (Nat.le_of_ble_eq_true rfl) (.l .n (.l (.l .n (.l (.c .n .n) .n)) (.l (.c .n .n) (.l .n (.l (.l (.c .n .n) .n) (.c .n .n)))))) rfl ?_
  unfold cK.f at H
  revert H; refine aN (fun t471 A H => (cmk (cG.ac A) rfl rfl (bM H (fun c H => ?_) (fun c H => ?_))))
  refine cu 96 [(4, .bp 16 0), (5, .int .i64 4)] [(16, .box [(aM a0_0), (aF a0_1), (aD a0_2), (aE a0_3)])] rfl rfl rfl ?_
  cases H
  exact rts rfl
  refine cu 104 [(2, .bp 0 0), (3, .bp 8 0), (4, .bp 16 0), (16, .bool (decide ((a0_2.length : Int) ≥ 14)))] [(0, .box [(aM a0_0), (aF a0_1), (aD a0_2), (aE a0_3)]), (8, .box [.str a1_0, .int .i64 a1_1, .str a1_2]), (16, .box [.nil, .nil, .nil, .nil])] rfl rfl rfl (bM H (fun c H => ?_) (fun c H => ?_))
  cases H
  exact rts rfl
  refine cK.l0_lp (a0_0 := a0_0) (a0_1 := a0_1) (a0_2 := a0_2) (a0_3 := a0_3) (a1_0 := a1_0) (a1_1 := a1_1) (a1_2 := a1_2) (k := k) H [] (fq rfl rfl fi_ rfl) ?_
  intro k x6 hk H; rcases k with _ | k; exact bC H; rw [cK.l0] at H
  refine bM H (fun c H => ?_) (fun c H => ?_)
  refine Br.t ft_ (Br.t ft_ (Br.t ft_ (nd_ H (fun c H => (Nd.mk nf_ (El.mk (bJ _ _ nf_ nf_) (Br.t ft_ (Br.t ft_ (Br.t ft_ (Br.t ft_ (Br.t ft_ (Br.t ft_ (cu 240 [(2, .bp 0 0), (3, .bp 8 0), (4, .bp 16 0), (6, .int .i64 x6), (33, .bool (Op.bytesLess ((aK a0_2 x6).f0).toList a1_0.toList))] [(0, .box [(aM a0_0), (aF a0_1), (aD a0_2), (aE a0_3)]), (8, .box [.str a1_0, .int .i64 a1_1, .str a1_2]), (16, .box [.nil, .nil, .nil, .nil])] rfl rfl rfl (jF H (fun c H => ?_) (fun c H => ?_)))))))))))))))
  exact ⟨(k, wrap64 (x6 + 1)), [], ⟨H, lt_⟩, lt_, (fq rfl rfl fi_ rfl)⟩
  refine Or.inl (Nd.mk nf_ (nd_ H (fun c H => (nd_ H (fun c H => (Or.inl (nd_ H (fun c H => (Nd.mk nf_ (Nd.mk nf_ (nd_ H (fun c H => (jW 368 [(2, .bp 0 0), (4, .bp 16 0)] [(0, .box [(aM a0_0), (aF a0_1), .own 344 (0 + (x6).toNat + 1 + (a0_2.length - (x6).toNat)), (aE a0_3)]), (16, .box [.nil, .nil, .nil, .nil]), (344, .arr 49 3 ((((([] : List aB) ++ (a0_2.take (x6).toNat)) ++ ([(⟨a1_0, a1_1, a1_2⟩ : aB)] : List aB)) ++ (a0_2.drop (x6).toNat)).map aH))] rfl ⟨.inl rfl, ⟨.inl rfl, trivial⟩⟩ ⟨rfl, ⟨rfl, ⟨fm_, trivial⟩⟩⟩ ?_)))))))))))))
  cases H
  exact eY [344] (cF (fM (bH (fG rfl) (bH (fG rfl) (bH (iU rfl lm_ lm_ rfl) (bH (fG rfl) (fN)))))) (cF (fX rfl) (eJ)))
  refine Br.f ff_ (Br.f ff_ (Br.f ff_ (Br.f ff_ (Br.f ff_ (Br.f ff_ (Br.f ff_ (Br.f ff_ (Br.f ff_ (cu 240 [(2, .bp 0 0), (3, .bp 8 0), (4, .bp 16 0), (6, .int .i64 x6), (33, .bool false)] [(0, .box [(aM a0_0), (aF a0_1), (aD a0_2), (aE a0_3)]), (8, .box [.str a1_0, .int .i64 a1_1, .str a1_2]), (16, .box [.nil, .nil, .nil, .nil])] rfl rfl rfl (Br.f rfl (Or.inl (nd_ H (fun c H => (nd_ H (fun c H => (nd_ H (fun c H => (Or.inl (nd_ H (fun c H => (Nd.mk nf_ (Nd.mk nf_ (nd_ H (fun c H => (jW 368 [(2, .bp 0 0), (4, .bp 16 0)] [(0, .box [(aM a0_0), (aF a0_1), .own 344 (0 + (x6).toNat + 1 + (a0_2.length - (x6).toNat)), (aE a0_3)]), (16, .box [.nil, .nil, .nil, .nil]), (344, .arr 49 3 ((((([] : List aB) ++ (a0_2.take (x6).toNat)) ++ ([(⟨a1_0, a1_1, a1_2⟩ : aB)] : List aB)) ++ (a0_2.drop (x6).toNat)).map aH))] rfl ⟨.inl rfl, ⟨.inl rfl, trivial⟩⟩ ⟨rfl, ⟨rfl, ⟨fm_, trivial⟩⟩⟩ ?_)))))))))))))))))))))))))
  cases H
  exact eY [344] (cF (fM (bH (fG rfl) (bH (fG rfl) (bH (iU rfl lm_ lm_ rfl) (bH (fG rfl) (fN)))))) (cF (fX rfl) (eJ)))
theorem gO.ac {k : Nat} {a0_0 : List ByteArray} {a0_1 : List aC} {a0_2 : List aB} {a0_3 : List aA} {l1 : List ByteArray} {r : (List ByteArray) × (List aC) × (List aB) × (List aA) × Int} (H : gO.f k a0_0 a0_1 a0_2 a0_3 l1 = some r) : cI Tryz.prog G 68 [] [.agg [(aM a0_0), (aF a0_1), (aD a0_2), (aE a0_3)], (aM l1)] [] (.tup [.agg [(aM r.1), (aF r.2.1), (aD r.2.2.1), (aE r.2.2.2.1)], .int .i64 r.2.2.2.2]) := by
  refine bO tok hP Tryz.func68 rfl (by kernel_rfl) [.cell 4 28, .tmp 5] rfl (by kernel_rfl) (Nat.le_of_ble_eq_true rfl) (.l .n (.l (.c .n (.l (.c .n .n) .n)) (.c .n .n))) rfl ?_
  unfold gO.f at H
  refine iI H (fun c H => ?_) (fun c H => ?_)
  refine Br.f ff_ (Nd.mk (by decide) (nd_ H (fun c H => (El.mk (aX _ _ nf_ nf_) (Br.f ff_ (Br.f ff_ ?_))))))
  revert H; refine aN (fun t484 A H => (cmk (aY.ac A) rfl rfl (Br.f ff_ (Br.f ff_ (dM H (fun c H => ?_) (fun c H => ?_))))))
  refine Br.f ff_ (Nd.mk (by decide) (nd_ H (fun c H => (El.mk (aX _ _ nf_ nf_) (Br.f ff_ (Br.f ff_ ?_))))))
  revert H; refine aN (fun t485 A H => (cmk (bN.ac A) rfl rfl (Br.f ff_ ?_)))
  revert H; refine aN (fun t486 A H => (cmk (fJ.ac A) rfl rfl (Br.f ff_ (Br.f ff_ (dM H (fun c H => ?_) (fun c H => ?_))))))
  refine Br.f ff_ (Nd.mk (by decide) (nd_ H (fun c H => (El.mk (aX _ _ nf_ nf_) (Br.f ff_ (Br.f ff_ ?_))))))
  revert H; refine aN (fun t487 A H => (cmk (aY.ac A) rfl rfl (Br.f ff_ (Br.f ff_ (cu 224 [(1, (aM l1)), (2, .bp 0 0), (4, .bp 8 0), (30, .bool (!t487))] [(0, .box [(aM a0_0), (aF a0_1), (aD a0_2), (aE a0_3)]), (8, .box [.nil, .nil, .nil, .nil])] rfl rfl rfl (dM H (fun c H => ?_) (fun c H => ?_)))))))
  refine Nd.mk (by decide) (Nd.mk nf_ (El.mk (aX _ _ nf_ nf_) (Nd.mk (by decide) (Nd.mk nf_ (El.mk (aX _ _ nf_ nf_) ?_)))))
  revert H; refine aN (fun t488 A H => (cmk (bN.ac A) rfl rfl (Nd.mk (by decide) (Nd.mk nf_ (El.mk (aX _ _ nf_ nf_) ?_)))))
  revert H; refine aN (fun t489 A H => (cmk (cK.ac A) rfl rfl (cu 360 [(4, .bp 8 0), (5, .int .i64 t489.2.2.2.2)] [(8, .box [(aM t489.1), (aF t489.2.1), (aD t489.2.2.1), (aE t489.2.2.2.1)])] rfl rfl rfl ?_)))
  cases H
  exact rts rfl
  refine cu 248 [(4, .bp 8 0), (5, .int .i64 3)] [(8, .box [(aM a0_0), (aF a0_1), (aD a0_2), (aE a0_3)])] rfl rfl rfl ?_
  cases H
  exact rts rfl
  refine Br.t ft_ (Br.t ft_ (Br.t ft_ (Br.t ft_ (Br.t ft_ (cu 224 [(1, (aM l1)), (2, .bp 0 0), (4, .bp 8 0), (30, .bool true)] [(0, .box [(aM a0_0), (aF a0_1), (aD a0_2), (aE a0_3)]), (8, .box [.nil, .nil, .nil, .nil])] rfl rfl rfl (Br.t rfl (cu 248 [(4, .bp 8 0), (5, .int .i64 3)] [(8, .box [(aM a0_0), (aF a0_1), (aD a0_2), (aE a0_3)])] rfl rfl rfl ?_)))))))
  cases H
  exact rts rfl
  refine Br.t ft_ (Br.t ft_ (Br.t ft_ (Br.t ft_ (Br.t ft_ (Br.t ft_ (Br.t rfl (Br.t rfl (Br.t rfl (Br.t rfl (Br.t rfl (Br.t rfl (cu 224 [(1, (aM l1)), (2, .bp 0 0), (4, .bp 8 0), (30, .bool true)] [(0, .box [(aM a0_0), (aF a0_1), (aD a0_2), (aE a0_3)]), (8, .box [.nil, .nil, .nil, .nil])] rfl rfl rfl (Br.t rfl (cu 248 [(4, .bp 8 0), (5, .int .i64 3)] [(8, .box [(aM a0_0), (aF a0_1), (aD a0_2), (aE a0_3)])] rfl rfl rfl ?_))))))))))))))
  cases H
  exact rts rfl
  refine Br.t ft_ (Br.t ft_ (Br.t ft_ (Br.t ft_ (Br.t ft_ (Br.t rfl (Br.t rfl (Br.t rfl (Br.t rfl (Br.t rfl (Br.t rfl (Br.t rfl (Br.t rfl (Br.t rfl (Br.t rfl (Br.t rfl (Br.t rfl (Br.t rfl (cu 224 [(1, (aM l1)), (2, .bp 0 0), (4, .bp 8 0), (30, .bool true)] [(0, .box [(aM a0_0), (aF a0_1), (aD a0_2), (aE a0_3)]), (8, .box [.nil, .nil, .nil, .nil])] rfl rfl rfl (Br.t rfl (cu 248 [(4, .bp 8 0), (5, .int .i64 3)] [(8, .box [(aM a0_0), (aF a0_1), (aD a0_2), (aE a0_3)])] rfl rfl rfl ?_))))))))))))))))))))
  cases H
  exact rts rfl
theorem hY.ac {k : Nat} {a0_0 : List ByteArray} {a0_1 : List aC} {a0_2 : List aB} {a0_3 : List aA} {l1 : List ByteArray} {r : (List ByteArray) × (List aC) × (List aB) × (List aA) × Int} (H : hY.f k a0_0 a0_1 a0_2 a0_3 l1 = some r) : cI Tryz.prog G 69 [] [.agg [(aM a0_0), (aF a0_1), (aD a0_2), (aE a0_3)], (aM l1)] [] (.tup [.agg [(aM r.1), (aF r.2.1), (aD r.2.2.1), (aE r.2.2.2.1)], .int .i64 r.2.2.2.2]) := by
  refine bO tok hP Tryz.func69 rfl (by kernel_rfl) [.cell 4 28, .tmp 5] rfl (by kernel_rfl) (Nat.le_of_ble_eq_true rfl) (.l .n (.l (.c .n (.l (.c .n .n) .n)) (.c .n .n))) rfl ?_
  unfold hY.f at H
  refine iI H (fun c H => ?_) (fun c H => ?_)
  refine Br.f ff_ (Nd.mk (by decide) (nd_ H (fun c H => (El.mk (aX _ _ nf_ nf_) (Br.f ff_ (Br.f ff_ ?_))))))
  revert H; refine aN (fun t529 A H => (cmk (aY.ac A) rfl rfl (Br.f ff_ (Br.f ff_ (dM H (fun c H => ?_) (fun c H => ?_))))))
  refine Br.f ff_ (Nd.mk (by decide) (nd_ H (fun c H => (El.mk (aX _ _ nf_ nf_) (Br.f ff_ (Br.f ff_ ?_))))))
  revert H; refine aN (fun t530 A H => (cmk (aY.ac A) rfl rfl (Br.f ff_ (Br.f ff_ (cu 160 [(1, (aM l1)), (2, .bp 0 0), (4, .bp 8 0), (22, .bool (!t530))] [(0, .box [(aM a0_0), (aF a0_1), (aD a0_2), (aE a0_3)]), (8, .box [.nil, .nil, .nil, .nil])] rfl rfl rfl (dM H (fun c H => ?_) (fun c H => ?_)))))))
  refine Nd.mk (by decide) (Nd.mk nf_ (El.mk (aX _ _ nf_ nf_) (Nd.mk (by decide) (Nd.mk nf_ (El.mk (aX _ _ nf_ nf_) ?_)))))
  revert H; refine aN (fun t531 A H => (cmk (cK.ac A) rfl rfl (cu 264 [(4, .bp 8 0), (5, .int .i64 t531.2.2.2.2)] [(8, .box [(aM t531.1), (aF t531.2.1), (aD t531.2.2.1), (aE t531.2.2.2.1)])] rfl rfl rfl ?_)))
  cases H
  exact rts rfl
  refine cu 184 [(4, .bp 8 0), (5, .int .i64 3)] [(8, .box [(aM a0_0), (aF a0_1), (aD a0_2), (aE a0_3)])] rfl rfl rfl ?_
  cases H
  exact rts rfl
  refine Br.t ft_ (Br.t ft_ (Br.t ft_ (Br.t ft_ (Br.t ft_ (cu 160 [(1, (aM l1)), (2, .bp 0 0), (4, .bp 8 0), (22, .bool true)] [(0, .box [(aM a0_0), (aF a0_1), (aD a0_2), (aE a0_3)]), (8, .box [.nil, .nil, .nil, .nil])] rfl rfl rfl (Br.t rfl (cu 184 [(4, .bp 8 0), (5, .int .i64 3)] [(8, .box [(aM a0_0), (aF a0_1), (aD a0_2), (aE a0_3)])] rfl rfl rfl ?_)))))))
  cases H
  exact rts rfl
  refine Br.t ft_ (Br.t ft_ (Br.t ft_ (Br.t ft_ (Br.t ft_ (Br.t rfl (Br.t rfl (Br.t rfl (Br.t rfl (Br.t rfl (Br.t rfl (cu 160 [(1, (aM l1)), (2, .bp 0 0), (4, .bp 8 0), (22, .bool true)] [(0, .box [(aM a0_0), (aF a0_1), (aD a0_2), (aE a0_3)]), (8, .box [.nil, .nil, .nil, .nil])] rfl rfl rfl (Br.t rfl (cu 184 [(4, .bp 8 0), (5, .int .i64 3)] [(8, .box [(aM a0_0), (aF a0_1), (aD a0_2), (aE a0_3)])] rfl rfl rfl ?_)))))))))))))
  cases H
  exact rts rfl
theorem dN.l0_lp {F : (Exit → St → Prop) → St → Prop} {hv : List Tmp} {Q : Exit → St → Prop} {σ : St} {r : Int} {k : Nat} {a0_3 : List aA} {a1 : ByteArray} {x5 : Int} (H : dN.l0 k a0_3 a1 x5 = some r) (rn : List (Option Nat)) (h1 : cJ σ σ [] [(5, .int .i64 x5)] [] [] rn)
    (h2 : ∀ (k0 : Nat) (x5 : Int), k0 < k + 1 → dN.l0 k0 a0_3 a1 x5 = some r → dE σ hv [] [(5, .int .i64 x5)] [] [] (F (fun e σ' => match e with | .normal => ∃ (y : Nat × Int) (rn : List (Option Nat)), (dN.l0 y.1 a0_3 a1 y.2 = some r ∧ y.1 < k + 1) ∧ y.1 < k0 ∧ cJ σ σ' [] [(5, .int .i64 y.2)] [] [] rn | e => Q e σ'))) : Lp F hv Q σ := by
  unfold Lp
  refine ⟨Nat × Int, fun x => dN.l0 x.1 a0_3 a1 x.2 = some r ∧ x.1 < k + 1, fun x => x.1, [], fun x => [(5, .int .i64 x.2)], fun x => [], fun x => [], ⟨(k, x5), rn, ⟨H, Nat.lt_succ_self _⟩, h1⟩, ?_⟩
  rintro ⟨k, x5⟩ ⟨H, hk⟩
  exact h2 k x5 hk H
theorem dN.ac {k : Nat} {a0_0 : List ByteArray} {a0_1 : List aC} {a0_2 : List aB} {a0_3 : List aA} {a1 : ByteArray} {r : Int} (H : dN.f k a0_0 a0_1 a0_2 a0_3 a1 = some r) : cI Tryz.prog G 84 [] [.agg [(aM a0_0), (aF a0_1), (aD a0_2), (aE a0_3)], .str a1] [] (.int .i64 r) := by
  refine bO tok hP Tryz.func84 rfl (by kernel_rfl) [.tmp 4] rfl (by kernel_rfl) (Nat.le_of_ble_eq_true rfl) (.l .n (.l (.l .n (.l .n (.l (.c .n .n) .n))) .n)) rfl ?_
  unfold dN.f at H
  refine dN.l0_lp (a0_3 := a0_3) (a1 := a1) (k := k) H [] (fq rfl rfl fi_ rfl) ?_
  intro k x5 hk H; rcases k with _ | k; exact bC H; rw [dN.l0] at H
  refine bM H (fun c H => ?_) (fun c H => ?_)
  refine nd_ H (fun c H => (Nd.mk nf_ (El.mk (bQ _ _ nf_ nf_) (cu 128 [(1, .str a1), (2, .bp 0 0), (5, .int .i64 x5), (20, .bool (decide (((aI a0_3 x5).f0).toList = a1.toList)))] [(0, .box [(aM a0_0), (aF a0_1), (aD a0_2), (aE a0_3)])] rfl rfl rfl (bM H (fun c H => ?_) (fun c H => ?_))))))
  cases H
  exact rz rfl
  exact ⟨(k, wrap64 (x5 + 1)), [], ⟨H, lt_⟩, lt_, (fq rfl rfl fi_ rfl)⟩
  cases H
  exact rz rfl
theorem cA.l0_lp {F : (Exit → St → Prop) → St → Prop} {hv : List Tmp} {Q : Exit → St → Prop} {σ : St} {r : (List ByteArray) × (List aC) × (List aB) × (List aA) × Int} {k : Nat} {a0_0 : List ByteArray} {a0_1 : List aC} {a0_2 : List aB} {a0_3 : List aA} {l1 : List ByteArray} {x7 : Int} (H : cA.l0 k a0_0 a0_1 a0_2 a0_3 l1 x7 = some r) (rn : List (Option Nat)) (h1 : cJ σ σ [] [(7, .int .i64 x7)] [] [] rn)
    (h2 : ∀ (k0 : Nat) (x7 : Int), k0 < k + 1 → cA.l0 k0 a0_0 a0_1 a0_2 a0_3 l1 x7 = some r → dE σ hv [] [(7, .int .i64 x7)] [] [] (F (fun e σ' => match e with | .normal => ∃ (y : Nat × Int) (rn : List (Option Nat)), (cA.l0 y.1 a0_0 a0_1 a0_2 a0_3 l1 y.2 = some r ∧ y.1 < k + 1) ∧ y.1 < k0 ∧ cJ σ σ' [] [(7, .int .i64 y.2)] [] [] rn | e => Q e σ'))) : Lp F hv Q σ := by
  unfold Lp
  refine ⟨Nat × Int, fun x => cA.l0 x.1 a0_0 a0_1 a0_2 a0_3 l1 x.2 = some r ∧ x.1 < k + 1, fun x => x.1, [], fun x => [(7, .int .i64 x.2)], fun x => [], fun x => [], ⟨(k, x7), rn, ⟨H, Nat.lt_succ_self _⟩, h1⟩, ?_⟩
  rintro ⟨k, x7⟩ ⟨H, hk⟩
  exact h2 k x7 hk H
theorem cA.l1_lp {F : (Exit → St → Prop) → St → Prop} {hv : List Tmp} {Q : Exit → St → Prop} {σ : St} {r : (List ByteArray) × (List aC) × (List aB) × (List aA) × Int} {k : Nat} {a0_0 : List ByteArray} {a0_1 : List aC} {a0_2 : List aB} {a0_3 : List aA} {l1 : List ByteArray} {x7_1 : Int} (H : cA.l1 k a0_0 a0_1 a0_2 a0_3 l1 x7_1 = some r) (rn : List (Option Nat)) (h1 : cJ σ σ [] [(7, .int .i64 x7_1)] [] [] rn)
    (h2 : ∀ (k0 : Nat) (x7_1 : Int), k0 < k + 1 → cA.l1 k0 a0_0 a0_1 a0_2 a0_3 l1 x7_1 = some r → dE σ hv [] [(7, .int .i64 x7_1)] [] [] (F (fun e σ' => match e with | .normal => ∃ (y : Nat × Int) (rn : List (Option Nat)), (cA.l1 y.1 a0_0 a0_1 a0_2 a0_3 l1 y.2 = some r ∧ y.1 < k + 1) ∧ y.1 < k0 ∧ cJ σ σ' [] [(7, .int .i64 y.2)] [] [] rn | e => Q e σ'))) : Lp F hv Q σ := by
  unfold Lp
  refine ⟨Nat × Int, fun x => cA.l1 x.1 a0_0 a0_1 a0_2 a0_3 l1 x.2 = some r ∧ x.1 < k + 1, fun x => x.1, [], fun x => [(7, .int .i64 x.2)], fun x => [], fun x => [], ⟨(k, x7_1), rn, ⟨H, Nat.lt_succ_self _⟩, h1⟩, ?_⟩
  rintro ⟨k, x7_1⟩ ⟨H, hk⟩
  exact h2 k x7_1 hk H
theorem cA.ac {k : Nat} {a0_0 : List ByteArray} {a0_1 : List aC} {a0_2 : List aB} {a0_3 : List aA} {l1 : List ByteArray} {r : (List ByteArray) × (List aC) × (List aB) × (List aA) × Int} (H : cA.f k a0_0 a0_1 a0_2 a0_3 l1 = some r) : cI Tryz.prog G 70 [] [.agg [(aM a0_0), (aF a0_1), (aD a0_2), (aE a0_3)], (aM l1)] [] (.tup [.agg [(aM r.1), (aF r.2.1), (aD r.2.2.1), (aE r.2.2.2.1)], .int .i64 r.2.2.2.2]) := by
  refine bO tok hP Tryz.func70 rfl (by kernel_rfl) [.cell 4 28, .tmp 5] rfl (by kernel_rfl) (Nat.le_of_ble_eq_true rfl) (.l .n (.l (.c .n (.l (.c .n .n) .n)) (.l .n (.l (.c .n (.l (.c .n .n) .n)) (.l .n (.c .n (.c .n (.c .n (.l (.l (.c .n .n) .n) (.c .n .n)))))))))) rfl ?_
  unfold cA.f at H
  refine iI H (fun c H => ?_) (fun c H => ?_)
  refine Br.f ff_ (Nd.mk (by decide) (nd_ H (fun c H => (El.mk (aX _ _ nf_ nf_) (Br.f ff_ (Br.f ff_ ?_))))))
  revert H; refine aN (fun t622 A H => (cmk (aY.ac A) rfl rfl (Br.f ff_ (Br.f ff_ (dM H (fun c H => ?_) (fun c H => ?_))))))
  refine Br.f ff_ (Nd.mk (by decide) (nd_ H (fun c H => (El.mk (aX _ _ nf_ nf_) (Br.f ff_ (Br.f ff_ ?_))))))
  revert H; refine aN (fun t623 A H => (cmk (aY.ac A) rfl rfl (Br.f ff_ (Br.f ff_ (dM H (fun c H => ?_) (fun c H => ?_))))))
  refine Br.f ff_ (Nd.mk (by decide) (nd_ H (fun c H => (El.mk (aX _ _ nf_ nf_) (Br.f ff_ (Br.f ff_ ?_))))))
  revert H; refine aN (fun t624 A H => (cmk (aY.ac A) rfl rfl (Br.f ff_ (Br.f ff_ (dM H (fun c H => ?_) (fun c H => ?_))))))
  refine Br.f ff_ (Nd.mk (by decide) (Nd.mk nf_ (El.mk (aX _ _ nf_ nf_) (Br.f ff_ (Br.f ff_ (Br.f ff_ (Nd.mk (by decide) (Nd.mk nf_ (El.mk (aX _ _ nf_ nf_) (Br.f ff_ (Br.f ff_ (Br.f ff_ (bM H (fun c H => ?_) (fun c H => ?_))))))))))))))
  refine Br.t ft_ (Br.t ft_ (Br.t ft_ (Br.t ft_ (Br.t ft_ (cu 344 [(1, (aM l1)), (2, .bp 0 0), (4, .bp 8 0), (47, .bool true)] [(0, .box [(aM a0_0), (aF a0_1), (aD a0_2), (aE a0_3)]), (8, .box [.nil, .nil, .nil, .nil])] rfl rfl rfl (Br.t rfl (cu 368 [(4, .bp 8 0), (5, .int .i64 3)] [(8, .box [(aM a0_0), (aF a0_1), (aD a0_2), (aE a0_3)])] rfl rfl rfl ?_)))))))
  cases H
  exact rts rfl
  refine Br.f ff_ (Nd.mk (by decide) (nd_ H (fun c H => (El.mk (aX _ _ nf_ nf_) (Br.f ff_ (Br.f ff_ ?_))))))
  revert H; refine aN (fun t625 A H => (cmk (aY.ac A) rfl rfl (Br.f ff_ (Br.f ff_ (cu 344 [(1, (aM l1)), (2, .bp 0 0), (4, .bp 8 0), (47, .bool (!t625))] [(0, .box [(aM a0_0), (aF a0_1), (aD a0_2), (aE a0_3)]), (8, .box [.nil, .nil, .nil, .nil])] rfl rfl rfl (dM H (fun c H => ?_) (fun c H => ?_)))))))
  refine Nd.mk (by decide) (Nd.mk nf_ (El.mk (aX _ _ nf_ nf_) ?_))
  revert H; refine aN (fun t628 A H => (cmk (dN.ac A) rfl rfl (bM H (fun c H => ?_) (fun c H => ?_))))
  cases H
  exact rts rfl
  refine Nd.mk (by decide) (Nd.mk nf_ (El.mk (aX _ _ nf_ nf_) ?_))
  revert H; refine aN (fun t633 A H => (cmk (cG.ac A) rfl rfl (bM H (fun c H => ?_) (fun c H => ?_))))
  refine Br.t ft_ (Br.t ft_ (Br.t ft_ (Br.t ft_ (Br.t ft_ (Br.t ft_ (cu 504 [(1, (aM l1)), (2, .bp 0 0), (4, .bp 8 0), (69, .bool true)] [(0, .box [(aM a0_0), (aF a0_1), (aD a0_2), (aE a0_3)]), (8, .box [.nil, .nil, .nil, .nil])] rfl rfl rfl (Br.t rfl (cu 528 [(4, .bp 8 0), (5, .int .i64 5)] [(8, .box [(aM a0_0), (aF a0_1), (aD a0_2), (aE a0_3)])] rfl rfl rfl ?_))))))))
  cases H
  exact rts rfl
  refine Br.f ff_ (Br.f ff_ (Nd.mk (by decide) (Nd.mk nf_ (El.mk (aX _ _ nf_ nf_) (Br.f ff_ (Br.f ff_ ?_))))))
  revert H; refine aN (fun t634 A H => (cmk (cG.ac A) rfl rfl (Br.f ff_ (Br.f ff_ (cu 504 [(1, (aM l1)), (2, .bp 0 0), (4, .bp 8 0), (69, .bool (decide (t634 < 0)))] [(0, .box [(aM a0_0), (aF a0_1), (aD a0_2), (aE a0_3)]), (8, .box [.nil, .nil, .nil, .nil])] rfl rfl rfl (bM H (fun c H => ?_) (fun c H => ?_)))))))
  refine cu 528 [(4, .bp 8 0), (5, .int .i64 5)] [(8, .box [(aM a0_0), (aF a0_1), (aD a0_2), (aE a0_3)])] rfl rfl rfl ?_
  cases H
  exact rts rfl
  refine bM H (fun c H => ?_) (fun c H => ?_)
  cases H
  exact rts rfl
  refine Nd.mk (by decide) (Nd.mk nf_ (El.mk (aX _ _ nf_ nf_) (Nd.mk (by decide) (Nd.mk nf_ (El.mk (aX _ _ nf_ nf_) (Nd.mk (by decide) (Nd.mk nf_ (El.mk (aX _ _ nf_ nf_) (Nd.mk (by decide) (Nd.mk nf_ (El.mk (aX _ _ nf_ nf_) (cu 656 [(1, (aM l1)), (2, .bp 0 0), (4, .bp 8 0), (6, .bp 640 0)] [(0, .box [(aM a0_0), (aF a0_1), (aD a0_2), (aE a0_3)]), (8, .box [.nil, .nil, .nil, .nil]), (640, .box [.str (aV ByteArray.empty l1 1), .str (aV ByteArray.empty l1 2), .str (aV ByteArray.empty l1 3), .str (aV ByteArray.empty l1 4)])] rfl rfl rfl (jF H (fun c H => ?_) (fun c H => ?_))))))))))))))
  refine Nd.mk (by decide) (Nd.mk nf_ (El.mk (aX _ _ nf_ nf_) (Nd.mk (by decide) (Nd.mk nf_ (El.mk (aX _ _ nf_ nf_) (Nd.mk (by decide) (Nd.mk nf_ (El.mk (aX _ _ nf_ nf_) (Nd.mk (by decide) (Nd.mk nf_ (El.mk (aX _ _ nf_ nf_) (cu 808 [(2, .bp 0 0), (4, .bp 8 0), (6, .bp 640 0)] [(0, .box [(aM a0_0), (aF a0_1), (aD a0_2), (aE a0_3)]), (8, .box [.nil, .nil, .nil, .nil]), (640, .box [.str (aV ByteArray.empty l1 1), .str (aV ByteArray.empty l1 3), .str (aV ByteArray.empty l1 2), .str (aV ByteArray.empty l1 4)])] rfl rfl rfl (cu 816 [(2, .bp 0 0), (4, .bp 8 0), (6, .bp 640 0), (7, .int .i64 0)] [(0, .box [(aM a0_0), (aF a0_1), (aD a0_2), (aE a0_3)]), (8, .box [.nil, .nil, .nil, .nil]), (640, .box [.str (aV ByteArray.empty l1 1), .str (aV ByteArray.empty l1 3), .str (aV ByteArray.empty l1 2), .str (aV ByteArray.empty l1 4)])] rfl rfl rfl (cA.l0_lp (a0_0 := a0_0) (a0_1 := a0_1) (a0_2 := a0_2) (a0_3 := a0_3) (l1 := l1) (k := k) H [] (fq rfl rfl fi_ rfl) ?_))))))))))))))
  intro k x7 hk H; rcases k with _ | k; exact bC H; rw [cA.l0] at H
  refine bM H (fun c H => ?_) (fun c H => ?_)
  refine Br.t ft_ (Br.t ft_ (Br.t ft_ (nd_ H (fun c H => (Nd.mk nf_ (El.mk (bQ _ _ nf_ nf_) (Br.t ft_ (Br.t ft_ (Br.t ft_ (Br.t ft_ (Br.t ft_ (Br.t ft_ (cu 944 [(2, .bp 0 0), (4, .bp 8 0), (6, .bp 640 0), (7, .int .i64 x7), (122, .bool (Op.bytesLess ((aI a0_3 x7).f0).toList (aV ByteArray.empty l1 1).toList))] [(0, .box [(aM a0_0), (aF a0_1), (aD a0_2), (aE a0_3)]), (8, .box [.nil, .nil, .nil, .nil]), (640, .box [.str (aV ByteArray.empty l1 1), .str (aV ByteArray.empty l1 3), .str (aV ByteArray.empty l1 2), .str (aV ByteArray.empty l1 4)])] rfl rfl rfl (jF H (fun c H => ?_) (fun c H => ?_)))))))))))))))
  exact ⟨(k, wrap64 (x7 + 1)), [], ⟨H, lt_⟩, lt_, (fq rfl rfl fi_ rfl)⟩
  refine Or.inl (Nd.mk nf_ (nd_ H (fun c H => (nd_ H (fun c H => (Or.inl (nd_ H (fun c H => (Nd.mk nf_ (Nd.mk nf_ (nd_ H (fun c H => (jW 1072 [(2, .bp 0 0), (4, .bp 8 0)] [(0, .box [(aM a0_0), (aF a0_1), (aD a0_2), .own 1048 (0 + (x7).toNat + 1 + (a0_3.length - (x7).toNat))]), (8, .box [.nil, .nil, .nil, .nil]), (1048, .arr 52 4 ((((([] : List aA) ++ (a0_3.take (x7).toNat)) ++ ([(⟨aV ByteArray.empty l1 1, aV ByteArray.empty l1 3, aV ByteArray.empty l1 2, aV ByteArray.empty l1 4⟩ : aA)] : List aA)) ++ (a0_3.drop (x7).toNat)).map aG))] rfl ⟨.inl rfl, ⟨.inl rfl, trivial⟩⟩ ⟨rfl, ⟨rfl, ⟨fm_, trivial⟩⟩⟩ ?_)))))))))))))
  cases H
  exact eY [1048] (cF (fM (bH (fG rfl) (bH (fG rfl) (bH (fG rfl) (bH (iU rfl lm_ lm_ rfl) (fN)))))) (cF (fX rfl) (eJ)))
  refine Br.f ff_ (Br.f ff_ (Br.f ff_ (Br.f ff_ (Br.f ff_ (Br.f ff_ (Br.f ff_ (Br.f ff_ (Br.f ff_ (cu 944 [(2, .bp 0 0), (4, .bp 8 0), (6, .bp 640 0), (7, .int .i64 x7), (122, .bool false)] [(0, .box [(aM a0_0), (aF a0_1), (aD a0_2), (aE a0_3)]), (8, .box [.nil, .nil, .nil, .nil]), (640, .box [.str (aV ByteArray.empty l1 1), .str (aV ByteArray.empty l1 3), .str (aV ByteArray.empty l1 2), .str (aV ByteArray.empty l1 4)])] rfl rfl rfl (Br.f rfl (Or.inl (nd_ H (fun c H => (nd_ H (fun c H => (nd_ H (fun c H => (Or.inl (nd_ H (fun c H => (Nd.mk nf_ (Nd.mk nf_ (nd_ H (fun c H => (jW 1072 [(2, .bp 0 0), (4, .bp 8 0)] [(0, .box [(aM a0_0), (aF a0_1), (aD a0_2), .own 1048 (0 + (x7).toNat + 1 + (a0_3.length - (x7).toNat))]), (8, .box [.nil, .nil, .nil, .nil]), (1048, .arr 52 4 ((((([] : List aA) ++ (a0_3.take (x7).toNat)) ++ ([(⟨aV ByteArray.empty l1 1, aV ByteArray.empty l1 3, aV ByteArray.empty l1 2, aV ByteArray.empty l1 4⟩ : aA)] : List aA)) ++ (a0_3.drop (x7).toNat)).map aG))] rfl ⟨.inl rfl, ⟨.inl rfl, trivial⟩⟩ ⟨rfl, ⟨rfl, ⟨fm_, trivial⟩⟩⟩ ?_)))))))))))))))))))))))))
  cases H
  exact eY [1048] (cF (fM (bH (fG rfl) (bH (fG rfl) (bH (fG rfl) (bH (iU rfl lm_ lm_ rfl) (fN)))))) (cF (fX rfl) (eJ)))
  refine cu 696 [(2, .bp 0 0), (4, .bp 8 0), (6, .bp 640 0)] [(0, .box [(aM a0_0), (aF a0_1), (aD a0_2), (aE a0_3)]), (8, .box [.nil, .nil, .nil, .nil]), (640, .box [.str (aV ByteArray.empty l1 1), .str (aV ByteArray.empty l1 2), .str (aV ByteArray.empty l1 3), .str (aV ByteArray.empty l1 4)])] rfl rfl rfl (cu 704 [(2, .bp 0 0), (4, .bp 8 0), (6, .bp 640 0), (7, .int .i64 0)] [(0, .box [(aM a0_0), (aF a0_1), (aD a0_2), (aE a0_3)]), (8, .box [.nil, .nil, .nil, .nil]), (640, .box [.str (aV ByteArray.empty l1 1), .str (aV ByteArray.empty l1 2), .str (aV ByteArray.empty l1 3), .str (aV ByteArray.empty l1 4)])] rfl rfl rfl (cA.l1_lp (a0_0 := a0_0) (a0_1 := a0_1) (a0_2 := a0_2) (a0_3 := a0_3) (l1 := l1) (k := k) H [] (fq rfl rfl fi_ rfl) ?_))
  intro k x7_1 hk H; rcases k with _ | k; exact bC H; rw [cA.l1] at H
  refine bM H (fun c H => ?_) (fun c H => ?_)
  refine Br.t ft_ (Br.t ft_ (Br.t ft_ (nd_ H (fun c H => (Nd.mk nf_ (El.mk (bQ _ _ nf_ nf_) (Br.t ft_ (Br.t ft_ (Br.t ft_ (Br.t ft_ (Br.t ft_ (Br.t ft_ (cu 832 [(2, .bp 0 0), (4, .bp 8 0), (6, .bp 640 0), (7, .int .i64 x7_1), (122, .bool (Op.bytesLess ((aI a0_3 x7_1).f0).toList (aV ByteArray.empty l1 1).toList))] [(0, .box [(aM a0_0), (aF a0_1), (aD a0_2), (aE a0_3)]), (8, .box [.nil, .nil, .nil, .nil]), (640, .box [.str (aV ByteArray.empty l1 1), .str (aV ByteArray.empty l1 2), .str (aV ByteArray.empty l1 3), .str (aV ByteArray.empty l1 4)])] rfl rfl rfl (jF H (fun c H => ?_) (fun c H => ?_)))))))))))))))
  exact ⟨(k, wrap64 (x7_1 + 1)), [], ⟨H, lt_⟩, lt_, (fq rfl rfl fi_ rfl)⟩
  refine Or.inl (Nd.mk nf_ (nd_ H (fun c H => (nd_ H (fun c H => (Or.inl (nd_ H (fun c H => (Nd.mk nf_ (Nd.mk nf_ (nd_ H (fun c H => (jW 960 [(2, .bp 0 0), (4, .bp 8 0)] [(0, .box [(aM a0_0), (aF a0_1), (aD a0_2), .own 936 (0 + (x7_1).toNat + 1 + (a0_3.length - (x7_1).toNat))]), (8, .box [.nil, .nil, .nil, .nil]), (936, .arr 52 4 ((((([] : List aA) ++ (a0_3.take (x7_1).toNat)) ++ ([(⟨aV ByteArray.empty l1 1, aV ByteArray.empty l1 2, aV ByteArray.empty l1 3, aV ByteArray.empty l1 4⟩ : aA)] : List aA)) ++ (a0_3.drop (x7_1).toNat)).map aG))] rfl ⟨.inl rfl, ⟨.inl rfl, trivial⟩⟩ ⟨rfl, ⟨rfl, ⟨fm_, trivial⟩⟩⟩ ?_)))))))))))))
  cases H
  exact eY [936] (cF (fM (bH (fG rfl) (bH (fG rfl) (bH (fG rfl) (bH (iU rfl lm_ lm_ rfl) (fN)))))) (cF (fX rfl) (eJ)))
  refine Br.f ff_ (Br.f ff_ (Br.f ff_ (Br.f ff_ (Br.f ff_ (Br.f ff_ (Br.f ff_ (Br.f ff_ (Br.f ff_ (cu 832 [(2, .bp 0 0), (4, .bp 8 0), (6, .bp 640 0), (7, .int .i64 x7_1), (122, .bool false)] [(0, .box [(aM a0_0), (aF a0_1), (aD a0_2), (aE a0_3)]), (8, .box [.nil, .nil, .nil, .nil]), (640, .box [.str (aV ByteArray.empty l1 1), .str (aV ByteArray.empty l1 2), .str (aV ByteArray.empty l1 3), .str (aV ByteArray.empty l1 4)])] rfl rfl rfl (Br.f rfl (Or.inl (nd_ H (fun c H => (nd_ H (fun c H => (nd_ H (fun c H => (Or.inl (nd_ H (fun c H => (Nd.mk nf_ (Nd.mk nf_ (nd_ H (fun c H => (jW 960 [(2, .bp 0 0), (4, .bp 8 0)] [(0, .box [(aM a0_0), (aF a0_1), (aD a0_2), .own 936 (0 + (x7_1).toNat + 1 + (a0_3.length - (x7_1).toNat))]), (8, .box [.nil, .nil, .nil, .nil]), (936, .arr 52 4 ((((([] : List aA) ++ (a0_3.take (x7_1).toNat)) ++ ([(⟨aV ByteArray.empty l1 1, aV ByteArray.empty l1 2, aV ByteArray.empty l1 3, aV ByteArray.empty l1 4⟩ : aA)] : List aA)) ++ (a0_3.drop (x7_1).toNat)).map aG))] rfl ⟨.inl rfl, ⟨.inl rfl, trivial⟩⟩ ⟨rfl, ⟨rfl, ⟨fm_, trivial⟩⟩⟩ ?_)))))))))))))))))))))))))
  cases H
  exact eY [936] (cF (fM (bH (fG rfl) (bH (fG rfl) (bH (fG rfl) (bH (iU rfl lm_ lm_ rfl) (fN)))))) (cF (fX rfl) (eJ)))
  refine cu 368 [(4, .bp 8 0), (5, .int .i64 3)] [(8, .box [(aM a0_0), (aF a0_1), (aD a0_2), (aE a0_3)])] rfl rfl rfl ?_
  cases H
  exact rts rfl
  refine Br.t ft_ (Br.t ft_ (Br.t ft_ (Br.t ft_ (Br.t ft_ (Br.t ft_ (Br.t ft_ (Br.t rfl (Br.t rfl (Br.t rfl (Br.t rfl (Br.t rfl (Br.t rfl (cu 344 [(1, (aM l1)), (2, .bp 0 0), (4, .bp 8 0), (47, .bool true)] [(0, .box [(aM a0_0), (aF a0_1), (aD a0_2), (aE a0_3)]), (8, .box [.nil, .nil, .nil, .nil])] rfl rfl rfl (Br.t rfl (cu 368 [(4, .bp 8 0), (5, .int .i64 3)] [(8, .box [(aM a0_0), (aF a0_1), (aD a0_2), (aE a0_3)])] rfl rfl rfl ?_)))))))))))))))
  cases H
  exact rts rfl
  refine Br.t ft_ (Br.t ft_ (Br.t ft_ (Br.t ft_ (Br.t ft_ (Br.t rfl (Br.t rfl (Br.t rfl (Br.t rfl (Br.t rfl (Br.t rfl (Br.t rfl (Br.t rfl (Br.t rfl (Br.t rfl (Br.t rfl (Br.t rfl (Br.t rfl (Br.t rfl (cu 344 [(1, (aM l1)), (2, .bp 0 0), (4, .bp 8 0), (47, .bool true)] [(0, .box [(aM a0_0), (aF a0_1), (aD a0_2), (aE a0_3)]), (8, .box [.nil, .nil, .nil, .nil])] rfl rfl rfl (Br.t rfl (cu 368 [(4, .bp 8 0), (5, .int .i64 3)] [(8, .box [(aM a0_0), (aF a0_1), (aD a0_2), (aE a0_3)])] rfl rfl rfl ?_)))))))))))))))))))))
  cases H
  exact rts rfl
  refine Br.t ft_ (Br.t ft_ (Br.t ft_ (Br.t ft_ (Br.t ft_ (Br.t rfl (Br.t rfl (Br.t rfl (Br.t rfl (Br.t rfl (Br.t rfl (Br.t rfl (Br.t rfl (Br.t rfl (Br.t rfl (Br.t rfl (Br.t rfl (Br.t rfl (Br.t rfl (Br.t rfl (Br.t rfl (Br.t rfl (Br.t rfl (Br.t rfl ?_)))))))))))))))))))))))
  refine Br.t rfl (cu 344 [(1, (aM l1)), (2, .bp 0 0), (4, .bp 8 0), (47, .bool true)] [(0, .box [(aM a0_0), (aF a0_1), (aD a0_2), (aE a0_3)]), (8, .box [.nil, .nil, .nil, .nil])] rfl rfl rfl (Br.t rfl (cu 368 [(4, .bp 8 0), (5, .int .i64 3)] [(8, .box [(aM a0_0), (aF a0_1), (aD a0_2), (aE a0_3)])] rfl rfl rfl ?_)))
  cases H
  exact rts rfl
  refine Br.t ft_ (Br.t ft_ (Br.t ft_ (Br.t ft_ (Br.t ft_ (Br.t rfl (Br.t rfl (Br.t rfl (Br.t rfl (Br.t rfl (Br.t rfl (Br.t rfl (Br.t rfl (Br.t rfl (Br.t rfl (Br.t rfl (Br.t rfl (Br.t rfl (Br.t rfl (Br.t rfl (Br.t rfl (Br.t rfl (Br.t rfl (Br.t rfl ?_)))))))))))))))))))))))
  refine Br.t rfl (Br.t rfl (Br.t rfl (Br.t rfl (Br.t rfl (Br.t rfl (Br.t rfl (cu 344 [(1, (aM l1)), (2, .bp 0 0), (4, .bp 8 0), (47, .bool true)] [(0, .box [(aM a0_0), (aF a0_1), (aD a0_2), (aE a0_3)]), (8, .box [.nil, .nil, .nil, .nil])] rfl rfl rfl (Br.t rfl (cu 368 [(4, .bp 8 0), (5, .int .i64 3)] [(8, .box [(aM a0_0), (aF a0_1), (aD a0_2), (aE a0_3)])] rfl rfl rfl ?_)))))))))
  cases H
  exact rts rfl
theorem jE.ac {k : Nat} {a0_0 : List ByteArray} {a0_1 : List aC} {a0_2 : List aB} {a0_3 : List aA} {l1 : List ByteArray} {r : (List ByteArray) × (List aC) × (List aB) × (List aA) × Int} (H : jE.f k a0_0 a0_1 a0_2 a0_3 l1 = some r) : cI Tryz.prog G 44 [] [.agg [(aM a0_0), (aF a0_1), (aD a0_2), (aE a0_3)], (aM l1)] [] (.tup [.agg [(aM r.1), (aF r.2.1), (aD r.2.2.1), (aE r.2.2.2.1)], .int .i64 r.2.2.2.2]) := by
  refine bO tok hP Tryz.func44 rfl (by kernel_rfl) [.cell 4 28, .tmp 5] rfl (by kernel_rfl) (Nat.le_of_ble_eq_true rfl) (.l .n (.l (.l .n (.l .n (.l (.c .n .n) (.c .n (.l .n (.l .n (.l .n (.l .n (.l (.c .n .n) (.l .n (.l (.c .n .n) .n))))))))))) .n)) rfl ?_
  unfold jE.f at H
  refine Nd.mk (by decide) (nd_ H (fun c H => (El.mk (aX _ _ nf_ nf_) (bM H (fun c H => ?_) (fun c H => ?_)))))
  revert H; refine aN (fun t845 A H => (cmk (dJ.ac A) rfl rfl (cu 120 [(4, .bp 8 0), (5, .int .i64 t845.2.2.2.2)] [(8, .box [(aM t845.1), (aF t845.2.1), (aD t845.2.2.1), (aE t845.2.2.2.1)])] rfl rfl rfl ?_)))
  cases H
  exact rts rfl
  refine cu 80 [(1, (aM l1)), (2, .bp 0 0), (4, .bp 8 0), (8, .str (aV ByteArray.empty l1 0)), (16, .bool (decide ((aV ByteArray.empty l1 0).toList = (⟨#[102, 111, 101]⟩ : ByteArray).toList)))] [(0, .box [(aM a0_0), (aF a0_1), (aD a0_2), (aE a0_3)]), (8, .box [.nil, .nil, .nil, .nil])] rfl rfl rfl (bM H (fun c H => ?_) (fun c H => ?_))
  revert H; refine aN (fun t846 A H => (cmk (cP.ac A) rfl rfl ?_))
  cases H
  exact rts rfl
  refine bM H (fun c H => ?_) (fun c H => ?_)
  revert H; refine aN (fun t847 A H => (cmk (gO.ac A) rfl rfl ?_))
  cases H
  exact rts rfl
  refine bM H (fun c H => ?_) (fun c H => ?_)
  revert H; refine aN (fun t848 A H => (cmk (hY.ac A) rfl rfl (cu 168 [(4, .bp 8 0), (5, .int .i64 t848.2.2.2.2)] [(8, .box [(aM t848.1), (aF t848.2.1), (aD t848.2.2.1), (aE t848.2.2.2.1)])] rfl rfl rfl ?_)))
  cases H
  exact rts rfl
  refine bM H (fun c H => ?_) (fun c H => ?_)
  revert H; refine aN (fun t849 A H => (cmk (cA.ac A) rfl rfl (cu 184 [(4, .bp 8 0), (5, .int .i64 t849.2.2.2.2)] [(8, .box [(aM t849.1), (aF t849.2.1), (aD t849.2.2.1), (aE t849.2.2.2.1)])] rfl rfl rfl ?_)))
  cases H
  exact rts rfl
  cases H
  exact rts rfl
theorem cO.ac {k : Nat} {a0_0 : List ByteArray} {a0_1 : List aC} {a0_2 : List aB} {a0_3 : List aA} {l1 : List ByteArray} {r : (List ByteArray) × (List aC) × (List aB) × (List aA)} (H : cO.f k a0_0 a0_1 a0_2 a0_3 l1 = some r) : cI Tryz.prog G 71 [] [.agg [(aM a0_0), (aF a0_1), (aD a0_2), (aE a0_3)], (aM l1)] [] (.agg [(aM r.1), (aF r.2.1), (aD r.2.2.1), (aE r.2.2.2)]) := by
  refine bO tok hP Tryz.func71 rfl (by kernel_rfl) [.cell 4 28] rfl (by kernel_rfl) (Nat.le_of_ble_eq_true rfl) (.l .n (.c .n .n)) rfl ?_
  unfold cO.f at H
  revert H; refine aN (fun t862 A H => (cmk (jE.ac A) rfl rfl (cu 88 [(2, .bp 0 0), (4, .bp 8 0), (5, .bp 64 0), (6, .int .i64 t862.2.2.2.2)] [(0, .box [(aM a0_0), (aF a0_1), (aD a0_2), (aE a0_3)]), (8, .box [.nil, .nil, .nil, .nil]), (64, .box [(aM t862.1), (aF t862.2.1), (aD t862.2.2.1), (aE t862.2.2.2.1)])] rfl rfl rfl (iI H (fun c H => ?_) (fun c H => ?_)))))
  cases H
  exact pG [] (rta rfl)
  cases H
  exact pG [] (rta rfl)
theorem cD.ac_ : ∀ (k : Nat) (a0 : Int) (r : ByteArray), cD.f k a0 = some r → cI Tryz.prog G 20 [] [.int .i64 a0] [] (.str r)
  | 0, _, _, H => bC H
  | k + 1, a0, r, H => by
    refine bO tok hP Tryz.func20 rfl (by kernel_rfl) [.tmp 2] rfl (by kernel_rfl) (Nat.le_of_ble_eq_true rfl) (.l .n (.l .n (.c .n .n))) rfl ?_
    rw [cD.f] at H
    refine bM H (fun c H => ?_) (fun c H => ?_)
    refine Or.inl ?_
    cases H
    exact rz rfl
    refine Nd.mk (by decide) ?_
    revert H; refine aN (fun t1144 A H => (cmk (cD.ac_ _ _ _ A) rfl rfl (Nd.mk (by decide) (Or.inl (nd_ H (fun c H => (cu 112 [(2, .str (t1144 ++ (⟨#[UInt8.ofNat (IntKind.wrap .u8 (wrap64 (48 + (Int.tmod a0 10)))).toNat]⟩ : ByteArray)))] [] rfl rfl rfl ?_)))))))
    cases H
    exact rz rfl
theorem cD.ac {k : Nat} {a0 : Int} {r : ByteArray} (H : cD.f k a0 = some r) : cI Tryz.prog G 20 [] [.int .i64 a0] [] (.str r) := cD.ac_ _ _ _ H
theorem dD.ac {a0_0 : List ByteArray} {a0_1 : List aC} {a0_2 : List aB} {a0_3 : List aA} {r : (List ByteArray) × (List aC) × (List aB) × (List aA)} (H : dD.f a0_0 a0_1 a0_2 a0_3 = some r) : cI Tryz.prog G 45 [] [.agg [(aM a0_0), (aF a0_1), (aD a0_2), (aE a0_3)]] [] (.agg [(aM r.1), (aF r.2.1), (aD r.2.2.1), (aE r.2.2.2)]) := by
  refine bO tok hP Tryz.func45 rfl (by kernel_rfl) [.cell 2 28] rfl (by kernel_rfl) (Nat.le_of_ble_eq_true rfl) (.l .n (.c .n .n)) rfl ?_
  unfold dD.f at H
  refine Or.inl (nd_ H (fun c H => (Or.inl (nd_ H (fun c H => (Or.inl (nd_ H (fun c H => (Or.inl (nd_ H (fun c H => (jW 160 [(2, .bp 8 0)] [(8, .box [.own 40 (0 + a0_0.length), .own 72 (0 + a0_1.length), .own 104 (0 + a0_2.length), .own 136 (0 + a0_3.length)]), (40, .arr 9 1 ((([] : List ByteArray) ++ a0_0).map aW)), (72, .arr 47 2 ((([] : List aC) ++ a0_1).map aJ)), (104, .arr 49 3 ((([] : List aB) ++ a0_2).map aH)), (136, .arr 52 4 ((([] : List aA) ++ a0_3).map aG))] rfl ⟨.inl rfl, trivial⟩ ⟨rfl, ⟨fm_, ⟨fm_, ⟨fm_, ⟨fm_, trivial⟩⟩⟩⟩⟩ ?_))))))))))))
  cases H
  exact pG [40, 72, 104, 136] (fM (bH (iU rfl lm_ lm_ rfl) (bH (iU rfl lm_ lm_ rfl) (bH (iU rfl lm_ lm_ rfl) (bH (iU rfl lm_ lm_ rfl) (fN))))))
theorem dD.acO {a0_0 : List ByteArray} {a0_1 : List aC} {a0_2 : List aB} {a0_3 : List aA} {r : (List ByteArray) × (List aC) × (List aB) × (List aA)} (H : dD.f a0_0 a0_1 a0_2 a0_3 = some r) : cI Tryz.prog G 45 [] [.agg [(aM a0_0), (aF a0_1), (aD a0_2), (aE a0_3)]] [.arr 9 1 (r.1.map aW), .arr 47 2 (r.2.1.map aJ), .arr 49 3 (r.2.2.1.map aH), .arr 52 4 (r.2.2.2.map aG)] (.agg [.own 0 r.1.length, .own 1 r.2.1.length, .own 2 r.2.2.1.length, .own 3 r.2.2.2.length]) := by
  refine bO tok hP Tryz.func45 rfl (by kernel_rfl) [.cell 2 28] rfl (by kernel_rfl) (Nat.le_of_ble_eq_true rfl) (.l .n (.c .n .n)) rfl ?_
  unfold dD.f at H
  refine Or.inl (nd_ H (fun c H => (Or.inl (nd_ H (fun c H => (Or.inl (nd_ H (fun c H => (Or.inl (nd_ H (fun c H => (jW 160 [(2, .bp 8 0)] [(8, .box [.own 40 (0 + a0_0.length), .own 72 (0 + a0_1.length), .own 104 (0 + a0_2.length), .own 136 (0 + a0_3.length)]), (40, .arr 9 1 ((([] : List ByteArray) ++ a0_0).map aW)), (72, .arr 47 2 ((([] : List aC) ++ a0_1).map aJ)), (104, .arr 49 3 ((([] : List aB) ++ a0_2).map aH)), (136, .arr 52 4 ((([] : List aA) ++ a0_3).map aG))] rfl ⟨.inl rfl, trivial⟩ ⟨rfl, ⟨fm_, ⟨fm_, ⟨fm_, ⟨fm_, trivial⟩⟩⟩⟩⟩ ?_))))))))))))
  cases H
  exact fO [some 40, some 72, some 104, some 136] [] ((fM (bH (gA lm_) (bH (gA lm_) (bH (gA lm_) (bH (gA lm_) (fN))))))) ⟨rfl, ⟨rfl, ⟨rfl, ⟨rfl, trivial⟩⟩⟩⟩ rfl
theorem aL.j0_sq {F : (Exit → St → Prop) → St → Prop} {hv : List Tmp} {K : St → Prop} {Q : Exit → St → Prop} {σ : St} {r : (List ByteArray) × (List aC) × (List aB) × (List aA) × (List Int) × Int} {KK : Nat} {x8 : Int} {x1017000_2 : List ByteArray} {x1017001_2 : List aC} {x1017002_2 : List aB} {x1017003_2 : List aA} {t8315 : ByteArray × (List Int) × Int}
    (h1 : F (fun e σ' => match e with | .normal => ∃ (y : Nat × Bool) (rn : List (Option Nat)), (aL.j0 y.1 x8 y.2 x1017000_2 x1017001_2 x1017002_2 x1017003_2 t8315 = some r ∧ y.1 < KK) ∧ cJ σ σ' [] [(74, .bool y.2)] [] [] rn | e => Q e σ') σ)
    (h2 : ∀ (k : Nat) (x74 : Bool), k < KK → aL.j0 k x8 x74 x1017000_2 x1017001_2 x1017002_2 x1017003_2 t8315 = some r → dE σ hv [] [(74, .bool x74)] [] [] K) : Sq F hv K Q σ := by
  unfold Sq
  refine ⟨Nat × Bool, fun x => aL.j0 x.1 x8 x.2 x1017000_2 x1017001_2 x1017002_2 x1017003_2 t8315 = some r ∧ x.1 < KK, [], fun x => [(74, .bool x.2)], fun x => [], fun x => [], h1, ?_⟩
  rintro ⟨k, x74⟩ ⟨H, hk⟩
  exact h2 k x74 hk H
theorem aL.l5_lp {F : (Exit → St → Prop) → St → Prop} {hv : List Tmp} {Q : Exit → St → Prop} {σ : St} {r : (List ByteArray) × (List aC) × (List aB) × (List aA) × (List Int) × Int} {k : Nat} {x12 : Int} {x1000000_4 : List Int} {x1000001_4 : Int} {x1017000_5 : List ByteArray} {x1017001_5 : List aC} {x1017002_5 : List aB} {x1017003_5 : List aA} (H : aL.l5 k x12 x1000000_4 x1000001_4 x1017000_5 x1017001_5 x1017002_5 x1017003_5 = some r) (rn : List (Option Nat)) (h1 : cJ σ σ [0, 17] [(12, .int .i64 x12)] [(0, .box [(bV x1000000_4), .int .i64 x1000001_4]), (17, .box [(aM x1017000_5), (aF x1017001_5), (aD x1017002_5), (aE x1017003_5)])] [] rn)
    (h2 : ∀ (k0 : Nat) (x12 : Int) (x1000000_4 : List Int) (x1000001_4 : Int) (x1017000_5 : List ByteArray) (x1017001_5 : List aC) (x1017002_5 : List aB) (x1017003_5 : List aA), k0 < k + 1 → aL.l5 k0 x12 x1000000_4 x1000001_4 x1017000_5 x1017001_5 x1017002_5 x1017003_5 = some r → dE σ hv [0, 17] [(12, .int .i64 x12)] [(0, .box [(bV x1000000_4), .int .i64 x1000001_4]), (17, .box [(aM x1017000_5), (aF x1017001_5), (aD x1017002_5), (aE x1017003_5)])] [] (F (fun e σ' => match e with | .normal => ∃ (y : Nat × Int × (List Int) × Int × (List ByteArray) × (List aC) × (List aB) × (List aA)) (rn : List (Option Nat)), (aL.l5 y.1 y.2.1 y.2.2.1 y.2.2.2.1 y.2.2.2.2.1 y.2.2.2.2.2.1 y.2.2.2.2.2.2.1 y.2.2.2.2.2.2.2 = some r ∧ y.1 < k + 1) ∧ y.1 < k0 ∧ cJ σ σ' [0, 17] [(12, .int .i64 y.2.1)] [(0, .box [(bV y.2.2.1), .int .i64 y.2.2.2.1]), (17, .box [(aM y.2.2.2.2.1), (aF y.2.2.2.2.2.1), (aD y.2.2.2.2.2.2.1), (aE y.2.2.2.2.2.2.2)])] [] rn | e => Q e σ'))) : Lp F hv Q σ := by
  unfold Lp
  refine ⟨Nat × Int × (List Int) × Int × (List ByteArray) × (List aC) × (List aB) × (List aA), fun x => aL.l5 x.1 x.2.1 x.2.2.1 x.2.2.2.1 x.2.2.2.2.1 x.2.2.2.2.2.1 x.2.2.2.2.2.2.1 x.2.2.2.2.2.2.2 = some r ∧ x.1 < k + 1, fun x => x.1, [0, 17], fun x => [(12, .int .i64 x.2.1)], fun x => [(0, .box [(bV x.2.2.1), .int .i64 x.2.2.2.1]), (17, .box [(aM x.2.2.2.2.1), (aF x.2.2.2.2.2.1), (aD x.2.2.2.2.2.2.1), (aE x.2.2.2.2.2.2.2)])], fun x => [], ⟨(k, x12, x1000000_4, x1000001_4, x1017000_5, x1017001_5, x1017002_5, x1017003_5), rn, ⟨H, Nat.lt_succ_self _⟩, h1⟩, ?_⟩
  rintro ⟨k, x12, x1000000_4, x1000001_4, x1017000_5, x1017001_5, x1017002_5, x1017003_5⟩ ⟨H, hk⟩
  exact h2 k x12 x1000000_4 x1000001_4 x1017000_5 x1017001_5 x1017002_5 x1017003_5 hk H
theorem aL.l4_lp {F : (Exit → St → Prop) → St → Prop} {hv : List Tmp} {Q : Exit → St → Prop} {σ : St} {r : (List ByteArray) × (List aC) × (List aB) × (List aA) × (List Int) × Int} {k : Nat} {t8345 : Int × (List Int) × Int} {x11 : Int} {x1017000_4 : List ByteArray} {x1017001_4 : List aC} {x1017002_4 : List aB} {x1017003_4 : List aA} (H : aL.l4 k x11 x1017000_4 x1017001_4 x1017002_4 x1017003_4 t8345 = some r) (rn : List (Option Nat)) (h1 : cJ σ σ [17] [(11, .int .i64 x11)] [(17, .box [(aM x1017000_4), (aF x1017001_4), (aD x1017002_4), (aE x1017003_4)])] [] rn)
    (h2 : ∀ (k0 : Nat) (x11 : Int) (x1017000_4 : List ByteArray) (x1017001_4 : List aC) (x1017002_4 : List aB) (x1017003_4 : List aA), k0 < k + 1 → aL.l4 k0 x11 x1017000_4 x1017001_4 x1017002_4 x1017003_4 t8345 = some r → dE σ hv [17] [(11, .int .i64 x11)] [(17, .box [(aM x1017000_4), (aF x1017001_4), (aD x1017002_4), (aE x1017003_4)])] [] (F (fun e σ' => match e with | .normal => ∃ (y : Nat × Int × (List ByteArray) × (List aC) × (List aB) × (List aA)) (rn : List (Option Nat)), (aL.l4 y.1 y.2.1 y.2.2.1 y.2.2.2.1 y.2.2.2.2.1 y.2.2.2.2.2 t8345 = some r ∧ y.1 < k + 1) ∧ y.1 < k0 ∧ cJ σ σ' [17] [(11, .int .i64 y.2.1)] [(17, .box [(aM y.2.2.1), (aF y.2.2.2.1), (aD y.2.2.2.2.1), (aE y.2.2.2.2.2)])] [] rn | e => Q e σ'))) : Lp F hv Q σ := by
  unfold Lp
  refine ⟨Nat × Int × (List ByteArray) × (List aC) × (List aB) × (List aA), fun x => aL.l4 x.1 x.2.1 x.2.2.1 x.2.2.2.1 x.2.2.2.2.1 x.2.2.2.2.2 t8345 = some r ∧ x.1 < k + 1, fun x => x.1, [17], fun x => [(11, .int .i64 x.2.1)], fun x => [(17, .box [(aM x.2.2.1), (aF x.2.2.2.1), (aD x.2.2.2.2.1), (aE x.2.2.2.2.2)])], fun x => [], ⟨(k, x11, x1017000_4, x1017001_4, x1017002_4, x1017003_4), rn, ⟨H, Nat.lt_succ_self _⟩, h1⟩, ?_⟩
  rintro ⟨k, x11, x1017000_4, x1017001_4, x1017002_4, x1017003_4⟩ ⟨H, hk⟩
  exact h2 k x11 x1017000_4 x1017001_4 x1017002_4 x1017003_4 hk H
theorem aL.l7_lp {F : (Exit → St → Prop) → St → Prop} {hv : List Tmp} {Q : Exit → St → Prop} {σ : St} {r : (List ByteArray) × (List aC) × (List aB) × (List aA) × (List Int) × Int} {k : Nat} {x12_1 : Int} {x1000000_5 : List Int} {x1000001_5 : Int} {x1017000_7 : List ByteArray} {x1017001_7 : List aC} {x1017002_7 : List aB} {x1017003_7 : List aA} (H : aL.l7 k x12_1 x1000000_5 x1000001_5 x1017000_7 x1017001_7 x1017002_7 x1017003_7 = some r) (rn : List (Option Nat)) (h1 : cJ σ σ [0, 17] [(12, .int .i64 x12_1)] [(0, .box [(bV x1000000_5), .int .i64 x1000001_5]), (17, .box [(aM x1017000_7), (aF x1017001_7), (aD x1017002_7), (aE x1017003_7)])] [] rn)
    (h2 : ∀ (k0 : Nat) (x12_1 : Int) (x1000000_5 : List Int) (x1000001_5 : Int) (x1017000_7 : List ByteArray) (x1017001_7 : List aC) (x1017002_7 : List aB) (x1017003_7 : List aA), k0 < k + 1 → aL.l7 k0 x12_1 x1000000_5 x1000001_5 x1017000_7 x1017001_7 x1017002_7 x1017003_7 = some r → dE σ hv [0, 17] [(12, .int .i64 x12_1)] [(0, .box [(bV x1000000_5), .int .i64 x1000001_5]), (17, .box [(aM x1017000_7), (aF x1017001_7), (aD x1017002_7), (aE x1017003_7)])] [] (F (fun e σ' => match e with | .normal => ∃ (y : Nat × Int × (List Int) × Int × (List ByteArray) × (List aC) × (List aB) × (List aA)) (rn : List (Option Nat)), (aL.l7 y.1 y.2.1 y.2.2.1 y.2.2.2.1 y.2.2.2.2.1 y.2.2.2.2.2.1 y.2.2.2.2.2.2.1 y.2.2.2.2.2.2.2 = some r ∧ y.1 < k + 1) ∧ y.1 < k0 ∧ cJ σ σ' [0, 17] [(12, .int .i64 y.2.1)] [(0, .box [(bV y.2.2.1), .int .i64 y.2.2.2.1]), (17, .box [(aM y.2.2.2.2.1), (aF y.2.2.2.2.2.1), (aD y.2.2.2.2.2.2.1), (aE y.2.2.2.2.2.2.2)])] [] rn | e => Q e σ'))) : Lp F hv Q σ := by
  unfold Lp
  refine ⟨Nat × Int × (List Int) × Int × (List ByteArray) × (List aC) × (List aB) × (List aA), fun x => aL.l7 x.1 x.2.1 x.2.2.1 x.2.2.2.1 x.2.2.2.2.1 x.2.2.2.2.2.1 x.2.2.2.2.2.2.1 x.2.2.2.2.2.2.2 = some r ∧ x.1 < k + 1, fun x => x.1, [0, 17], fun x => [(12, .int .i64 x.2.1)], fun x => [(0, .box [(bV x.2.2.1), .int .i64 x.2.2.2.1]), (17, .box [(aM x.2.2.2.2.1), (aF x.2.2.2.2.2.1), (aD x.2.2.2.2.2.2.1), (aE x.2.2.2.2.2.2.2)])], fun x => [], ⟨(k, x12_1, x1000000_5, x1000001_5, x1017000_7, x1017001_7, x1017002_7, x1017003_7), rn, ⟨H, Nat.lt_succ_self _⟩, h1⟩, ?_⟩
  rintro ⟨k, x12_1, x1000000_5, x1000001_5, x1017000_7, x1017001_7, x1017002_7, x1017003_7⟩ ⟨H, hk⟩
  exact h2 k x12_1 x1000000_5 x1000001_5 x1017000_7 x1017001_7 x1017002_7 x1017003_7 hk H
theorem aL.l6_lp {F : (Exit → St → Prop) → St → Prop} {hv : List Tmp} {Q : Exit → St → Prop} {σ : St} {r : (List ByteArray) × (List aC) × (List aB) × (List aA) × (List Int) × Int} {k : Nat} {t8364 : Int × (List Int) × Int} {x11_1 : Int} {x1017000_6 : List ByteArray} {x1017001_6 : List aC} {x1017002_6 : List aB} {x1017003_6 : List aA} (H : aL.l6 k x11_1 x1017000_6 x1017001_6 x1017002_6 x1017003_6 t8364 = some r) (rn : List (Option Nat)) (h1 : cJ σ σ [17] [(11, .int .i64 x11_1)] [(17, .box [(aM x1017000_6), (aF x1017001_6), (aD x1017002_6), (aE x1017003_6)])] [] rn)
    (h2 : ∀ (k0 : Nat) (x11_1 : Int) (x1017000_6 : List ByteArray) (x1017001_6 : List aC) (x1017002_6 : List aB) (x1017003_6 : List aA), k0 < k + 1 → aL.l6 k0 x11_1 x1017000_6 x1017001_6 x1017002_6 x1017003_6 t8364 = some r → dE σ hv [17] [(11, .int .i64 x11_1)] [(17, .box [(aM x1017000_6), (aF x1017001_6), (aD x1017002_6), (aE x1017003_6)])] [] (F (fun e σ' => match e with | .normal => ∃ (y : Nat × Int × (List ByteArray) × (List aC) × (List aB) × (List aA)) (rn : List (Option Nat)), (aL.l6 y.1 y.2.1 y.2.2.1 y.2.2.2.1 y.2.2.2.2.1 y.2.2.2.2.2 t8364 = some r ∧ y.1 < k + 1) ∧ y.1 < k0 ∧ cJ σ σ' [17] [(11, .int .i64 y.2.1)] [(17, .box [(aM y.2.2.1), (aF y.2.2.2.1), (aD y.2.2.2.2.1), (aE y.2.2.2.2.2)])] [] rn | e => Q e σ'))) : Lp F hv Q σ := by
  unfold Lp
  refine ⟨Nat × Int × (List ByteArray) × (List aC) × (List aB) × (List aA), fun x => aL.l6 x.1 x.2.1 x.2.2.1 x.2.2.2.1 x.2.2.2.2.1 x.2.2.2.2.2 t8364 = some r ∧ x.1 < k + 1, fun x => x.1, [17], fun x => [(11, .int .i64 x.2.1)], fun x => [(17, .box [(aM x.2.2.1), (aF x.2.2.2.1), (aD x.2.2.2.2.1), (aE x.2.2.2.2.2)])], fun x => [], ⟨(k, x11_1, x1017000_6, x1017001_6, x1017002_6, x1017003_6), rn, ⟨H, Nat.lt_succ_self _⟩, h1⟩, ?_⟩
  rintro ⟨k, x11_1, x1017000_6, x1017001_6, x1017002_6, x1017003_6⟩ ⟨H, hk⟩
  exact h2 k x11_1 x1017000_6 x1017001_6 x1017002_6 x1017003_6 hk H
theorem aL.l3_lp {F : (Exit → St → Prop) → St → Prop} {hv : List Tmp} {Q : Exit → St → Prop} {σ : St} {r : (List ByteArray) × (List aC) × (List aB) × (List aA) × (List Int) × Int} {k : Nat} {x10 : Int} {x1000000_3 : List Int} {x1000001_3 : Int} {x1017000_3 : List ByteArray} {x1017001_3 : List aC} {x1017002_3 : List aB} {x1017003_3 : List aA} (H : aL.l3 k x10 x1000000_3 x1000001_3 x1017000_3 x1017001_3 x1017002_3 x1017003_3 = some r) (rn : List (Option Nat)) (h1 : cJ σ σ [0, 17, 182] [(10, .int .i64 x10)] [(0, .box [(bV x1000000_3), .int .i64 x1000001_3]), (17, .box [(aM x1017000_3), (aF x1017001_3), (aD x1017002_3), (aE x1017003_3)])] [] rn)
    (h2 : ∀ (k0 : Nat) (x10 : Int) (x1000000_3 : List Int) (x1000001_3 : Int) (x1017000_3 : List ByteArray) (x1017001_3 : List aC) (x1017002_3 : List aB) (x1017003_3 : List aA), k0 < k + 1 → aL.l3 k0 x10 x1000000_3 x1000001_3 x1017000_3 x1017001_3 x1017002_3 x1017003_3 = some r → dE σ hv [0, 17, 182] [(10, .int .i64 x10)] [(0, .box [(bV x1000000_3), .int .i64 x1000001_3]), (17, .box [(aM x1017000_3), (aF x1017001_3), (aD x1017002_3), (aE x1017003_3)])] [] (F (fun e σ' => match e with | .normal => ∃ (y : Nat × Int × (List Int) × Int × (List ByteArray) × (List aC) × (List aB) × (List aA)) (rn : List (Option Nat)), (aL.l3 y.1 y.2.1 y.2.2.1 y.2.2.2.1 y.2.2.2.2.1 y.2.2.2.2.2.1 y.2.2.2.2.2.2.1 y.2.2.2.2.2.2.2 = some r ∧ y.1 < k + 1) ∧ y.1 < k0 ∧ cJ σ σ' [0, 17, 182] [(10, .int .i64 y.2.1)] [(0, .box [(bV y.2.2.1), .int .i64 y.2.2.2.1]), (17, .box [(aM y.2.2.2.2.1), (aF y.2.2.2.2.2.1), (aD y.2.2.2.2.2.2.1), (aE y.2.2.2.2.2.2.2)])] [] rn | e => Q e σ'))) : Lp F hv Q σ := by
  unfold Lp
  refine ⟨Nat × Int × (List Int) × Int × (List ByteArray) × (List aC) × (List aB) × (List aA), fun x => aL.l3 x.1 x.2.1 x.2.2.1 x.2.2.2.1 x.2.2.2.2.1 x.2.2.2.2.2.1 x.2.2.2.2.2.2.1 x.2.2.2.2.2.2.2 = some r ∧ x.1 < k + 1, fun x => x.1, [0, 17, 182], fun x => [(10, .int .i64 x.2.1)], fun x => [(0, .box [(bV x.2.2.1), .int .i64 x.2.2.2.1]), (17, .box [(aM x.2.2.2.2.1), (aF x.2.2.2.2.2.1), (aD x.2.2.2.2.2.2.1), (aE x.2.2.2.2.2.2.2)])], fun x => [], ⟨(k, x10, x1000000_3, x1000001_3, x1017000_3, x1017001_3, x1017002_3, x1017003_3), rn, ⟨H, Nat.lt_succ_self _⟩, h1⟩, ?_⟩
  rintro ⟨k, x10, x1000000_3, x1000001_3, x1017000_3, x1017001_3, x1017002_3, x1017003_3⟩ ⟨H, hk⟩
  exact h2 k x10 x1000000_3 x1000001_3 x1017000_3 x1017001_3 x1017002_3 x1017003_3 hk H
theorem aL.l2_lp {F : (Exit → St → Prop) → St → Prop} {hv : List Tmp} {Q : Exit → St → Prop} {σ : St} {r : (List ByteArray) × (List aC) × (List aB) × (List aA) × (List Int) × Int} {k : Nat} {x8 : Int} {x1000000_2 : List Int} {x1000001_2 : Int} {x1017000_2 : List ByteArray} {x1017001_2 : List aC} {x1017002_2 : List aB} {x1017003_2 : List aA} (H : aL.l2 k x8 x1000000_2 x1000001_2 x1017000_2 x1017001_2 x1017002_2 x1017003_2 = some r) (rn : List (Option Nat)) (h1 : cJ σ σ [0, 17] [(8, .int .i64 x8)] [(0, .box [(bV x1000000_2), .int .i64 x1000001_2]), (17, .box [(aM x1017000_2), (aF x1017001_2), (aD x1017002_2), (aE x1017003_2)])] [] rn)
    (h2 : ∀ (k0 : Nat) (x8 : Int) (x1000000_2 : List Int) (x1000001_2 : Int) (x1017000_2 : List ByteArray) (x1017001_2 : List aC) (x1017002_2 : List aB) (x1017003_2 : List aA), k0 < k + 1 → aL.l2 k0 x8 x1000000_2 x1000001_2 x1017000_2 x1017001_2 x1017002_2 x1017003_2 = some r → dE σ hv [0, 17] [(8, .int .i64 x8)] [(0, .box [(bV x1000000_2), .int .i64 x1000001_2]), (17, .box [(aM x1017000_2), (aF x1017001_2), (aD x1017002_2), (aE x1017003_2)])] [] (F (fun e σ' => match e with | .normal => ∃ (y : Nat × Int × (List Int) × Int × (List ByteArray) × (List aC) × (List aB) × (List aA)) (rn : List (Option Nat)), (aL.l2 y.1 y.2.1 y.2.2.1 y.2.2.2.1 y.2.2.2.2.1 y.2.2.2.2.2.1 y.2.2.2.2.2.2.1 y.2.2.2.2.2.2.2 = some r ∧ y.1 < k + 1) ∧ y.1 < k0 ∧ cJ σ σ' [0, 17] [(8, .int .i64 y.2.1)] [(0, .box [(bV y.2.2.1), .int .i64 y.2.2.2.1]), (17, .box [(aM y.2.2.2.2.1), (aF y.2.2.2.2.2.1), (aD y.2.2.2.2.2.2.1), (aE y.2.2.2.2.2.2.2)])] [] rn | e => Q e σ'))) : Lp F hv Q σ := by
  unfold Lp
  refine ⟨Nat × Int × (List Int) × Int × (List ByteArray) × (List aC) × (List aB) × (List aA), fun x => aL.l2 x.1 x.2.1 x.2.2.1 x.2.2.2.1 x.2.2.2.2.1 x.2.2.2.2.2.1 x.2.2.2.2.2.2.1 x.2.2.2.2.2.2.2 = some r ∧ x.1 < k + 1, fun x => x.1, [0, 17], fun x => [(8, .int .i64 x.2.1)], fun x => [(0, .box [(bV x.2.2.1), .int .i64 x.2.2.2.1]), (17, .box [(aM x.2.2.2.2.1), (aF x.2.2.2.2.2.1), (aD x.2.2.2.2.2.2.1), (aE x.2.2.2.2.2.2.2)])], fun x => [], ⟨(k, x8, x1000000_2, x1000001_2, x1017000_2, x1017001_2, x1017002_2, x1017003_2), rn, ⟨H, Nat.lt_succ_self _⟩, h1⟩, ?_⟩
  rintro ⟨k, x8, x1000000_2, x1000001_2, x1017000_2, x1017001_2, x1017002_2, x1017003_2⟩ ⟨H, hk⟩
  exact h2 k x8 x1000000_2 x1000001_2 x1017000_2 x1017001_2 x1017002_2 x1017003_2 hk H
theorem aL.j1_sq {F : (Exit → St → Prop) → St → Prop} {hv : List Tmp} {K : St → Prop} {Q : Exit → St → Prop} {σ : St} {r : (List ByteArray) × (List aC) × (List aB) × (List aA) × (List Int) × Int} {KK : Nat} {x8_1 : Int} {x1017000_8 : List ByteArray} {x1017001_8 : List aC} {x1017002_8 : List aB} {x1017003_8 : List aA} {t8388 : ByteArray × (List Int) × Int}
    (h1 : F (fun e σ' => match e with | .normal => ∃ (y : Nat × Bool) (rn : List (Option Nat)), (aL.j1 y.1 x8_1 y.2 x1017000_8 x1017001_8 x1017002_8 x1017003_8 t8388 = some r ∧ y.1 < KK) ∧ cJ σ σ' [] [(74, .bool y.2)] [] [] rn | e => Q e σ') σ)
    (h2 : ∀ (k : Nat) (x74_1 : Bool), k < KK → aL.j1 k x8_1 x74_1 x1017000_8 x1017001_8 x1017002_8 x1017003_8 t8388 = some r → dE σ hv [] [(74, .bool x74_1)] [] [] K) : Sq F hv K Q σ := by
  unfold Sq
  refine ⟨Nat × Bool, fun x => aL.j1 x.1 x8_1 x.2 x1017000_8 x1017001_8 x1017002_8 x1017003_8 t8388 = some r ∧ x.1 < KK, [], fun x => [(74, .bool x.2)], fun x => [], fun x => [], h1, ?_⟩
  rintro ⟨k, x74_1⟩ ⟨H, hk⟩
  exact h2 k x74_1 hk H
theorem aL.l11_lp {F : (Exit → St → Prop) → St → Prop} {hv : List Tmp} {Q : Exit → St → Prop} {σ : St} {r : (List ByteArray) × (List aC) × (List aB) × (List aA) × (List Int) × Int} {k : Nat} {x12_2 : Int} {x1000000_8 : List Int} {x1000001_8 : Int} {x1017000_11 : List ByteArray} {x1017001_11 : List aC} {x1017002_11 : List aB} {x1017003_11 : List aA} (H : aL.l11 k x12_2 x1000000_8 x1000001_8 x1017000_11 x1017001_11 x1017002_11 x1017003_11 = some r) (rn : List (Option Nat)) (h1 : cJ σ σ [0, 17] [(12, .int .i64 x12_2)] [(0, .box [(bV x1000000_8), .int .i64 x1000001_8]), (17, .box [(aM x1017000_11), (aF x1017001_11), (aD x1017002_11), (aE x1017003_11)])] [] rn)
    (h2 : ∀ (k0 : Nat) (x12_2 : Int) (x1000000_8 : List Int) (x1000001_8 : Int) (x1017000_11 : List ByteArray) (x1017001_11 : List aC) (x1017002_11 : List aB) (x1017003_11 : List aA), k0 < k + 1 → aL.l11 k0 x12_2 x1000000_8 x1000001_8 x1017000_11 x1017001_11 x1017002_11 x1017003_11 = some r → dE σ hv [0, 17] [(12, .int .i64 x12_2)] [(0, .box [(bV x1000000_8), .int .i64 x1000001_8]), (17, .box [(aM x1017000_11), (aF x1017001_11), (aD x1017002_11), (aE x1017003_11)])] [] (F (fun e σ' => match e with | .normal => ∃ (y : Nat × Int × (List Int) × Int × (List ByteArray) × (List aC) × (List aB) × (List aA)) (rn : List (Option Nat)), (aL.l11 y.1 y.2.1 y.2.2.1 y.2.2.2.1 y.2.2.2.2.1 y.2.2.2.2.2.1 y.2.2.2.2.2.2.1 y.2.2.2.2.2.2.2 = some r ∧ y.1 < k + 1) ∧ y.1 < k0 ∧ cJ σ σ' [0, 17] [(12, .int .i64 y.2.1)] [(0, .box [(bV y.2.2.1), .int .i64 y.2.2.2.1]), (17, .box [(aM y.2.2.2.2.1), (aF y.2.2.2.2.2.1), (aD y.2.2.2.2.2.2.1), (aE y.2.2.2.2.2.2.2)])] [] rn | e => Q e σ'))) : Lp F hv Q σ := by
  unfold Lp
  refine ⟨Nat × Int × (List Int) × Int × (List ByteArray) × (List aC) × (List aB) × (List aA), fun x => aL.l11 x.1 x.2.1 x.2.2.1 x.2.2.2.1 x.2.2.2.2.1 x.2.2.2.2.2.1 x.2.2.2.2.2.2.1 x.2.2.2.2.2.2.2 = some r ∧ x.1 < k + 1, fun x => x.1, [0, 17], fun x => [(12, .int .i64 x.2.1)], fun x => [(0, .box [(bV x.2.2.1), .int .i64 x.2.2.2.1]), (17, .box [(aM x.2.2.2.2.1), (aF x.2.2.2.2.2.1), (aD x.2.2.2.2.2.2.1), (aE x.2.2.2.2.2.2.2)])], fun x => [], ⟨(k, x12_2, x1000000_8, x1000001_8, x1017000_11, x1017001_11, x1017002_11, x1017003_11), rn, ⟨H, Nat.lt_succ_self _⟩, h1⟩, ?_⟩
  rintro ⟨k, x12_2, x1000000_8, x1000001_8, x1017000_11, x1017001_11, x1017002_11, x1017003_11⟩ ⟨H, hk⟩
  exact h2 k x12_2 x1000000_8 x1000001_8 x1017000_11 x1017001_11 x1017002_11 x1017003_11 hk H
theorem aL.l10_lp {F : (Exit → St → Prop) → St → Prop} {hv : List Tmp} {Q : Exit → St → Prop} {σ : St} {r : (List ByteArray) × (List aC) × (List aB) × (List aA) × (List Int) × Int} {k : Nat} {t8418 : Int × (List Int) × Int} {x11_2 : Int} {x1017000_10 : List ByteArray} {x1017001_10 : List aC} {x1017002_10 : List aB} {x1017003_10 : List aA} (H : aL.l10 k x11_2 x1017000_10 x1017001_10 x1017002_10 x1017003_10 t8418 = some r) (rn : List (Option Nat)) (h1 : cJ σ σ [17] [(11, .int .i64 x11_2)] [(17, .box [(aM x1017000_10), (aF x1017001_10), (aD x1017002_10), (aE x1017003_10)])] [] rn)
    (h2 : ∀ (k0 : Nat) (x11_2 : Int) (x1017000_10 : List ByteArray) (x1017001_10 : List aC) (x1017002_10 : List aB) (x1017003_10 : List aA), k0 < k + 1 → aL.l10 k0 x11_2 x1017000_10 x1017001_10 x1017002_10 x1017003_10 t8418 = some r → dE σ hv [17] [(11, .int .i64 x11_2)] [(17, .box [(aM x1017000_10), (aF x1017001_10), (aD x1017002_10), (aE x1017003_10)])] [] (F (fun e σ' => match e with | .normal => ∃ (y : Nat × Int × (List ByteArray) × (List aC) × (List aB) × (List aA)) (rn : List (Option Nat)), (aL.l10 y.1 y.2.1 y.2.2.1 y.2.2.2.1 y.2.2.2.2.1 y.2.2.2.2.2 t8418 = some r ∧ y.1 < k + 1) ∧ y.1 < k0 ∧ cJ σ σ' [17] [(11, .int .i64 y.2.1)] [(17, .box [(aM y.2.2.1), (aF y.2.2.2.1), (aD y.2.2.2.2.1), (aE y.2.2.2.2.2)])] [] rn | e => Q e σ'))) : Lp F hv Q σ := by
  unfold Lp
  refine ⟨Nat × Int × (List ByteArray) × (List aC) × (List aB) × (List aA), fun x => aL.l10 x.1 x.2.1 x.2.2.1 x.2.2.2.1 x.2.2.2.2.1 x.2.2.2.2.2 t8418 = some r ∧ x.1 < k + 1, fun x => x.1, [17], fun x => [(11, .int .i64 x.2.1)], fun x => [(17, .box [(aM x.2.2.1), (aF x.2.2.2.1), (aD x.2.2.2.2.1), (aE x.2.2.2.2.2)])], fun x => [], ⟨(k, x11_2, x1017000_10, x1017001_10, x1017002_10, x1017003_10), rn, ⟨H, Nat.lt_succ_self _⟩, h1⟩, ?_⟩
  rintro ⟨k, x11_2, x1017000_10, x1017001_10, x1017002_10, x1017003_10⟩ ⟨H, hk⟩
  exact h2 k x11_2 x1017000_10 x1017001_10 x1017002_10 x1017003_10 hk H
theorem aL.l13_lp {F : (Exit → St → Prop) → St → Prop} {hv : List Tmp} {Q : Exit → St → Prop} {σ : St} {r : (List ByteArray) × (List aC) × (List aB) × (List aA) × (List Int) × Int} {k : Nat} {x12_3 : Int} {x1000000_9 : List Int} {x1000001_9 : Int} {x1017000_13 : List ByteArray} {x1017001_13 : List aC} {x1017002_13 : List aB} {x1017003_13 : List aA} (H : aL.l13 k x12_3 x1000000_9 x1000001_9 x1017000_13 x1017001_13 x1017002_13 x1017003_13 = some r) (rn : List (Option Nat)) (h1 : cJ σ σ [0, 17] [(12, .int .i64 x12_3)] [(0, .box [(bV x1000000_9), .int .i64 x1000001_9]), (17, .box [(aM x1017000_13), (aF x1017001_13), (aD x1017002_13), (aE x1017003_13)])] [] rn)
    (h2 : ∀ (k0 : Nat) (x12_3 : Int) (x1000000_9 : List Int) (x1000001_9 : Int) (x1017000_13 : List ByteArray) (x1017001_13 : List aC) (x1017002_13 : List aB) (x1017003_13 : List aA), k0 < k + 1 → aL.l13 k0 x12_3 x1000000_9 x1000001_9 x1017000_13 x1017001_13 x1017002_13 x1017003_13 = some r → dE σ hv [0, 17] [(12, .int .i64 x12_3)] [(0, .box [(bV x1000000_9), .int .i64 x1000001_9]), (17, .box [(aM x1017000_13), (aF x1017001_13), (aD x1017002_13), (aE x1017003_13)])] [] (F (fun e σ' => match e with | .normal => ∃ (y : Nat × Int × (List Int) × Int × (List ByteArray) × (List aC) × (List aB) × (List aA)) (rn : List (Option Nat)), (aL.l13 y.1 y.2.1 y.2.2.1 y.2.2.2.1 y.2.2.2.2.1 y.2.2.2.2.2.1 y.2.2.2.2.2.2.1 y.2.2.2.2.2.2.2 = some r ∧ y.1 < k + 1) ∧ y.1 < k0 ∧ cJ σ σ' [0, 17] [(12, .int .i64 y.2.1)] [(0, .box [(bV y.2.2.1), .int .i64 y.2.2.2.1]), (17, .box [(aM y.2.2.2.2.1), (aF y.2.2.2.2.2.1), (aD y.2.2.2.2.2.2.1), (aE y.2.2.2.2.2.2.2)])] [] rn | e => Q e σ'))) : Lp F hv Q σ := by
  unfold Lp
  refine ⟨Nat × Int × (List Int) × Int × (List ByteArray) × (List aC) × (List aB) × (List aA), fun x => aL.l13 x.1 x.2.1 x.2.2.1 x.2.2.2.1 x.2.2.2.2.1 x.2.2.2.2.2.1 x.2.2.2.2.2.2.1 x.2.2.2.2.2.2.2 = some r ∧ x.1 < k + 1, fun x => x.1, [0, 17], fun x => [(12, .int .i64 x.2.1)], fun x => [(0, .box [(bV x.2.2.1), .int .i64 x.2.2.2.1]), (17, .box [(aM x.2.2.2.2.1), (aF x.2.2.2.2.2.1), (aD x.2.2.2.2.2.2.1), (aE x.2.2.2.2.2.2.2)])], fun x => [], ⟨(k, x12_3, x1000000_9, x1000001_9, x1017000_13, x1017001_13, x1017002_13, x1017003_13), rn, ⟨H, Nat.lt_succ_self _⟩, h1⟩, ?_⟩
  rintro ⟨k, x12_3, x1000000_9, x1000001_9, x1017000_13, x1017001_13, x1017002_13, x1017003_13⟩ ⟨H, hk⟩
  exact h2 k x12_3 x1000000_9 x1000001_9 x1017000_13 x1017001_13 x1017002_13 x1017003_13 hk H
theorem aL.l12_lp {F : (Exit → St → Prop) → St → Prop} {hv : List Tmp} {Q : Exit → St → Prop} {σ : St} {r : (List ByteArray) × (List aC) × (List aB) × (List aA) × (List Int) × Int} {k : Nat} {t8437 : Int × (List Int) × Int} {x11_3 : Int} {x1017000_12 : List ByteArray} {x1017001_12 : List aC} {x1017002_12 : List aB} {x1017003_12 : List aA} (H : aL.l12 k x11_3 x1017000_12 x1017001_12 x1017002_12 x1017003_12 t8437 = some r) (rn : List (Option Nat)) (h1 : cJ σ σ [17] [(11, .int .i64 x11_3)] [(17, .box [(aM x1017000_12), (aF x1017001_12), (aD x1017002_12), (aE x1017003_12)])] [] rn)
    (h2 : ∀ (k0 : Nat) (x11_3 : Int) (x1017000_12 : List ByteArray) (x1017001_12 : List aC) (x1017002_12 : List aB) (x1017003_12 : List aA), k0 < k + 1 → aL.l12 k0 x11_3 x1017000_12 x1017001_12 x1017002_12 x1017003_12 t8437 = some r → dE σ hv [17] [(11, .int .i64 x11_3)] [(17, .box [(aM x1017000_12), (aF x1017001_12), (aD x1017002_12), (aE x1017003_12)])] [] (F (fun e σ' => match e with | .normal => ∃ (y : Nat × Int × (List ByteArray) × (List aC) × (List aB) × (List aA)) (rn : List (Option Nat)), (aL.l12 y.1 y.2.1 y.2.2.1 y.2.2.2.1 y.2.2.2.2.1 y.2.2.2.2.2 t8437 = some r ∧ y.1 < k + 1) ∧ y.1 < k0 ∧ cJ σ σ' [17] [(11, .int .i64 y.2.1)] [(17, .box [(aM y.2.2.1), (aF y.2.2.2.1), (aD y.2.2.2.2.1), (aE y.2.2.2.2.2)])] [] rn | e => Q e σ'))) : Lp F hv Q σ := by
  unfold Lp
  refine ⟨Nat × Int × (List ByteArray) × (List aC) × (List aB) × (List aA), fun x => aL.l12 x.1 x.2.1 x.2.2.1 x.2.2.2.1 x.2.2.2.2.1 x.2.2.2.2.2 t8437 = some r ∧ x.1 < k + 1, fun x => x.1, [17], fun x => [(11, .int .i64 x.2.1)], fun x => [(17, .box [(aM x.2.2.1), (aF x.2.2.2.1), (aD x.2.2.2.2.1), (aE x.2.2.2.2.2)])], fun x => [], ⟨(k, x11_3, x1017000_12, x1017001_12, x1017002_12, x1017003_12), rn, ⟨H, Nat.lt_succ_self _⟩, h1⟩, ?_⟩
  rintro ⟨k, x11_3, x1017000_12, x1017001_12, x1017002_12, x1017003_12⟩ ⟨H, hk⟩
  exact h2 k x11_3 x1017000_12 x1017001_12 x1017002_12 x1017003_12 hk H
theorem aL.l9_lp {F : (Exit → St → Prop) → St → Prop} {hv : List Tmp} {Q : Exit → St → Prop} {σ : St} {r : (List ByteArray) × (List aC) × (List aB) × (List aA) × (List Int) × Int} {k : Nat} {x10_1 : Int} {x1000000_7 : List Int} {x1000001_7 : Int} {x1017000_9 : List ByteArray} {x1017001_9 : List aC} {x1017002_9 : List aB} {x1017003_9 : List aA} (H : aL.l9 k x10_1 x1000000_7 x1000001_7 x1017000_9 x1017001_9 x1017002_9 x1017003_9 = some r) (rn : List (Option Nat)) (h1 : cJ σ σ [0, 17, 182] [(10, .int .i64 x10_1)] [(0, .box [(bV x1000000_7), .int .i64 x1000001_7]), (17, .box [(aM x1017000_9), (aF x1017001_9), (aD x1017002_9), (aE x1017003_9)])] [] rn)
    (h2 : ∀ (k0 : Nat) (x10_1 : Int) (x1000000_7 : List Int) (x1000001_7 : Int) (x1017000_9 : List ByteArray) (x1017001_9 : List aC) (x1017002_9 : List aB) (x1017003_9 : List aA), k0 < k + 1 → aL.l9 k0 x10_1 x1000000_7 x1000001_7 x1017000_9 x1017001_9 x1017002_9 x1017003_9 = some r → dE σ hv [0, 17, 182] [(10, .int .i64 x10_1)] [(0, .box [(bV x1000000_7), .int .i64 x1000001_7]), (17, .box [(aM x1017000_9), (aF x1017001_9), (aD x1017002_9), (aE x1017003_9)])] [] (F (fun e σ' => match e with | .normal => ∃ (y : Nat × Int × (List Int) × Int × (List ByteArray) × (List aC) × (List aB) × (List aA)) (rn : List (Option Nat)), (aL.l9 y.1 y.2.1 y.2.2.1 y.2.2.2.1 y.2.2.2.2.1 y.2.2.2.2.2.1 y.2.2.2.2.2.2.1 y.2.2.2.2.2.2.2 = some r ∧ y.1 < k + 1) ∧ y.1 < k0 ∧ cJ σ σ' [0, 17, 182] [(10, .int .i64 y.2.1)] [(0, .box [(bV y.2.2.1), .int .i64 y.2.2.2.1]), (17, .box [(aM y.2.2.2.2.1), (aF y.2.2.2.2.2.1), (aD y.2.2.2.2.2.2.1), (aE y.2.2.2.2.2.2.2)])] [] rn | e => Q e σ'))) : Lp F hv Q σ := by
  unfold Lp
  refine ⟨Nat × Int × (List Int) × Int × (List ByteArray) × (List aC) × (List aB) × (List aA), fun x => aL.l9 x.1 x.2.1 x.2.2.1 x.2.2.2.1 x.2.2.2.2.1 x.2.2.2.2.2.1 x.2.2.2.2.2.2.1 x.2.2.2.2.2.2.2 = some r ∧ x.1 < k + 1, fun x => x.1, [0, 17, 182], fun x => [(10, .int .i64 x.2.1)], fun x => [(0, .box [(bV x.2.2.1), .int .i64 x.2.2.2.1]), (17, .box [(aM x.2.2.2.2.1), (aF x.2.2.2.2.2.1), (aD x.2.2.2.2.2.2.1), (aE x.2.2.2.2.2.2.2)])], fun x => [], ⟨(k, x10_1, x1000000_7, x1000001_7, x1017000_9, x1017001_9, x1017002_9, x1017003_9), rn, ⟨H, Nat.lt_succ_self _⟩, h1⟩, ?_⟩
  rintro ⟨k, x10_1, x1000000_7, x1000001_7, x1017000_9, x1017001_9, x1017002_9, x1017003_9⟩ ⟨H, hk⟩
  exact h2 k x10_1 x1000000_7 x1000001_7 x1017000_9 x1017001_9 x1017002_9 x1017003_9 hk H
theorem aL.l8_lp {F : (Exit → St → Prop) → St → Prop} {hv : List Tmp} {Q : Exit → St → Prop} {σ : St} {r : (List ByteArray) × (List aC) × (List aB) × (List aA) × (List Int) × Int} {k : Nat} {x8_1 : Int} {x1000000_6 : List Int} {x1000001_6 : Int} {x1017000_8 : List ByteArray} {x1017001_8 : List aC} {x1017002_8 : List aB} {x1017003_8 : List aA} (H : aL.l8 k x8_1 x1000000_6 x1000001_6 x1017000_8 x1017001_8 x1017002_8 x1017003_8 = some r) (rn : List (Option Nat)) (h1 : cJ σ σ [0, 17] [(8, .int .i64 x8_1)] [(0, .box [(bV x1000000_6), .int .i64 x1000001_6]), (17, .box [(aM x1017000_8), (aF x1017001_8), (aD x1017002_8), (aE x1017003_8)])] [] rn)
    (h2 : ∀ (k0 : Nat) (x8_1 : Int) (x1000000_6 : List Int) (x1000001_6 : Int) (x1017000_8 : List ByteArray) (x1017001_8 : List aC) (x1017002_8 : List aB) (x1017003_8 : List aA), k0 < k + 1 → aL.l8 k0 x8_1 x1000000_6 x1000001_6 x1017000_8 x1017001_8 x1017002_8 x1017003_8 = some r → dE σ hv [0, 17] [(8, .int .i64 x8_1)] [(0, .box [(bV x1000000_6), .int .i64 x1000001_6]), (17, .box [(aM x1017000_8), (aF x1017001_8), (aD x1017002_8), (aE x1017003_8)])] [] (F (fun e σ' => match e with | .normal => ∃ (y : Nat × Int × (List Int) × Int × (List ByteArray) × (List aC) × (List aB) × (List aA)) (rn : List (Option Nat)), (aL.l8 y.1 y.2.1 y.2.2.1 y.2.2.2.1 y.2.2.2.2.1 y.2.2.2.2.2.1 y.2.2.2.2.2.2.1 y.2.2.2.2.2.2.2 = some r ∧ y.1 < k + 1) ∧ y.1 < k0 ∧ cJ σ σ' [0, 17] [(8, .int .i64 y.2.1)] [(0, .box [(bV y.2.2.1), .int .i64 y.2.2.2.1]), (17, .box [(aM y.2.2.2.2.1), (aF y.2.2.2.2.2.1), (aD y.2.2.2.2.2.2.1), (aE y.2.2.2.2.2.2.2)])] [] rn | e => Q e σ'))) : Lp F hv Q σ := by
  unfold Lp
  refine ⟨Nat × Int × (List Int) × Int × (List ByteArray) × (List aC) × (List aB) × (List aA), fun x => aL.l8 x.1 x.2.1 x.2.2.1 x.2.2.2.1 x.2.2.2.2.1 x.2.2.2.2.2.1 x.2.2.2.2.2.2.1 x.2.2.2.2.2.2.2 = some r ∧ x.1 < k + 1, fun x => x.1, [0, 17], fun x => [(8, .int .i64 x.2.1)], fun x => [(0, .box [(bV x.2.2.1), .int .i64 x.2.2.2.1]), (17, .box [(aM x.2.2.2.2.1), (aF x.2.2.2.2.2.1), (aD x.2.2.2.2.2.2.1), (aE x.2.2.2.2.2.2.2)])], fun x => [], ⟨(k, x8_1, x1000000_6, x1000001_6, x1017000_8, x1017001_8, x1017002_8, x1017003_8), rn, ⟨H, Nat.lt_succ_self _⟩, h1⟩, ?_⟩
  rintro ⟨k, x8_1, x1000000_6, x1000001_6, x1017000_8, x1017001_8, x1017002_8, x1017003_8⟩ ⟨H, hk⟩
  exact h2 k x8_1 x1000000_6 x1000001_6 x1017000_8 x1017001_8 x1017002_8 x1017003_8 hk H
theorem aL.l1_lp {F : (Exit → St → Prop) → St → Prop} {hv : List Tmp} {Q : Exit → St → Prop} {σ : St} {r : (List ByteArray) × (List aC) × (List aB) × (List aA) × (List Int) × Int} {k : Nat} {x6 : Int} {x1000000_1 : List Int} {x1000001_1 : Int} {x1017000_1 : List ByteArray} {x1017001_1 : List aC} {x1017002_1 : List aB} {x1017003_1 : List aA} (H : aL.l1 k x6 x1000000_1 x1000001_1 x1017000_1 x1017001_1 x1017002_1 x1017003_1 = some r) (rn : List (Option Nat)) (h1 : cJ σ σ [0, 17] [(6, .int .i64 x6)] [(0, .box [(bV x1000000_1), .int .i64 x1000001_1]), (17, .box [(aM x1017000_1), (aF x1017001_1), (aD x1017002_1), (aE x1017003_1)])] [] rn)
    (h2 : ∀ (k0 : Nat) (x6 : Int) (x1000000_1 : List Int) (x1000001_1 : Int) (x1017000_1 : List ByteArray) (x1017001_1 : List aC) (x1017002_1 : List aB) (x1017003_1 : List aA), k0 < k + 1 → aL.l1 k0 x6 x1000000_1 x1000001_1 x1017000_1 x1017001_1 x1017002_1 x1017003_1 = some r → dE σ hv [0, 17] [(6, .int .i64 x6)] [(0, .box [(bV x1000000_1), .int .i64 x1000001_1]), (17, .box [(aM x1017000_1), (aF x1017001_1), (aD x1017002_1), (aE x1017003_1)])] [] (F (fun e σ' => match e with | .normal => ∃ (y : Nat × Int × (List Int) × Int × (List ByteArray) × (List aC) × (List aB) × (List aA)) (rn : List (Option Nat)), (aL.l1 y.1 y.2.1 y.2.2.1 y.2.2.2.1 y.2.2.2.2.1 y.2.2.2.2.2.1 y.2.2.2.2.2.2.1 y.2.2.2.2.2.2.2 = some r ∧ y.1 < k + 1) ∧ y.1 < k0 ∧ cJ σ σ' [0, 17] [(6, .int .i64 y.2.1)] [(0, .box [(bV y.2.2.1), .int .i64 y.2.2.2.1]), (17, .box [(aM y.2.2.2.2.1), (aF y.2.2.2.2.2.1), (aD y.2.2.2.2.2.2.1), (aE y.2.2.2.2.2.2.2)])] [] rn | e => Q e σ'))) : Lp F hv Q σ := by
  unfold Lp
  refine ⟨Nat × Int × (List Int) × Int × (List ByteArray) × (List aC) × (List aB) × (List aA), fun x => aL.l1 x.1 x.2.1 x.2.2.1 x.2.2.2.1 x.2.2.2.2.1 x.2.2.2.2.2.1 x.2.2.2.2.2.2.1 x.2.2.2.2.2.2.2 = some r ∧ x.1 < k + 1, fun x => x.1, [0, 17], fun x => [(6, .int .i64 x.2.1)], fun x => [(0, .box [(bV x.2.2.1), .int .i64 x.2.2.2.1]), (17, .box [(aM x.2.2.2.2.1), (aF x.2.2.2.2.2.1), (aD x.2.2.2.2.2.2.1), (aE x.2.2.2.2.2.2.2)])], fun x => [], ⟨(k, x6, x1000000_1, x1000001_1, x1017000_1, x1017001_1, x1017002_1, x1017003_1), rn, ⟨H, Nat.lt_succ_self _⟩, h1⟩, ?_⟩
  rintro ⟨k, x6, x1000000_1, x1000001_1, x1017000_1, x1017001_1, x1017002_1, x1017003_1⟩ ⟨H, hk⟩
  exact h2 k x6 x1000000_1 x1000001_1 x1017000_1 x1017001_1 x1017002_1 x1017003_1 hk H
theorem aL.l0_lp {F : (Exit → St → Prop) → St → Prop} {hv : List Tmp} {Q : Exit → St → Prop} {σ : St} {r : (List ByteArray) × (List aC) × (List aB) × (List aA) × (List Int) × Int} {k : Nat} {x4 : List ByteArray} {x5 : Int} {x1000000 : List Int} {x1000001 : Int} {x1017000 : List ByteArray} {x1017001 : List aC} {x1017002 : List aB} {x1017003 : List aA} (H : aL.l0 k x4 x5 x1000000 x1000001 x1017000 x1017001 x1017002 x1017003 = some r) (rn : List (Option Nat)) (h1 : cJ σ σ [0, 17, 33] [(4, .own 0 x4.length), (5, .int .i64 x5)] [(0, .box [(bV x1000000), .int .i64 x1000001]), (17, .box [.own 1 x1017000.length, .own 2 x1017001.length, .own 3 x1017002.length, .own 4 x1017003.length])] [.arr 9 1 (x4.map aW), .arr 9 1 (x1017000.map aW), .arr 47 2 (x1017001.map aJ), .arr 49 3 (x1017002.map aH), .arr 52 4 (x1017003.map aG)] rn)
    (h2 : ∀ (k0 : Nat) (x4 : List ByteArray) (x5 : Int) (x1000000 : List Int) (x1000001 : Int) (x1017000 : List ByteArray) (x1017001 : List aC) (x1017002 : List aB) (x1017003 : List aA), k0 < k + 1 → aL.l0 k0 x4 x5 x1000000 x1000001 x1017000 x1017001 x1017002 x1017003 = some r → dE σ hv [0, 17, 33] [(4, .own 0 x4.length), (5, .int .i64 x5)] [(0, .box [(bV x1000000), .int .i64 x1000001]), (17, .box [.own 1 x1017000.length, .own 2 x1017001.length, .own 3 x1017002.length, .own 4 x1017003.length])] [.arr 9 1 (x4.map aW), .arr 9 1 (x1017000.map aW), .arr 47 2 (x1017001.map aJ), .arr 49 3 (x1017002.map aH), .arr 52 4 (x1017003.map aG)] (F (fun e σ' => match e with | .normal => ∃ (y : Nat × (List ByteArray) × Int × (List Int) × Int × (List ByteArray) × (List aC) × (List aB) × (List aA)) (rn : List (Option Nat)), (aL.l0 y.1 y.2.1 y.2.2.1 y.2.2.2.1 y.2.2.2.2.1 y.2.2.2.2.2.1 y.2.2.2.2.2.2.1 y.2.2.2.2.2.2.2.1 y.2.2.2.2.2.2.2.2 = some r ∧ y.1 < k + 1) ∧ y.1 < k0 ∧ cJ σ σ' [0, 17, 33] [(4, .own 0 y.2.1.length), (5, .int .i64 y.2.2.1)] [(0, .box [(bV y.2.2.2.1), .int .i64 y.2.2.2.2.1]), (17, .box [.own 1 y.2.2.2.2.2.1.length, .own 2 y.2.2.2.2.2.2.1.length, .own 3 y.2.2.2.2.2.2.2.1.length, .own 4 y.2.2.2.2.2.2.2.2.length])] [.arr 9 1 (y.2.1.map aW), .arr 9 1 (y.2.2.2.2.2.1.map aW), .arr 47 2 (y.2.2.2.2.2.2.1.map aJ), .arr 49 3 (y.2.2.2.2.2.2.2.1.map aH), .arr 52 4 (y.2.2.2.2.2.2.2.2.map aG)] rn | e => Q e σ'))) : Lp F hv Q σ := by
  unfold Lp
  refine ⟨Nat × (List ByteArray) × Int × (List Int) × Int × (List ByteArray) × (List aC) × (List aB) × (List aA), fun x => aL.l0 x.1 x.2.1 x.2.2.1 x.2.2.2.1 x.2.2.2.2.1 x.2.2.2.2.2.1 x.2.2.2.2.2.2.1 x.2.2.2.2.2.2.2.1 x.2.2.2.2.2.2.2.2 = some r ∧ x.1 < k + 1, fun x => x.1, [0, 17, 33], fun x => [(4, .own 0 x.2.1.length), (5, .int .i64 x.2.2.1)], fun x => [(0, .box [(bV x.2.2.2.1), .int .i64 x.2.2.2.2.1]), (17, .box [.own 1 x.2.2.2.2.2.1.length, .own 2 x.2.2.2.2.2.2.1.length, .own 3 x.2.2.2.2.2.2.2.1.length, .own 4 x.2.2.2.2.2.2.2.2.length])], fun x => [.arr 9 1 (x.2.1.map aW), .arr 9 1 (x.2.2.2.2.2.1.map aW), .arr 47 2 (x.2.2.2.2.2.2.1.map aJ), .arr 49 3 (x.2.2.2.2.2.2.2.1.map aH), .arr 52 4 (x.2.2.2.2.2.2.2.2.map aG)], ⟨(k, x4, x5, x1000000, x1000001, x1017000, x1017001, x1017002, x1017003), rn, ⟨H, Nat.lt_succ_self _⟩, h1⟩, ?_⟩
  rintro ⟨k, x4, x5, x1000000, x1000001, x1017000, x1017001, x1017002, x1017003⟩ ⟨H, hk⟩
  exact h2 k x4 x5 x1000000 x1000001 x1017000 x1017001 x1017002 x1017003 hk H
theorem aL.ac {k : Nat} {a0_0 : List Int} {a0_1 : Int} {r : (List ByteArray) × (List aC) × (List aB) × (List aA) × (List Int) × Int} (H : aL.f k a0_0 a0_1 = some r) : cI Tryz.prog G 46 [.box [(bV a0_0), .int .i64 a0_1]] [.bp 0 0] [.box [(bV r.2.2.2.2.1), .int .i64 r.2.2.2.2.2]] (.agg [(aM r.1), (aF r.2.1), (aD r.2.2.1), (aE r.2.2.2.1)]) := by
  refine bO tok hP Tryz.func46 rfl (by kernel_rfl) [.cell 2 28] rfl (by kernel_rfl) (Nat.le_of_ble_eq_true rfl) (.l .n (.l .n (.l .n (.l (.l .n (.l (.c .n .n) (.c .n .n))) (.l (.f 1 .n (.l .n (.c .n .n))) (.c .n (.l (.l .n (.l .n (.l (.l .n (.c .n (.j .n .n))) .n))) (.l (.l .n (.l (.c .n .n) (.c .n .n))) (.l (.l .n (.l (.l (.l .n (.l .n (.c .n .n))) (.l .n (.l .n (.c .n .n)))) .n)) (.c .n .n)))))))))) rfl ?_
  unfold aL.f at H
  refine Or.inl (aL.l0_lp (k := k) H [some 33, none, none, none, none] (bX ⟨gA lm_, ⟨.inl ⟨rfl, rfl⟩, trivial⟩⟩ ⟨fm_, ⟨rfl, ⟨rfl, ⟨rfl, ⟨rfl, trivial⟩⟩⟩⟩⟩ fi_ ⟨⟨_, rfl⟩, ⟨_, rfl, ⟨.inl ⟨rfl, rfl⟩, ⟨.inl ⟨rfl, rfl⟩, trivial⟩⟩⟩, ⟨⟨_, rfl⟩, ⟨_, rfl, ⟨⟨rfl, rfl⟩, ⟨⟨rfl, rfl⟩, ⟨⟨rfl, rfl⟩, ⟨⟨rfl, rfl⟩, trivial⟩⟩⟩⟩⟩, trivial⟩⟩ rfl) ?_)
  intro k x4 x5 x1000000 x1000001 x1017000 x1017001 x1017002 x1017003 hk H; rcases k with _ | k; exact bC H; rw [aL.l0] at H
  refine cu 94 [(0, .bp 0 0), (2, .bp 1 0), (3, .bp 17 0), (4, .own 57 x4.length), (5, .int .i64 x5), (18, .bool (decide (x5 < (x4.length : Int))))] [(0, .box [(bV x1000000), .int .i64 x1000001]), (1, .box [.nil, .nil, .nil, .nil]), (17, .box [.own 58 x1017000.length, .own 59 x1017001.length, .own 60 x1017002.length, .own 61 x1017003.length]), (57, .arr 9 1 (x4.map aW)), (58, .arr 9 1 (x1017000.map aW)), (59, .arr 47 2 (x1017001.map aJ)), (60, .arr 49 3 (x1017002.map aH)), (61, .arr 52 4 (x1017003.map aG))] rfl rfl rfl (bM H (fun c H => ?_) (fun c H => ?_))
  revert H; refine aN (fun t8104 A H => (bW [0] (aS.ac A) ⟨rfl, trivial⟩ rfl rfl rfl rfl rfl rfl rfl rfl (bM H (fun c H => ?_) (fun c H => ?_))))
  refine nd_ H (fun c H => (Nd.mk nf_ (El.mk (aX _ _ nf_ nf_) (Or.inl (nd_ H (fun c H => (jW 198 [(0, .bp 0 0), (2, .bp 1 0), (3, .bp 17 0), (4, .own 57 x4.length), (5, .int .i64 x5)] [(0, .box [(bV t8104.2.1), .int .i64 t8104.2.2]), (1, .box [.nil, .nil, .nil, .nil]), (17, .box [.own 174 (x1017000.length + 1), .own 59 x1017001.length, .own 60 x1017002.length, .own 61 x1017003.length]), (57, .arr 9 1 (x4.map aW)), (59, .arr 47 2 (x1017001.map aJ)), (60, .arr 49 3 (x1017002.map aH)), (61, .arr 52 4 (x1017003.map aG)), (174, .arr 9 1 ((x1017000 ++ ([aV ByteArray.empty x4 x5] : List ByteArray)).map aW))] rfl ⟨.inl rfl, ⟨.inl rfl, ⟨.inl rfl, ⟨.inl rfl, ⟨.inl rfl, trivial⟩⟩⟩⟩⟩ ⟨rfl, ⟨rfl, ⟨rfl, ⟨rfl, ⟨rfl, ⟨rfl, ⟨rfl, ⟨fm_, trivial⟩⟩⟩⟩⟩⟩⟩⟩ (⟨(k, x4, wrap64 (x5 + 1), t8104.2.1, t8104.2.2, (x1017000 ++ ([aV ByteArray.empty x4 x5] : List ByteArray)), x1017001, x1017002, x1017003), [some 57, some 174, some 59, some 60, some 61], ⟨H, lt_⟩, lt_, (bX ⟨rfl, ⟨.inl ⟨rfl, rfl⟩, trivial⟩⟩ ⟨rfl, ⟨rfl, ⟨rfl, ⟨rfl, ⟨rfl, trivial⟩⟩⟩⟩⟩ fi_ ⟨⟨_, rfl⟩, ⟨_, rfl, ⟨.inl ⟨rfl, rfl⟩, ⟨.inl ⟨rfl, rfl⟩, trivial⟩⟩⟩, ⟨⟨_, rfl⟩, ⟨_, rfl, ⟨gA lm_, ⟨rfl, ⟨rfl, ⟨rfl, trivial⟩⟩⟩⟩⟩, trivial⟩⟩ rfl)⟩))))))))
  refine cu 118 [(0, .bp 0 0), (2, .bp 1 0), (3, .bp 17 0), (4, .own 57 x4.length), (5, .int .i64 x5)] [(0, .box [(bV t8104.2.1), .int .i64 t8104.2.2]), (1, .box [.nil, .nil, .nil, .nil]), (17, .box [.own 58 x1017000.length, .own 59 x1017001.length, .own 60 x1017002.length, .own 61 x1017003.length]), (57, .arr 9 1 (x4.map aW)), (58, .arr 9 1 (x1017000.map aW)), (59, .arr 47 2 (x1017001.map aJ)), (60, .arr 49 3 (x1017002.map aH)), (61, .arr 52 4 (x1017003.map aG))] rfl rfl rfl (⟨(k, x4, wrap64 (x5 + 1), t8104.2.1, t8104.2.2, x1017000, x1017001, x1017002, x1017003), [some 57, some 58, some 59, some 60, some 61], ⟨H, lt_⟩, lt_, (bX ⟨rfl, ⟨.inl ⟨rfl, rfl⟩, trivial⟩⟩ ⟨rfl, ⟨rfl, ⟨rfl, ⟨rfl, ⟨rfl, trivial⟩⟩⟩⟩⟩ fi_ ⟨⟨_, rfl⟩, ⟨_, rfl, ⟨.inl ⟨rfl, rfl⟩, ⟨.inl ⟨rfl, rfl⟩, trivial⟩⟩⟩, ⟨⟨_, rfl⟩, ⟨_, rfl, ⟨rfl, ⟨rfl, ⟨rfl, ⟨rfl, trivial⟩⟩⟩⟩⟩, trivial⟩⟩ rfl)⟩)
  revert H; refine aN (fun t8300 A H => (bW [0] (aS.ac A) ⟨rfl, trivial⟩ rfl rfl rfl rfl rfl rfl rfl rfl (aKY 118 [58, 59, 60, 61] [(0, .bp 0 0), (2, .bp 1 0), (3, .bp 17 0), (6, .int .i64 t8300.1)] [(0, .box [(bV t8300.2.1), .int .i64 t8300.2.2]), (1, .box [.nil, .nil, .nil, .nil]), (17, .box [(aM x1017000), (aF x1017001), (aD x1017002), (aE x1017003)])] rfl rfl ⟨.inl (.inl rfl), ⟨.inl (.inl rfl), ⟨.inl (.inl rfl), ⟨.inl (.inl rfl), trivial⟩⟩⟩⟩ ⟨.inl (rfl), ⟨.inl (rfl), ⟨.inr ⟨_, rfl, ⟨vO rfl rfl (.inr lm_) lm_, ⟨vO rfl rfl (.inr lm_) lm_, ⟨vO rfl rfl (.inr lm_) lm_, ⟨vO rfl rfl (.inr lm_) lm_, trivial⟩⟩⟩⟩⟩, trivial⟩⟩⟩ (aL.l1_lp (k := k) H [] (bX ⟨.inl ⟨rfl, rfl⟩, trivial⟩ trivial fi_ ⟨⟨_, rfl⟩, ⟨_, rfl, ⟨.inl ⟨rfl, rfl⟩, ⟨.inl ⟨rfl, rfl⟩, trivial⟩⟩⟩, ⟨⟨_, rfl⟩, ⟨_, rfl, ⟨.inl ⟨rfl, rfl⟩, ⟨.inl ⟨rfl, rfl⟩, ⟨.inl ⟨rfl, rfl⟩, ⟨.inl ⟨rfl, rfl⟩, trivial⟩⟩⟩⟩⟩, trivial⟩⟩ rfl) ?_))))
  intro k x6 x1000000_1 x1000001_1 x1017000_1 x1017001_1 x1017002_1 x1017003_1 hk H; rcases k with _ | k; exact bC H; rw [aL.l1] at H
  refine bM H (fun c H => ?_) (fun c H => ?_)
  refine Br.t ft_ (Br.t ft_ (Br.t ft_ (Br.t ft_ (bM H (fun c H => ?_) (fun c H => ?_)))))
  revert H; refine aN (fun t8307 A H => (bW [0] (bA.ac A) ⟨rfl, trivial⟩ rfl rfl rfl rfl rfl rfl rfl rfl ?_))
  revert H; refine aN (fun t8308 A H => (bW [0] (bA.ac A) ⟨rfl, trivial⟩ rfl rfl rfl rfl rfl rfl rfl rfl (Or.inr (Or.inl ?_))))
  revert H; refine aN (fun t8309 A H => (eL (cO.ac A) (bT (fF (bD (bY rfl) (bD (bY rfl) (bD (bY rfl) (bD (bY rfl) (fE)))))) (bT (iA lm_ lm_) (eA))) (Or.inl rfl) rfl rfl (Nat.le_of_ble_eq_true rfl) (cu 278 [(0, .bp 0 0), (2, .bp 1 0), (3, .bp 17 0), (6, .int .i64 x6)] [(0, .box [(bV t8308.2.1), .int .i64 t8308.2.2]), (1, .box [.nil, .nil, .nil, .nil]), (17, .box [(aM t8309.1), (aF t8309.2.1), (aD t8309.2.2.1), (aE t8309.2.2.2)])] rfl rfl rfl (⟨(k, wrap64 (x6 - 1), t8308.2.1, t8308.2.2, t8309.1, t8309.2.1, t8309.2.2.1, t8309.2.2.2), [], ⟨H, lt_⟩, lt_, (bX ⟨.inl ⟨rfl, rfl⟩, trivial⟩ trivial fi_ ⟨⟨_, rfl⟩, ⟨_, rfl, ⟨.inl ⟨rfl, rfl⟩, ⟨.inl ⟨rfl, rfl⟩, trivial⟩⟩⟩, ⟨⟨_, rfl⟩, ⟨_, rfl, ⟨.inl ⟨rfl, rfl⟩, ⟨.inl ⟨rfl, rfl⟩, ⟨.inl ⟨rfl, rfl⟩, ⟨.inl ⟨rfl, rfl⟩, trivial⟩⟩⟩⟩⟩, trivial⟩⟩ rfl)⟩))))
  refine Or.inl (jW 198 [(0, .bp 0 0), (2, .bp 1 0), (3, .bp 17 0), (7, .own 182 9)] [(0, .box [(bV x1000000_1), .int .i64 x1000001_1]), (1, .box [.nil, .nil, .nil, .nil]), (17, .box [(aM x1017000_1), (aF x1017001_1), (aD x1017002_1), (aE x1017003_1)]), (182, .arr 9 1 (([(⟨#[97]⟩ : ByteArray), (⟨#[98]⟩ : ByteArray), (⟨#[106, 49]⟩ : ByteArray), (⟨#[106, 50]⟩ : ByteArray), (⟨#[106, 51]⟩ : ByteArray), (⟨#[107, 45, 107]⟩ : ByteArray), (⟨#[118, 49]⟩ : ByteArray), (⟨#[118, 50]⟩ : ByteArray), (⟨#[122]⟩ : ByteArray)] : List ByteArray).map aW))] rfl ⟨.inl rfl, ⟨.inl rfl, ⟨.inl rfl, ⟨.inl rfl, trivial⟩⟩⟩⟩ ⟨rfl, ⟨rfl, ⟨rfl, ⟨fm_, trivial⟩⟩⟩⟩ (aL.l2_lp (k := k) H [] (bX ⟨.inl ⟨rfl, rfl⟩, trivial⟩ trivial fi_ ⟨⟨_, rfl⟩, ⟨_, rfl, ⟨.inl ⟨rfl, rfl⟩, ⟨.inl ⟨rfl, rfl⟩, trivial⟩⟩⟩, ⟨⟨_, rfl⟩, ⟨_, rfl, ⟨.inl ⟨rfl, rfl⟩, ⟨.inl ⟨rfl, rfl⟩, ⟨.inl ⟨rfl, rfl⟩, ⟨.inl ⟨rfl, rfl⟩, trivial⟩⟩⟩⟩⟩, trivial⟩⟩ rfl) ?_))
  intro k x8 x1000000_2 x1000001_2 x1017000_2 x1017001_2 x1017002_2 x1017003_2 hk H; rcases k with _ | k; exact bC H; rw [aL.l2] at H
  refine bM H (fun c H => ?_) (fun c H => ?_)
  revert H; refine aN (fun t8314 A H => (bW [0] (aS.ac A) ⟨rfl, trivial⟩ rfl rfl rfl rfl rfl rfl rfl rfl (bM H (fun c H => ?_) (fun c H => ?_))))
  exact ⟨(k, wrap64 (x8 + 1), t8314.2.1, t8314.2.2, _, _, _, _), [], ⟨H, lt_⟩, lt_, (bX ⟨.inl ⟨rfl, rfl⟩, trivial⟩ trivial fi_ ⟨⟨_, rfl⟩, ⟨_, rfl, ⟨.inl ⟨rfl, rfl⟩, ⟨.inl ⟨rfl, rfl⟩, trivial⟩⟩⟩, ⟨⟨_, rfl⟩, ⟨_, rfl, ⟨.inl ⟨rfl, rfl⟩, ⟨.inl ⟨rfl, rfl⟩, ⟨.inl ⟨rfl, rfl⟩, ⟨.inl ⟨rfl, rfl⟩, trivial⟩⟩⟩⟩⟩, trivial⟩⟩ rfl)⟩
  refine Or.inr (Or.inl ?_)
  revert H; refine aN (fun t8315 A H => (bW [0] (bA.ac A) ⟨rfl, trivial⟩ rfl rfl rfl rfl rfl (gR ⟨rfl, ⟨kU rfl lm_ lm_, trivial⟩⟩) rfl rfl (cu 294 [(0, .bp 0 0), (2, .bp 1 0), (3, .bp 17 0), (7, .own 182 9), (8, .int .i64 x8), (9, .str t8315.1)] [(0, .box [(bV t8315.2.1), .int .i64 t8315.2.2]), (1, .box [.nil, .nil, .nil, .nil]), (17, .box [(aM x1017000_2), (aF x1017001_2), (aD x1017002_2), (aE x1017003_2)]), (182, .arr 9 1 (([(⟨#[97]⟩ : ByteArray), (⟨#[98]⟩ : ByteArray), (⟨#[106, 49]⟩ : ByteArray), (⟨#[106, 50]⟩ : ByteArray), (⟨#[106, 51]⟩ : ByteArray), (⟨#[107, 45, 107]⟩ : ByteArray), (⟨#[118, 49]⟩ : ByteArray), (⟨#[118, 50]⟩ : ByteArray), (⟨#[122]⟩ : ByteArray)] : List ByteArray).map aW))] rfl rfl rfl (aL.j0_sq (x8 := x8) (x1017000_2 := x1017000_2) (x1017001_2 := x1017001_2) (x1017002_2 := x1017002_2) (x1017003_2 := x1017003_2) (t8315 := t8315) (KK := k + 1) (r := r) ?_ ?_))))
  refine bM H (fun c H => ?_) (fun c H => ?_)
  refine Br.t ft_ (Br.t ft_ (⟨(k, decide (x8 < 6)), [], ⟨H, lt_⟩, (fq rfl rfl fi_ rfl)⟩))
  refine Br.f ff_ (Br.f ff_ (⟨(k, false), [], ⟨H, lt_⟩, (fq rfl rfl fi_ rfl)⟩))
  intro k x74 hk H; rcases k with _ | k; exact bC H; rw [aL.j0] at H
  refine jF H (fun c H => ?_) (fun c H => ?_)
  refine nd_ H (fun c H => (nd_ H (fun c H => (El.mk (aX _ _ nf_ nf_) (Or.inr (Or.inl ?_))))))
  revert H; refine aN (fun t8316 A H => (eL (cO.ac A) (bT (fF (bD (bY rfl) (bD (bY rfl) (bD (bY rfl) (bD (bY rfl) (fE)))))) (bT (iA lm_ lm_) (eA))) (Or.inl rfl) rfl rfl (Nat.le_of_ble_eq_true rfl) (⟨(k, wrap64 (x8 + 1), t8315.2.1, t8315.2.2, t8316.1, t8316.2.1, t8316.2.2.1, t8316.2.2.2), [], ⟨H, lt_⟩, lt_, (bX ⟨.inl ⟨rfl, rfl⟩, trivial⟩ trivial fi_ ⟨⟨_, rfl⟩, ⟨_, rfl, ⟨.inl ⟨rfl, rfl⟩, ⟨.inl ⟨rfl, rfl⟩, trivial⟩⟩⟩, ⟨⟨_, rfl⟩, ⟨_, rfl, ⟨.inl ⟨rfl, rfl⟩, ⟨.inl ⟨rfl, rfl⟩, ⟨.inl ⟨rfl, rfl⟩, ⟨.inl ⟨rfl, rfl⟩, trivial⟩⟩⟩⟩⟩, trivial⟩⟩ rfl)⟩)))
  refine nd_ H (fun c H => (nd_ H (fun c H => (El.mk (aX _ _ nf_ nf_) ?_))))
  revert H; refine aN (fun t8317 A H => (bW [0] (aS.ac A) ⟨rfl, trivial⟩ rfl rfl rfl rfl rfl rfl rfl rfl ?_))
  revert H; refine aN (fun t8318 A H => (cmk (cD.ac A) rfl rfl (Or.inr (Or.inl ?_))))
  revert H; refine aN (fun t8319 A H => (eL (cO.ac A) (bT (fF (bD (bY rfl) (bD (bY rfl) (bD (bY rfl) (bD (bY rfl) (fE)))))) (bT (iA lm_ lm_) (eA))) (Or.inl rfl) rfl rfl (Nat.le_of_ble_eq_true rfl) (⟨(k, wrap64 (x8 + 1), t8317.2.1, t8317.2.2, t8319.1, t8319.2.1, t8319.2.2.1, t8319.2.2.2), [], ⟨H, lt_⟩, lt_, (bX ⟨.inl ⟨rfl, rfl⟩, trivial⟩ trivial fi_ ⟨⟨_, rfl⟩, ⟨_, rfl, ⟨.inl ⟨rfl, rfl⟩, ⟨.inl ⟨rfl, rfl⟩, trivial⟩⟩⟩, ⟨⟨_, rfl⟩, ⟨_, rfl, ⟨.inl ⟨rfl, rfl⟩, ⟨.inl ⟨rfl, rfl⟩, ⟨.inl ⟨rfl, rfl⟩, ⟨.inl ⟨rfl, rfl⟩, trivial⟩⟩⟩⟩⟩, trivial⟩⟩ rfl)⟩)))
  revert H; refine aN (fun t8320 A H => (bW [0] (aS.ac A) ⟨rfl, trivial⟩ rfl rfl rfl rfl rfl rfl rfl rfl (aL.l3_lp (k := k) H [] (bX ⟨.inl ⟨rfl, rfl⟩, trivial⟩ trivial fi_ ⟨⟨_, rfl⟩, ⟨_, rfl, ⟨.inl ⟨rfl, rfl⟩, ⟨.inl ⟨rfl, rfl⟩, trivial⟩⟩⟩, ⟨⟨_, rfl⟩, ⟨_, rfl, ⟨.inl ⟨rfl, rfl⟩, ⟨.inl ⟨rfl, rfl⟩, ⟨.inl ⟨rfl, rfl⟩, ⟨.inl ⟨rfl, rfl⟩, trivial⟩⟩⟩⟩⟩, trivial⟩⟩ rfl) ?_)))
  intro k x10 x1000000_3 x1000001_3 x1017000_3 x1017001_3 x1017002_3 x1017003_3 hk H; rcases k with _ | k; exact bC H; rw [aL.l3] at H
  refine bM H (fun c H => ?_) (fun c H => ?_)
  refine Br.t ft_ (Br.t ft_ (Br.t ft_ (Br.t ft_ (cu 326 [(0, .bp 0 0), (2, .bp 1 0), (3, .bp 17 0), (10, .int .i64 x10), (104, .bool (decide ((x1017002_3.length : Int) > 1)))] [(0, .box [(bV x1000000_3), .int .i64 x1000001_3]), (1, .box [.nil, .nil, .nil, .nil]), (17, .box [(aM x1017000_3), (aF x1017001_3), (aD x1017002_3), (aE x1017003_3)])] rfl rfl rfl (bM H (fun c H => ?_) (fun c H => ?_))))))
  revert H; refine aN (fun t8339 A H => (bW [0] (aS.ac A) ⟨rfl, trivial⟩ rfl rfl rfl rfl rfl rfl rfl rfl ?_))
  revert H; refine aN (fun t8340 A H => (cmk (cD.ac A) rfl rfl (nd_ H (fun c H => ?_))))
  revert H; refine aN (fun t8341 A H => (bW [0] (aS.ac A) ⟨rfl, trivial⟩ rfl rfl rfl rfl rfl rfl rfl rfl (nd_ H (fun c H => (nd_ H (fun c H => (El.mk (bJ _ _ nf_ nf_) ?_)))))))
  revert H; refine aN (fun t8342 A H => (bW [0] (aS.ac A) ⟨rfl, trivial⟩ rfl rfl rfl rfl rfl rfl rfl rfl (nd_ H (fun c H => (nd_ H (fun c H => (El.mk (bJ _ _ nf_ nf_) (Or.inr (Or.inl ?_)))))))))
  revert H; refine aN (fun t8343 A H => (bW [0] (bA.ac A) ⟨rfl, trivial⟩ rfl rfl rfl rfl rfl (gR ⟨rfl, ⟨kU rfl lm_ lm_, trivial⟩⟩) rfl rfl (Or.inr (Or.inl ?_))))
  revert H; refine aN (fun t8344 A H => (eL (cO.ac A) (bT (fF (bD (bY rfl) (bD (bY rfl) (bD (bY rfl) (bD (bY rfl) (fE)))))) (bT (iA lm_ lm_) (eA))) (Or.inl rfl) rfl rfl (Nat.le_of_ble_eq_true rfl) (cu 574 [(0, .bp 0 0), (2, .bp 1 0), (3, .bp 17 0), (10, .int .i64 x10)] [(0, .box [(bV t8343.2.1), .int .i64 t8343.2.2]), (1, .box [.nil, .nil, .nil, .nil]), (17, .box [(aM t8344.1), (aF t8344.2.1), (aD t8344.2.2.1), (aE t8344.2.2.2)])] rfl rfl rfl (⟨(k, wrap64 (x10 - 1), t8343.2.1, t8343.2.2, t8344.1, t8344.2.1, t8344.2.2.1, t8344.2.2.2), [], ⟨H, lt_⟩, lt_, (bX ⟨.inl ⟨rfl, rfl⟩, trivial⟩ trivial fi_ ⟨⟨_, rfl⟩, ⟨_, rfl, ⟨.inl ⟨rfl, rfl⟩, ⟨.inl ⟨rfl, rfl⟩, trivial⟩⟩⟩, ⟨⟨_, rfl⟩, ⟨_, rfl, ⟨.inl ⟨rfl, rfl⟩, ⟨.inl ⟨rfl, rfl⟩, ⟨.inl ⟨rfl, rfl⟩, ⟨.inl ⟨rfl, rfl⟩, trivial⟩⟩⟩⟩⟩, trivial⟩⟩ rfl)⟩))))
  revert H; refine aN (fun t8345 A H => (bW [0] (aS.ac A) ⟨rfl, trivial⟩ rfl rfl rfl rfl rfl rfl rfl rfl (bM H (fun c H => ?_) (fun c H => ?_))))
  refine aL.l4_lp (t8345 := t8345) (k := k) H [] (bX ⟨.inl ⟨rfl, rfl⟩, trivial⟩ trivial fi_ ⟨⟨_, rfl⟩, ⟨_, rfl, ⟨.inl ⟨rfl, rfl⟩, ⟨.inl ⟨rfl, rfl⟩, ⟨.inl ⟨rfl, rfl⟩, ⟨.inl ⟨rfl, rfl⟩, trivial⟩⟩⟩⟩⟩, trivial⟩ rfl) ?_
  intro k x11 x1017000_4 x1017001_4 x1017002_4 x1017003_4 hk H; rcases k with _ | k; exact bC H; rw [aL.l4] at H
  refine bM H (fun c H => ?_) (fun c H => ?_)
  revert H; refine aN (fun t8348 A H => (cmk (cD.ac A) rfl rfl (nd_ H (fun c H => (Or.inr (Or.inl ?_))))))
  revert H; refine aN (fun t8349 A H => (eL (cO.ac A) (bT (fF (bD (bY rfl) (bD (bY rfl) (bD (bY rfl) (bD (bY rfl) (fE)))))) (bT (iA lm_ lm_) (eA))) (Or.inl rfl) rfl rfl (Nat.le_of_ble_eq_true rfl) (cu 430 [(0, .bp 0 0), (2, .bp 1 0), (3, .bp 17 0), (11, .int .i64 x11)] [(0, .box [(bV t8345.2.1), .int .i64 t8345.2.2]), (1, .box [.nil, .nil, .nil, .nil]), (17, .box [(aM t8349.1), (aF t8349.2.1), (aD t8349.2.2.1), (aE t8349.2.2.2)])] rfl rfl rfl (⟨(k, wrap64 (x11 + 1), t8349.1, t8349.2.1, t8349.2.2.1, t8349.2.2.2), [], ⟨H, lt_⟩, lt_, (bX ⟨.inl ⟨rfl, rfl⟩, trivial⟩ trivial fi_ ⟨⟨_, rfl⟩, ⟨_, rfl, ⟨.inl ⟨rfl, rfl⟩, ⟨.inl ⟨rfl, rfl⟩, ⟨.inl ⟨rfl, rfl⟩, ⟨.inl ⟨rfl, rfl⟩, trivial⟩⟩⟩⟩⟩, trivial⟩ rfl)⟩))))
  refine aL.l5_lp (k := k) H [] (bX ⟨.inl ⟨rfl, rfl⟩, trivial⟩ trivial fi_ ⟨⟨_, rfl⟩, ⟨_, rfl, ⟨.inl ⟨rfl, rfl⟩, ⟨.inl ⟨rfl, rfl⟩, trivial⟩⟩⟩, ⟨⟨_, rfl⟩, ⟨_, rfl, ⟨.inl ⟨rfl, rfl⟩, ⟨.inl ⟨rfl, rfl⟩, ⟨.inl ⟨rfl, rfl⟩, ⟨.inl ⟨rfl, rfl⟩, trivial⟩⟩⟩⟩⟩, trivial⟩⟩ rfl) ?_
  intro k x12 x1000000_4 x1000001_4 x1017000_5 x1017001_5 x1017002_5 x1017003_5 hk H; rcases k with _ | k; exact bC H; rw [aL.l5] at H
  refine bM H (fun c H => ?_) (fun c H => ?_)
  revert H; refine aN (fun t8358 A H => (cmk (cD.ac A) rfl rfl (nd_ H (fun c H => (Or.inr (Or.inl ?_))))))
  revert H; refine aN (fun t8359 A H => (bW [0] (bA.ac A) ⟨rfl, trivial⟩ rfl rfl rfl rfl rfl (gR ⟨rfl, ⟨kU rfl lm_ lm_, trivial⟩⟩) rfl rfl (Or.inr (Or.inl ?_))))
  revert H; refine aN (fun t8360 A H => (bW [0] (bA.ac A) ⟨rfl, trivial⟩ rfl rfl rfl rfl rfl (gR ⟨rfl, ⟨kU rfl lm_ lm_, trivial⟩⟩) rfl rfl (Or.inr (Or.inl ?_))))
  revert H; refine aN (fun t8361 A H => (eL (cO.ac A) (bT (fF (bD (bY rfl) (bD (bY rfl) (bD (bY rfl) (bD (bY rfl) (fE)))))) (bT (iA lm_ lm_) (eA))) (Or.inl rfl) rfl rfl (Nat.le_of_ble_eq_true rfl) (cu 502 [(0, .bp 0 0), (2, .bp 1 0), (3, .bp 17 0), (12, .int .i64 x12)] [(0, .box [(bV t8360.2.1), .int .i64 t8360.2.2]), (1, .box [.nil, .nil, .nil, .nil]), (17, .box [(aM t8361.1), (aF t8361.2.1), (aD t8361.2.2.1), (aE t8361.2.2.2)])] rfl rfl rfl (⟨(k, wrap64 (x12 + 1), t8360.2.1, t8360.2.2, t8361.1, t8361.2.1, t8361.2.2.1, t8361.2.2.2), [], ⟨H, lt_⟩, lt_, (bX ⟨.inl ⟨rfl, rfl⟩, trivial⟩ trivial fi_ ⟨⟨_, rfl⟩, ⟨_, rfl, ⟨.inl ⟨rfl, rfl⟩, ⟨.inl ⟨rfl, rfl⟩, trivial⟩⟩⟩, ⟨⟨_, rfl⟩, ⟨_, rfl, ⟨.inl ⟨rfl, rfl⟩, ⟨.inl ⟨rfl, rfl⟩, ⟨.inl ⟨rfl, rfl⟩, ⟨.inl ⟨rfl, rfl⟩, trivial⟩⟩⟩⟩⟩, trivial⟩⟩ rfl)⟩))))
  revert H; refine aN (fun t8362 A H => (cmk (dD.ac A) rfl rfl (cu 422 [(2, .bp 1 0)] [(0, .box [(bV x1000000_4), .int .i64 x1000001_4]), (1, .box [(aM t8362.1), (aF t8362.2.1), (aD t8362.2.2.1), (aE t8362.2.2.2)])] rfl rfl rfl ?_)))
  cases H
  exact fO [some 0] [] ((rta rfl)) ⟨rfl, trivial⟩ rfl
  revert H; refine aN (fun t8363 A H => (cmk (dD.ac A) rfl rfl (cu 374 [(2, .bp 1 0)] [(0, .box [(bV t8345.2.1), .int .i64 t8345.2.2]), (1, .box [(aM t8363.1), (aF t8363.2.1), (aD t8363.2.2.1), (aE t8363.2.2.2)])] rfl rfl rfl ?_)))
  cases H
  exact fO [some 0] [] ((rta rfl)) ⟨rfl, trivial⟩ rfl
  refine Br.f ff_ (Br.f ff_ (Br.f ff_ (Br.f ff_ (cu 326 [(0, .bp 0 0), (2, .bp 1 0), (3, .bp 17 0), (10, .int .i64 x10), (104, .bool false)] [(0, .box [(bV x1000000_3), .int .i64 x1000001_3]), (1, .box [.nil, .nil, .nil, .nil]), (17, .box [(aM x1017000_3), (aF x1017001_3), (aD x1017002_3), (aE x1017003_3)])] rfl rfl rfl (Br.f rfl ?_)))))
  revert H; refine aN (fun t8364 A H => (bW [0] (aS.ac A) ⟨rfl, trivial⟩ rfl rfl rfl rfl rfl rfl rfl rfl (bM H (fun c H => ?_) (fun c H => ?_))))
  refine aL.l6_lp (t8364 := t8364) (k := k) H [] (bX ⟨.inl ⟨rfl, rfl⟩, trivial⟩ trivial fi_ ⟨⟨_, rfl⟩, ⟨_, rfl, ⟨.inl ⟨rfl, rfl⟩, ⟨.inl ⟨rfl, rfl⟩, ⟨.inl ⟨rfl, rfl⟩, ⟨.inl ⟨rfl, rfl⟩, trivial⟩⟩⟩⟩⟩, trivial⟩ rfl) ?_
  intro k x11_1 x1017000_6 x1017001_6 x1017002_6 x1017003_6 hk H; rcases k with _ | k; exact bC H; rw [aL.l6] at H
  refine bM H (fun c H => ?_) (fun c H => ?_)
  revert H; refine aN (fun t8367 A H => (cmk (cD.ac A) rfl rfl (nd_ H (fun c H => (Or.inr (Or.inl ?_))))))
  revert H; refine aN (fun t8368 A H => (eL (cO.ac A) (bT (fF (bD (bY rfl) (bD (bY rfl) (bD (bY rfl) (bD (bY rfl) (fE)))))) (bT (iA lm_ lm_) (eA))) (Or.inl rfl) rfl rfl (Nat.le_of_ble_eq_true rfl) (cu 430 [(0, .bp 0 0), (2, .bp 1 0), (3, .bp 17 0), (11, .int .i64 x11_1)] [(0, .box [(bV t8364.2.1), .int .i64 t8364.2.2]), (1, .box [.nil, .nil, .nil, .nil]), (17, .box [(aM t8368.1), (aF t8368.2.1), (aD t8368.2.2.1), (aE t8368.2.2.2)])] rfl rfl rfl (⟨(k, wrap64 (x11_1 + 1), t8368.1, t8368.2.1, t8368.2.2.1, t8368.2.2.2), [], ⟨H, lt_⟩, lt_, (bX ⟨.inl ⟨rfl, rfl⟩, trivial⟩ trivial fi_ ⟨⟨_, rfl⟩, ⟨_, rfl, ⟨.inl ⟨rfl, rfl⟩, ⟨.inl ⟨rfl, rfl⟩, ⟨.inl ⟨rfl, rfl⟩, ⟨.inl ⟨rfl, rfl⟩, trivial⟩⟩⟩⟩⟩, trivial⟩ rfl)⟩))))
  refine aL.l7_lp (k := k) H [] (bX ⟨.inl ⟨rfl, rfl⟩, trivial⟩ trivial fi_ ⟨⟨_, rfl⟩, ⟨_, rfl, ⟨.inl ⟨rfl, rfl⟩, ⟨.inl ⟨rfl, rfl⟩, trivial⟩⟩⟩, ⟨⟨_, rfl⟩, ⟨_, rfl, ⟨.inl ⟨rfl, rfl⟩, ⟨.inl ⟨rfl, rfl⟩, ⟨.inl ⟨rfl, rfl⟩, ⟨.inl ⟨rfl, rfl⟩, trivial⟩⟩⟩⟩⟩, trivial⟩⟩ rfl) ?_
  intro k x12_1 x1000000_5 x1000001_5 x1017000_7 x1017001_7 x1017002_7 x1017003_7 hk H; rcases k with _ | k; exact bC H; rw [aL.l7] at H
  refine bM H (fun c H => ?_) (fun c H => ?_)
  revert H; refine aN (fun t8377 A H => (cmk (cD.ac A) rfl rfl (nd_ H (fun c H => (Or.inr (Or.inl ?_))))))
  revert H; refine aN (fun t8378 A H => (bW [0] (bA.ac A) ⟨rfl, trivial⟩ rfl rfl rfl rfl rfl (gR ⟨rfl, ⟨kU rfl lm_ lm_, trivial⟩⟩) rfl rfl (Or.inr (Or.inl ?_))))
  revert H; refine aN (fun t8379 A H => (bW [0] (bA.ac A) ⟨rfl, trivial⟩ rfl rfl rfl rfl rfl (gR ⟨rfl, ⟨kU rfl lm_ lm_, trivial⟩⟩) rfl rfl (Or.inr (Or.inl ?_))))
  revert H; refine aN (fun t8380 A H => (eL (cO.ac A) (bT (fF (bD (bY rfl) (bD (bY rfl) (bD (bY rfl) (bD (bY rfl) (fE)))))) (bT (iA lm_ lm_) (eA))) (Or.inl rfl) rfl rfl (Nat.le_of_ble_eq_true rfl) (cu 502 [(0, .bp 0 0), (2, .bp 1 0), (3, .bp 17 0), (12, .int .i64 x12_1)] [(0, .box [(bV t8379.2.1), .int .i64 t8379.2.2]), (1, .box [.nil, .nil, .nil, .nil]), (17, .box [(aM t8380.1), (aF t8380.2.1), (aD t8380.2.2.1), (aE t8380.2.2.2)])] rfl rfl rfl (⟨(k, wrap64 (x12_1 + 1), t8379.2.1, t8379.2.2, t8380.1, t8380.2.1, t8380.2.2.1, t8380.2.2.2), [], ⟨H, lt_⟩, lt_, (bX ⟨.inl ⟨rfl, rfl⟩, trivial⟩ trivial fi_ ⟨⟨_, rfl⟩, ⟨_, rfl, ⟨.inl ⟨rfl, rfl⟩, ⟨.inl ⟨rfl, rfl⟩, trivial⟩⟩⟩, ⟨⟨_, rfl⟩, ⟨_, rfl, ⟨.inl ⟨rfl, rfl⟩, ⟨.inl ⟨rfl, rfl⟩, ⟨.inl ⟨rfl, rfl⟩, ⟨.inl ⟨rfl, rfl⟩, trivial⟩⟩⟩⟩⟩, trivial⟩⟩ rfl)⟩))))
  revert H; refine aN (fun t8381 A H => (cmk (dD.ac A) rfl rfl (cu 422 [(2, .bp 1 0)] [(0, .box [(bV x1000000_5), .int .i64 x1000001_5]), (1, .box [(aM t8381.1), (aF t8381.2.1), (aD t8381.2.2.1), (aE t8381.2.2.2)])] rfl rfl rfl ?_)))
  cases H
  exact fO [some 0] [] ((rta rfl)) ⟨rfl, trivial⟩ rfl
  revert H; refine aN (fun t8382 A H => (cmk (dD.ac A) rfl rfl (cu 374 [(2, .bp 1 0)] [(0, .box [(bV t8364.2.1), .int .i64 t8364.2.2]), (1, .box [(aM t8382.1), (aF t8382.2.1), (aD t8382.2.2.1), (aE t8382.2.2.2)])] rfl rfl rfl ?_)))
  cases H
  exact fO [some 0] [] ((rta rfl)) ⟨rfl, trivial⟩ rfl
  refine Br.f ff_ (Br.f ff_ (Br.f ff_ (Br.f ff_ (Br.f rfl (Or.inl (jW 198 [(0, .bp 0 0), (2, .bp 1 0), (3, .bp 17 0), (7, .own 182 9)] [(0, .box [(bV x1000000_1), .int .i64 x1000001_1]), (1, .box [.nil, .nil, .nil, .nil]), (17, .box [(aM x1017000_1), (aF x1017001_1), (aD x1017002_1), (aE x1017003_1)]), (182, .arr 9 1 (([(⟨#[97]⟩ : ByteArray), (⟨#[98]⟩ : ByteArray), (⟨#[106, 49]⟩ : ByteArray), (⟨#[106, 50]⟩ : ByteArray), (⟨#[106, 51]⟩ : ByteArray), (⟨#[107, 45, 107]⟩ : ByteArray), (⟨#[118, 49]⟩ : ByteArray), (⟨#[118, 50]⟩ : ByteArray), (⟨#[122]⟩ : ByteArray)] : List ByteArray).map aW))] rfl ⟨.inl rfl, ⟨.inl rfl, ⟨.inl rfl, ⟨.inl rfl, trivial⟩⟩⟩⟩ ⟨rfl, ⟨rfl, ⟨rfl, ⟨fm_, trivial⟩⟩⟩⟩ (aL.l8_lp (k := k) H [] (bX ⟨.inl ⟨rfl, rfl⟩, trivial⟩ trivial fi_ ⟨⟨_, rfl⟩, ⟨_, rfl, ⟨.inl ⟨rfl, rfl⟩, ⟨.inl ⟨rfl, rfl⟩, trivial⟩⟩⟩, ⟨⟨_, rfl⟩, ⟨_, rfl, ⟨.inl ⟨rfl, rfl⟩, ⟨.inl ⟨rfl, rfl⟩, ⟨.inl ⟨rfl, rfl⟩, ⟨.inl ⟨rfl, rfl⟩, trivial⟩⟩⟩⟩⟩, trivial⟩⟩ rfl) ?_)))))))
  intro k x8_1 x1000000_6 x1000001_6 x1017000_8 x1017001_8 x1017002_8 x1017003_8 hk H; rcases k with _ | k; exact bC H; rw [aL.l8] at H
  refine bM H (fun c H => ?_) (fun c H => ?_)
  revert H; refine aN (fun t8387 A H => (bW [0] (aS.ac A) ⟨rfl, trivial⟩ rfl rfl rfl rfl rfl rfl rfl rfl (bM H (fun c H => ?_) (fun c H => ?_))))
  exact ⟨(k, wrap64 (x8_1 + 1), t8387.2.1, t8387.2.2, _, _, _, _), [], ⟨H, lt_⟩, lt_, (bX ⟨.inl ⟨rfl, rfl⟩, trivial⟩ trivial fi_ ⟨⟨_, rfl⟩, ⟨_, rfl, ⟨.inl ⟨rfl, rfl⟩, ⟨.inl ⟨rfl, rfl⟩, trivial⟩⟩⟩, ⟨⟨_, rfl⟩, ⟨_, rfl, ⟨.inl ⟨rfl, rfl⟩, ⟨.inl ⟨rfl, rfl⟩, ⟨.inl ⟨rfl, rfl⟩, ⟨.inl ⟨rfl, rfl⟩, trivial⟩⟩⟩⟩⟩, trivial⟩⟩ rfl)⟩
  refine Or.inr (Or.inl ?_)
  revert H; refine aN (fun t8388 A H => (bW [0] (bA.ac A) ⟨rfl, trivial⟩ rfl rfl rfl rfl rfl (gR ⟨rfl, ⟨kU rfl lm_ lm_, trivial⟩⟩) rfl rfl (cu 294 [(0, .bp 0 0), (2, .bp 1 0), (3, .bp 17 0), (7, .own 182 9), (8, .int .i64 x8_1), (9, .str t8388.1)] [(0, .box [(bV t8388.2.1), .int .i64 t8388.2.2]), (1, .box [.nil, .nil, .nil, .nil]), (17, .box [(aM x1017000_8), (aF x1017001_8), (aD x1017002_8), (aE x1017003_8)]), (182, .arr 9 1 (([(⟨#[97]⟩ : ByteArray), (⟨#[98]⟩ : ByteArray), (⟨#[106, 49]⟩ : ByteArray), (⟨#[106, 50]⟩ : ByteArray), (⟨#[106, 51]⟩ : ByteArray), (⟨#[107, 45, 107]⟩ : ByteArray), (⟨#[118, 49]⟩ : ByteArray), (⟨#[118, 50]⟩ : ByteArray), (⟨#[122]⟩ : ByteArray)] : List ByteArray).map aW))] rfl rfl rfl (aL.j1_sq (x8_1 := x8_1) (x1017000_8 := x1017000_8) (x1017001_8 := x1017001_8) (x1017002_8 := x1017002_8) (x1017003_8 := x1017003_8) (t8388 := t8388) (KK := k + 1) (r := r) ?_ ?_))))
  refine bM H (fun c H => ?_) (fun c H => ?_)
  refine Br.t ft_ (Br.t ft_ (⟨(k, decide (x8_1 < 6)), [], ⟨H, lt_⟩, (fq rfl rfl fi_ rfl)⟩))
  refine Br.f ff_ (Br.f ff_ (⟨(k, false), [], ⟨H, lt_⟩, (fq rfl rfl fi_ rfl)⟩))
  intro k x74_1 hk H; rcases k with _ | k; exact bC H; rw [aL.j1] at H
  refine jF H (fun c H => ?_) (fun c H => ?_)
  refine nd_ H (fun c H => (nd_ H (fun c H => (El.mk (aX _ _ nf_ nf_) (Or.inr (Or.inl ?_))))))
  revert H; refine aN (fun t8389 A H => (eL (cO.ac A) (bT (fF (bD (bY rfl) (bD (bY rfl) (bD (bY rfl) (bD (bY rfl) (fE)))))) (bT (iA lm_ lm_) (eA))) (Or.inl rfl) rfl rfl (Nat.le_of_ble_eq_true rfl) (⟨(k, wrap64 (x8_1 + 1), t8388.2.1, t8388.2.2, t8389.1, t8389.2.1, t8389.2.2.1, t8389.2.2.2), [], ⟨H, lt_⟩, lt_, (bX ⟨.inl ⟨rfl, rfl⟩, trivial⟩ trivial fi_ ⟨⟨_, rfl⟩, ⟨_, rfl, ⟨.inl ⟨rfl, rfl⟩, ⟨.inl ⟨rfl, rfl⟩, trivial⟩⟩⟩, ⟨⟨_, rfl⟩, ⟨_, rfl, ⟨.inl ⟨rfl, rfl⟩, ⟨.inl ⟨rfl, rfl⟩, ⟨.inl ⟨rfl, rfl⟩, ⟨.inl ⟨rfl, rfl⟩, trivial⟩⟩⟩⟩⟩, trivial⟩⟩ rfl)⟩)))
  refine nd_ H (fun c H => (nd_ H (fun c H => (El.mk (aX _ _ nf_ nf_) ?_))))
  revert H; refine aN (fun t8390 A H => (bW [0] (aS.ac A) ⟨rfl, trivial⟩ rfl rfl rfl rfl rfl rfl rfl rfl ?_))
  revert H; refine aN (fun t8391 A H => (cmk (cD.ac A) rfl rfl (Or.inr (Or.inl ?_))))
  revert H; refine aN (fun t8392 A H => (eL (cO.ac A) (bT (fF (bD (bY rfl) (bD (bY rfl) (bD (bY rfl) (bD (bY rfl) (fE)))))) (bT (iA lm_ lm_) (eA))) (Or.inl rfl) rfl rfl (Nat.le_of_ble_eq_true rfl) (⟨(k, wrap64 (x8_1 + 1), t8390.2.1, t8390.2.2, t8392.1, t8392.2.1, t8392.2.2.1, t8392.2.2.2), [], ⟨H, lt_⟩, lt_, (bX ⟨.inl ⟨rfl, rfl⟩, trivial⟩ trivial fi_ ⟨⟨_, rfl⟩, ⟨_, rfl, ⟨.inl ⟨rfl, rfl⟩, ⟨.inl ⟨rfl, rfl⟩, trivial⟩⟩⟩, ⟨⟨_, rfl⟩, ⟨_, rfl, ⟨.inl ⟨rfl, rfl⟩, ⟨.inl ⟨rfl, rfl⟩, ⟨.inl ⟨rfl, rfl⟩, ⟨.inl ⟨rfl, rfl⟩, trivial⟩⟩⟩⟩⟩, trivial⟩⟩ rfl)⟩)))
  revert H; refine aN (fun t8393 A H => (bW [0] (aS.ac A) ⟨rfl, trivial⟩ rfl rfl rfl rfl rfl rfl rfl rfl (aL.l9_lp (k := k) H [] (bX ⟨.inl ⟨rfl, rfl⟩, trivial⟩ trivial fi_ ⟨⟨_, rfl⟩, ⟨_, rfl, ⟨.inl ⟨rfl, rfl⟩, ⟨.inl ⟨rfl, rfl⟩, trivial⟩⟩⟩, ⟨⟨_, rfl⟩, ⟨_, rfl, ⟨.inl ⟨rfl, rfl⟩, ⟨.inl ⟨rfl, rfl⟩, ⟨.inl ⟨rfl, rfl⟩, ⟨.inl ⟨rfl, rfl⟩, trivial⟩⟩⟩⟩⟩, trivial⟩⟩ rfl) ?_)))
  intro k x10_1 x1000000_7 x1000001_7 x1017000_9 x1017001_9 x1017002_9 x1017003_9 hk H; rcases k with _ | k; exact bC H; rw [aL.l9] at H
  refine bM H (fun c H => ?_) (fun c H => ?_)
  refine Br.t ft_ (Br.t ft_ (Br.t ft_ (Br.t ft_ (cu 326 [(0, .bp 0 0), (2, .bp 1 0), (3, .bp 17 0), (10, .int .i64 x10_1), (104, .bool (decide ((x1017002_9.length : Int) > 1)))] [(0, .box [(bV x1000000_7), .int .i64 x1000001_7]), (1, .box [.nil, .nil, .nil, .nil]), (17, .box [(aM x1017000_9), (aF x1017001_9), (aD x1017002_9), (aE x1017003_9)])] rfl rfl rfl (bM H (fun c H => ?_) (fun c H => ?_))))))
  revert H; refine aN (fun t8412 A H => (bW [0] (aS.ac A) ⟨rfl, trivial⟩ rfl rfl rfl rfl rfl rfl rfl rfl ?_))
  revert H; refine aN (fun t8413 A H => (cmk (cD.ac A) rfl rfl (nd_ H (fun c H => ?_))))
  revert H; refine aN (fun t8414 A H => (bW [0] (aS.ac A) ⟨rfl, trivial⟩ rfl rfl rfl rfl rfl rfl rfl rfl (nd_ H (fun c H => (nd_ H (fun c H => (El.mk (bJ _ _ nf_ nf_) ?_)))))))
  revert H; refine aN (fun t8415 A H => (bW [0] (aS.ac A) ⟨rfl, trivial⟩ rfl rfl rfl rfl rfl rfl rfl rfl (nd_ H (fun c H => (nd_ H (fun c H => (El.mk (bJ _ _ nf_ nf_) (Or.inr (Or.inl ?_)))))))))
  revert H; refine aN (fun t8416 A H => (bW [0] (bA.ac A) ⟨rfl, trivial⟩ rfl rfl rfl rfl rfl (gR ⟨rfl, ⟨kU rfl lm_ lm_, trivial⟩⟩) rfl rfl (Or.inr (Or.inl ?_))))
  revert H; refine aN (fun t8417 A H => (eL (cO.ac A) (bT (fF (bD (bY rfl) (bD (bY rfl) (bD (bY rfl) (bD (bY rfl) (fE)))))) (bT (iA lm_ lm_) (eA))) (Or.inl rfl) rfl rfl (Nat.le_of_ble_eq_true rfl) (cu 574 [(0, .bp 0 0), (2, .bp 1 0), (3, .bp 17 0), (10, .int .i64 x10_1)] [(0, .box [(bV t8416.2.1), .int .i64 t8416.2.2]), (1, .box [.nil, .nil, .nil, .nil]), (17, .box [(aM t8417.1), (aF t8417.2.1), (aD t8417.2.2.1), (aE t8417.2.2.2)])] rfl rfl rfl (⟨(k, wrap64 (x10_1 - 1), t8416.2.1, t8416.2.2, t8417.1, t8417.2.1, t8417.2.2.1, t8417.2.2.2), [], ⟨H, lt_⟩, lt_, (bX ⟨.inl ⟨rfl, rfl⟩, trivial⟩ trivial fi_ ⟨⟨_, rfl⟩, ⟨_, rfl, ⟨.inl ⟨rfl, rfl⟩, ⟨.inl ⟨rfl, rfl⟩, trivial⟩⟩⟩, ⟨⟨_, rfl⟩, ⟨_, rfl, ⟨.inl ⟨rfl, rfl⟩, ⟨.inl ⟨rfl, rfl⟩, ⟨.inl ⟨rfl, rfl⟩, ⟨.inl ⟨rfl, rfl⟩, trivial⟩⟩⟩⟩⟩, trivial⟩⟩ rfl)⟩))))
  revert H; refine aN (fun t8418 A H => (bW [0] (aS.ac A) ⟨rfl, trivial⟩ rfl rfl rfl rfl rfl rfl rfl rfl (bM H (fun c H => ?_) (fun c H => ?_))))
  refine aL.l10_lp (t8418 := t8418) (k := k) H [] (bX ⟨.inl ⟨rfl, rfl⟩, trivial⟩ trivial fi_ ⟨⟨_, rfl⟩, ⟨_, rfl, ⟨.inl ⟨rfl, rfl⟩, ⟨.inl ⟨rfl, rfl⟩, ⟨.inl ⟨rfl, rfl⟩, ⟨.inl ⟨rfl, rfl⟩, trivial⟩⟩⟩⟩⟩, trivial⟩ rfl) ?_
  intro k x11_2 x1017000_10 x1017001_10 x1017002_10 x1017003_10 hk H; rcases k with _ | k; exact bC H; rw [aL.l10] at H
  refine bM H (fun c H => ?_) (fun c H => ?_)
  revert H; refine aN (fun t8421 A H => (cmk (cD.ac A) rfl rfl (nd_ H (fun c H => (Or.inr (Or.inl ?_))))))
  revert H; refine aN (fun t8422 A H => (eL (cO.ac A) (bT (fF (bD (bY rfl) (bD (bY rfl) (bD (bY rfl) (bD (bY rfl) (fE)))))) (bT (iA lm_ lm_) (eA))) (Or.inl rfl) rfl rfl (Nat.le_of_ble_eq_true rfl) (cu 430 [(0, .bp 0 0), (2, .bp 1 0), (3, .bp 17 0), (11, .int .i64 x11_2)] [(0, .box [(bV t8418.2.1), .int .i64 t8418.2.2]), (1, .box [.nil, .nil, .nil, .nil]), (17, .box [(aM t8422.1), (aF t8422.2.1), (aD t8422.2.2.1), (aE t8422.2.2.2)])] rfl rfl rfl (⟨(k, wrap64 (x11_2 + 1), t8422.1, t8422.2.1, t8422.2.2.1, t8422.2.2.2), [], ⟨H, lt_⟩, lt_, (bX ⟨.inl ⟨rfl, rfl⟩, trivial⟩ trivial fi_ ⟨⟨_, rfl⟩, ⟨_, rfl, ⟨.inl ⟨rfl, rfl⟩, ⟨.inl ⟨rfl, rfl⟩, ⟨.inl ⟨rfl, rfl⟩, ⟨.inl ⟨rfl, rfl⟩, trivial⟩⟩⟩⟩⟩, trivial⟩ rfl)⟩))))
  refine aL.l11_lp (k := k) H [] (bX ⟨.inl ⟨rfl, rfl⟩, trivial⟩ trivial fi_ ⟨⟨_, rfl⟩, ⟨_, rfl, ⟨.inl ⟨rfl, rfl⟩, ⟨.inl ⟨rfl, rfl⟩, trivial⟩⟩⟩, ⟨⟨_, rfl⟩, ⟨_, rfl, ⟨.inl ⟨rfl, rfl⟩, ⟨.inl ⟨rfl, rfl⟩, ⟨.inl ⟨rfl, rfl⟩, ⟨.inl ⟨rfl, rfl⟩, trivial⟩⟩⟩⟩⟩, trivial⟩⟩ rfl) ?_
  intro k x12_2 x1000000_8 x1000001_8 x1017000_11 x1017001_11 x1017002_11 x1017003_11 hk H; rcases k with _ | k; exact bC H; rw [aL.l11] at H
  refine bM H (fun c H => ?_) (fun c H => ?_)
  revert H; refine aN (fun t8431 A H => (cmk (cD.ac A) rfl rfl (nd_ H (fun c H => (Or.inr (Or.inl ?_))))))
  revert H; refine aN (fun t8432 A H => (bW [0] (bA.ac A) ⟨rfl, trivial⟩ rfl rfl rfl rfl rfl (gR ⟨rfl, ⟨kU rfl lm_ lm_, trivial⟩⟩) rfl rfl (Or.inr (Or.inl ?_))))
  revert H; refine aN (fun t8433 A H => (bW [0] (bA.ac A) ⟨rfl, trivial⟩ rfl rfl rfl rfl rfl (gR ⟨rfl, ⟨kU rfl lm_ lm_, trivial⟩⟩) rfl rfl (Or.inr (Or.inl ?_))))
  revert H; refine aN (fun t8434 A H => (eL (cO.ac A) (bT (fF (bD (bY rfl) (bD (bY rfl) (bD (bY rfl) (bD (bY rfl) (fE)))))) (bT (iA lm_ lm_) (eA))) (Or.inl rfl) rfl rfl (Nat.le_of_ble_eq_true rfl) (cu 502 [(0, .bp 0 0), (2, .bp 1 0), (3, .bp 17 0), (12, .int .i64 x12_2)] [(0, .box [(bV t8433.2.1), .int .i64 t8433.2.2]), (1, .box [.nil, .nil, .nil, .nil]), (17, .box [(aM t8434.1), (aF t8434.2.1), (aD t8434.2.2.1), (aE t8434.2.2.2)])] rfl rfl rfl (⟨(k, wrap64 (x12_2 + 1), t8433.2.1, t8433.2.2, t8434.1, t8434.2.1, t8434.2.2.1, t8434.2.2.2), [], ⟨H, lt_⟩, lt_, (bX ⟨.inl ⟨rfl, rfl⟩, trivial⟩ trivial fi_ ⟨⟨_, rfl⟩, ⟨_, rfl, ⟨.inl ⟨rfl, rfl⟩, ⟨.inl ⟨rfl, rfl⟩, trivial⟩⟩⟩, ⟨⟨_, rfl⟩, ⟨_, rfl, ⟨.inl ⟨rfl, rfl⟩, ⟨.inl ⟨rfl, rfl⟩, ⟨.inl ⟨rfl, rfl⟩, ⟨.inl ⟨rfl, rfl⟩, trivial⟩⟩⟩⟩⟩, trivial⟩⟩ rfl)⟩))))
  revert H; refine aN (fun t8435 A H => (cmk (dD.ac A) rfl rfl (cu 422 [(2, .bp 1 0)] [(0, .box [(bV x1000000_8), .int .i64 x1000001_8]), (1, .box [(aM t8435.1), (aF t8435.2.1), (aD t8435.2.2.1), (aE t8435.2.2.2)])] rfl rfl rfl ?_)))
  cases H
  exact fO [some 0] [] ((rta rfl)) ⟨rfl, trivial⟩ rfl
  revert H; refine aN (fun t8436 A H => (cmk (dD.ac A) rfl rfl (cu 374 [(2, .bp 1 0)] [(0, .box [(bV t8418.2.1), .int .i64 t8418.2.2]), (1, .box [(aM t8436.1), (aF t8436.2.1), (aD t8436.2.2.1), (aE t8436.2.2.2)])] rfl rfl rfl ?_)))
  cases H
  exact fO [some 0] [] ((rta rfl)) ⟨rfl, trivial⟩ rfl
  refine Br.f ff_ (Br.f ff_ (Br.f ff_ (Br.f ff_ (cu 326 [(0, .bp 0 0), (2, .bp 1 0), (3, .bp 17 0), (10, .int .i64 x10_1), (104, .bool false)] [(0, .box [(bV x1000000_7), .int .i64 x1000001_7]), (1, .box [.nil, .nil, .nil, .nil]), (17, .box [(aM x1017000_9), (aF x1017001_9), (aD x1017002_9), (aE x1017003_9)])] rfl rfl rfl (Br.f rfl ?_)))))
  revert H; refine aN (fun t8437 A H => (bW [0] (aS.ac A) ⟨rfl, trivial⟩ rfl rfl rfl rfl rfl rfl rfl rfl (bM H (fun c H => ?_) (fun c H => ?_))))
  refine aL.l12_lp (t8437 := t8437) (k := k) H [] (bX ⟨.inl ⟨rfl, rfl⟩, trivial⟩ trivial fi_ ⟨⟨_, rfl⟩, ⟨_, rfl, ⟨.inl ⟨rfl, rfl⟩, ⟨.inl ⟨rfl, rfl⟩, ⟨.inl ⟨rfl, rfl⟩, ⟨.inl ⟨rfl, rfl⟩, trivial⟩⟩⟩⟩⟩, trivial⟩ rfl) ?_
  intro k x11_3 x1017000_12 x1017001_12 x1017002_12 x1017003_12 hk H; rcases k with _ | k; exact bC H; rw [aL.l12] at H
  refine bM H (fun c H => ?_) (fun c H => ?_)
  revert H; refine aN (fun t8440 A H => (cmk (cD.ac A) rfl rfl (nd_ H (fun c H => (Or.inr (Or.inl ?_))))))
  revert H; refine aN (fun t8441 A H => (eL (cO.ac A) (bT (fF (bD (bY rfl) (bD (bY rfl) (bD (bY rfl) (bD (bY rfl) (fE)))))) (bT (iA lm_ lm_) (eA))) (Or.inl rfl) rfl rfl (Nat.le_of_ble_eq_true rfl) (cu 430 [(0, .bp 0 0), (2, .bp 1 0), (3, .bp 17 0), (11, .int .i64 x11_3)] [(0, .box [(bV t8437.2.1), .int .i64 t8437.2.2]), (1, .box [.nil, .nil, .nil, .nil]), (17, .box [(aM t8441.1), (aF t8441.2.1), (aD t8441.2.2.1), (aE t8441.2.2.2)])] rfl rfl rfl (⟨(k, wrap64 (x11_3 + 1), t8441.1, t8441.2.1, t8441.2.2.1, t8441.2.2.2), [], ⟨H, lt_⟩, lt_, (bX ⟨.inl ⟨rfl, rfl⟩, trivial⟩ trivial fi_ ⟨⟨_, rfl⟩, ⟨_, rfl, ⟨.inl ⟨rfl, rfl⟩, ⟨.inl ⟨rfl, rfl⟩, ⟨.inl ⟨rfl, rfl⟩, ⟨.inl ⟨rfl, rfl⟩, trivial⟩⟩⟩⟩⟩, trivial⟩ rfl)⟩))))
  refine aL.l13_lp (k := k) H [] (bX ⟨.inl ⟨rfl, rfl⟩, trivial⟩ trivial fi_ ⟨⟨_, rfl⟩, ⟨_, rfl, ⟨.inl ⟨rfl, rfl⟩, ⟨.inl ⟨rfl, rfl⟩, trivial⟩⟩⟩, ⟨⟨_, rfl⟩, ⟨_, rfl, ⟨.inl ⟨rfl, rfl⟩, ⟨.inl ⟨rfl, rfl⟩, ⟨.inl ⟨rfl, rfl⟩, ⟨.inl ⟨rfl, rfl⟩, trivial⟩⟩⟩⟩⟩, trivial⟩⟩ rfl) ?_
  intro k x12_3 x1000000_9 x1000001_9 x1017000_13 x1017001_13 x1017002_13 x1017003_13 hk H; rcases k with _ | k; exact bC H; rw [aL.l13] at H
  refine bM H (fun c H => ?_) (fun c H => ?_)
  revert H; refine aN (fun t8450 A H => (cmk (cD.ac A) rfl rfl (nd_ H (fun c H => (Or.inr (Or.inl ?_))))))
  revert H; refine aN (fun t8451 A H => (bW [0] (bA.ac A) ⟨rfl, trivial⟩ rfl rfl rfl rfl rfl (gR ⟨rfl, ⟨kU rfl lm_ lm_, trivial⟩⟩) rfl rfl (Or.inr (Or.inl ?_))))
  revert H; refine aN (fun t8452 A H => (bW [0] (bA.ac A) ⟨rfl, trivial⟩ rfl rfl rfl rfl rfl (gR ⟨rfl, ⟨kU rfl lm_ lm_, trivial⟩⟩) rfl rfl (Or.inr (Or.inl ?_))))
  revert H; refine aN (fun t8453 A H => (eL (cO.ac A) (bT (fF (bD (bY rfl) (bD (bY rfl) (bD (bY rfl) (bD (bY rfl) (fE)))))) (bT (iA lm_ lm_) (eA))) (Or.inl rfl) rfl rfl (Nat.le_of_ble_eq_true rfl) (cu 502 [(0, .bp 0 0), (2, .bp 1 0), (3, .bp 17 0), (12, .int .i64 x12_3)] [(0, .box [(bV t8452.2.1), .int .i64 t8452.2.2]), (1, .box [.nil, .nil, .nil, .nil]), (17, .box [(aM t8453.1), (aF t8453.2.1), (aD t8453.2.2.1), (aE t8453.2.2.2)])] rfl rfl rfl (⟨(k, wrap64 (x12_3 + 1), t8452.2.1, t8452.2.2, t8453.1, t8453.2.1, t8453.2.2.1, t8453.2.2.2), [], ⟨H, lt_⟩, lt_, (bX ⟨.inl ⟨rfl, rfl⟩, trivial⟩ trivial fi_ ⟨⟨_, rfl⟩, ⟨_, rfl, ⟨.inl ⟨rfl, rfl⟩, ⟨.inl ⟨rfl, rfl⟩, trivial⟩⟩⟩, ⟨⟨_, rfl⟩, ⟨_, rfl, ⟨.inl ⟨rfl, rfl⟩, ⟨.inl ⟨rfl, rfl⟩, ⟨.inl ⟨rfl, rfl⟩, ⟨.inl ⟨rfl, rfl⟩, trivial⟩⟩⟩⟩⟩, trivial⟩⟩ rfl)⟩))))
  revert H; refine aN (fun t8454 A H => (cmk (dD.ac A) rfl rfl (cu 422 [(2, .bp 1 0)] [(0, .box [(bV x1000000_9), .int .i64 x1000001_9]), (1, .box [(aM t8454.1), (aF t8454.2.1), (aD t8454.2.2.1), (aE t8454.2.2.2)])] rfl rfl rfl ?_)))
  cases H
  exact fO [some 0] [] ((rta rfl)) ⟨rfl, trivial⟩ rfl
  revert H; refine aN (fun t8455 A H => (cmk (dD.ac A) rfl rfl (cu 374 [(2, .bp 1 0)] [(0, .box [(bV t8437.2.1), .int .i64 t8437.2.2]), (1, .box [(aM t8455.1), (aF t8455.2.1), (aD t8455.2.2.1), (aE t8455.2.2.2)])] rfl rfl rfl ?_)))
  cases H
  exact fO [some 0] [] ((rta rfl)) ⟨rfl, trivial⟩ rfl
theorem aT.j0_sq {F : (Exit → St → Prop) → St → Prop} {hv : List Tmp} {K : St → Prop} {Q : Exit → St → Prop} {σ : St} {r : (List ByteArray) × (List aC) × (List aB) × (List aA) × (List Int) × Int} {KK : Nat}
    (h1 : F (fun e σ' => match e with | .normal => ∃ (y : Nat × (List ByteArray) × (List aC) × (List aB) × (List aA) × (List Int) × Int) (rn : List (Option Nat)), (aT.j0 y.1 y.2.2.2.2.2.1 y.2.2.2.2.2.2 y.2.1 y.2.2.1 y.2.2.2.1 y.2.2.2.2.1 = some r ∧ y.1 < KK) ∧ cJ σ σ' [33, 25, 26, 27, 28, 1, 0] [] [(33, .box [.own 0 y.2.1.length, .own 1 y.2.2.1.length, .own 2 y.2.2.2.1.length, .own 3 y.2.2.2.2.1.length]), (0, .box [(bV y.2.2.2.2.2.1), .int .i64 y.2.2.2.2.2.2])] [.arr 9 1 (y.2.1.map aW), .arr 47 2 (y.2.2.1.map aJ), .arr 49 3 (y.2.2.2.1.map aH), .arr 52 4 (y.2.2.2.2.1.map aG)] rn | e => Q e σ') σ)
    (h2 : ∀ (k : Nat) (x1033000 : List ByteArray) (x1033001 : List aC) (x1033002 : List aB) (x1033003 : List aA) (x1000000 : List Int) (x1000001 : Int), k < KK → aT.j0 k x1000000 x1000001 x1033000 x1033001 x1033002 x1033003 = some r → dE σ hv [33, 25, 26, 27, 28, 1, 0] [] [(33, .box [.own 0 x1033000.length, .own 1 x1033001.length, .own 2 x1033002.length, .own 3 x1033003.length]), (0, .box [(bV x1000000), .int .i64 x1000001])] [.arr 9 1 (x1033000.map aW), .arr 47 2 (x1033001.map aJ), .arr 49 3 (x1033002.map aH), .arr 52 4 (x1033003.map aG)] K) : Sq F hv K Q σ := by
  unfold Sq
  refine ⟨Nat × (List ByteArray) × (List aC) × (List aB) × (List aA) × (List Int) × Int, fun x => aT.j0 x.1 x.2.2.2.2.2.1 x.2.2.2.2.2.2 x.2.1 x.2.2.1 x.2.2.2.1 x.2.2.2.2.1 = some r ∧ x.1 < KK, [33, 25, 26, 27, 28, 1, 0], fun x => [], fun x => [(33, .box [.own 0 x.2.1.length, .own 1 x.2.2.1.length, .own 2 x.2.2.2.1.length, .own 3 x.2.2.2.2.1.length]), (0, .box [(bV x.2.2.2.2.2.1), .int .i64 x.2.2.2.2.2.2])], fun x => [.arr 9 1 (x.2.1.map aW), .arr 47 2 (x.2.2.1.map aJ), .arr 49 3 (x.2.2.2.1.map aH), .arr 52 4 (x.2.2.2.2.1.map aG)], h1, ?_⟩
  rintro ⟨k, x1033000, x1033001, x1033002, x1033003, x1000000, x1000001⟩ ⟨H, hk⟩
  exact h2 k x1033000 x1033001 x1033002 x1033003 x1000000 x1000001 hk H
theorem aT.l0_lp {F : (Exit → St → Prop) → St → Prop} {hv : List Tmp} {Q : Exit → St → Prop} {σ : St} {r : (List ByteArray) × (List aC) × (List aB) × (List aA) × (List Int) × Int} {k : Nat} {t8635 : Int × (List Int) × Int} {x10 : Int} {x1033000_1 : List ByteArray} {x1033001_1 : List aC} {x1033002_1 : List aB} {x1033003_1 : List aA} (H : aT.l0 k x10 x1033000_1 x1033001_1 x1033002_1 x1033003_1 t8635 = some r) (rn : List (Option Nat)) (h1 : cJ σ σ [25, 26, 27, 28, 33] [(10, .int .i64 x10)] [(33, .box [.own 0 x1033000_1.length, .own 1 x1033001_1.length, .own 2 x1033002_1.length, .own 3 x1033003_1.length])] [.arr 9 1 (x1033000_1.map aW), .arr 47 2 (x1033001_1.map aJ), .arr 49 3 (x1033002_1.map aH), .arr 52 4 (x1033003_1.map aG)] rn)
    (h2 : ∀ (k0 : Nat) (x10 : Int) (x1033000_1 : List ByteArray) (x1033001_1 : List aC) (x1033002_1 : List aB) (x1033003_1 : List aA), k0 < k + 1 → aT.l0 k0 x10 x1033000_1 x1033001_1 x1033002_1 x1033003_1 t8635 = some r → dE σ hv [25, 26, 27, 28, 33] [(10, .int .i64 x10)] [(33, .box [.own 0 x1033000_1.length, .own 1 x1033001_1.length, .own 2 x1033002_1.length, .own 3 x1033003_1.length])] [.arr 9 1 (x1033000_1.map aW), .arr 47 2 (x1033001_1.map aJ), .arr 49 3 (x1033002_1.map aH), .arr 52 4 (x1033003_1.map aG)] (F (fun e σ' => match e with | .normal => ∃ (y : Nat × Int × (List ByteArray) × (List aC) × (List aB) × (List aA)) (rn : List (Option Nat)), (aT.l0 y.1 y.2.1 y.2.2.1 y.2.2.2.1 y.2.2.2.2.1 y.2.2.2.2.2 t8635 = some r ∧ y.1 < k + 1) ∧ y.1 < k0 ∧ cJ σ σ' [25, 26, 27, 28, 33] [(10, .int .i64 y.2.1)] [(33, .box [.own 0 y.2.2.1.length, .own 1 y.2.2.2.1.length, .own 2 y.2.2.2.2.1.length, .own 3 y.2.2.2.2.2.length])] [.arr 9 1 (y.2.2.1.map aW), .arr 47 2 (y.2.2.2.1.map aJ), .arr 49 3 (y.2.2.2.2.1.map aH), .arr 52 4 (y.2.2.2.2.2.map aG)] rn | e => Q e σ'))) : Lp F hv Q σ := by
  unfold Lp
  refine ⟨Nat × Int × (List ByteArray) × (List aC) × (List aB) × (List aA), fun x => aT.l0 x.1 x.2.1 x.2.2.1 x.2.2.2.1 x.2.2.2.2.1 x.2.2.2.2.2 t8635 = some r ∧ x.1 < k + 1, fun x => x.1, [25, 26, 27, 28, 33], fun x => [(10, .int .i64 x.2.1)], fun x => [(33, .box [.own 0 x.2.2.1.length, .own 1 x.2.2.2.1.length, .own 2 x.2.2.2.2.1.length, .own 3 x.2.2.2.2.2.length])], fun x => [.arr 9 1 (x.2.2.1.map aW), .arr 47 2 (x.2.2.2.1.map aJ), .arr 49 3 (x.2.2.2.2.1.map aH), .arr 52 4 (x.2.2.2.2.2.map aG)], ⟨(k, x10, x1033000_1, x1033001_1, x1033002_1, x1033003_1), rn, ⟨H, Nat.lt_succ_self _⟩, h1⟩, ?_⟩
  rintro ⟨k, x10, x1033000_1, x1033001_1, x1033002_1, x1033003_1⟩ ⟨H, hk⟩
  exact h2 k x10 x1033000_1 x1033001_1 x1033002_1 x1033003_1 hk H
theorem aT.l1_lp {F : (Exit → St → Prop) → St → Prop} {hv : List Tmp} {Q : Exit → St → Prop} {σ : St} {r : (List ByteArray) × (List aC) × (List aB) × (List aA) × (List Int) × Int} {k : Nat} {t8638 : Int × (List Int) × Int} {x12 : Int} {x1033000_2 : List ByteArray} {x1033001_2 : List aC} {x1033002_2 : List aB} {x1033003_2 : List aA} (H : aT.l1 k x12 x1033000_2 x1033001_2 x1033002_2 x1033003_2 t8638 = some r) (rn : List (Option Nat)) (h1 : cJ σ σ [25, 26, 27, 28, 33] [(12, .int .i64 x12)] [(33, .box [.own 0 x1033000_2.length, .own 1 x1033001_2.length, .own 2 x1033002_2.length, .own 3 x1033003_2.length])] [.arr 9 1 (x1033000_2.map aW), .arr 47 2 (x1033001_2.map aJ), .arr 49 3 (x1033002_2.map aH), .arr 52 4 (x1033003_2.map aG)] rn)
    (h2 : ∀ (k0 : Nat) (x12 : Int) (x1033000_2 : List ByteArray) (x1033001_2 : List aC) (x1033002_2 : List aB) (x1033003_2 : List aA), k0 < k + 1 → aT.l1 k0 x12 x1033000_2 x1033001_2 x1033002_2 x1033003_2 t8638 = some r → dE σ hv [25, 26, 27, 28, 33] [(12, .int .i64 x12)] [(33, .box [.own 0 x1033000_2.length, .own 1 x1033001_2.length, .own 2 x1033002_2.length, .own 3 x1033003_2.length])] [.arr 9 1 (x1033000_2.map aW), .arr 47 2 (x1033001_2.map aJ), .arr 49 3 (x1033002_2.map aH), .arr 52 4 (x1033003_2.map aG)] (F (fun e σ' => match e with | .normal => ∃ (y : Nat × Int × (List ByteArray) × (List aC) × (List aB) × (List aA)) (rn : List (Option Nat)), (aT.l1 y.1 y.2.1 y.2.2.1 y.2.2.2.1 y.2.2.2.2.1 y.2.2.2.2.2 t8638 = some r ∧ y.1 < k + 1) ∧ y.1 < k0 ∧ cJ σ σ' [25, 26, 27, 28, 33] [(12, .int .i64 y.2.1)] [(33, .box [.own 0 y.2.2.1.length, .own 1 y.2.2.2.1.length, .own 2 y.2.2.2.2.1.length, .own 3 y.2.2.2.2.2.length])] [.arr 9 1 (y.2.2.1.map aW), .arr 47 2 (y.2.2.2.1.map aJ), .arr 49 3 (y.2.2.2.2.1.map aH), .arr 52 4 (y.2.2.2.2.2.map aG)] rn | e => Q e σ'))) : Lp F hv Q σ := by
  unfold Lp
  refine ⟨Nat × Int × (List ByteArray) × (List aC) × (List aB) × (List aA), fun x => aT.l1 x.1 x.2.1 x.2.2.1 x.2.2.2.1 x.2.2.2.2.1 x.2.2.2.2.2 t8638 = some r ∧ x.1 < k + 1, fun x => x.1, [25, 26, 27, 28, 33], fun x => [(12, .int .i64 x.2.1)], fun x => [(33, .box [.own 0 x.2.2.1.length, .own 1 x.2.2.2.1.length, .own 2 x.2.2.2.2.1.length, .own 3 x.2.2.2.2.2.length])], fun x => [.arr 9 1 (x.2.2.1.map aW), .arr 47 2 (x.2.2.2.1.map aJ), .arr 49 3 (x.2.2.2.2.1.map aH), .arr 52 4 (x.2.2.2.2.2.map aG)], ⟨(k, x12, x1033000_2, x1033001_2, x1033002_2, x1033003_2), rn, ⟨H, Nat.lt_succ_self _⟩, h1⟩, ?_⟩
  rintro ⟨k, x12, x1033000_2, x1033001_2, x1033002_2, x1033003_2⟩ ⟨H, hk⟩
  exact h2 k x12 x1033000_2 x1033001_2 x1033002_2 x1033003_2 hk H

end Go.Proofs.YtnobkcplpbkigaaGreatDoor.VP

