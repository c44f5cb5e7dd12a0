import Derived.Test.YteflhnpcgoijfaaDoorZFnRecText1
import Derived.Shelf.Lay
import Derived.Test.YteflhnpcgoijfaaDoorProg
import Derived.KernelRfl
set_option linter.unusedVariables false
set_option linter.unusedSimpArgs false
namespace Go.Proofs.YteflhnpcgoijfaaDoor.RT
open Go Go.Aw Go.RowKit Go.Proofs
set_option maxRecDepth 100000
set_option maxHeartbeats 40000000
variable {G : Nat → Option Obj}
def tab : List (TypeId × TI) := [(2, ⟨1, 8, false, 0, 0, [], [.int .i64 0], some .i64, false, false, false, [], [0], []⟩),
  (3, ⟨1, 8, false, 0, 0, [], [.int .i64 0], some .i64, false, false, false, [], [0], []⟩),
  (4, ⟨1, 1, false, 0, 0, [], [.bool false], none, false, false, true, [], [0], []⟩),
  (5, ⟨1, 1, false, 0, 0, [], [.int .u8 0], some .u8, false, false, false, [], [0], []⟩),
  (6, ⟨1, 1, false, 0, 0, [], [.int .u8 0], some .u8, false, false, false, [], [0], []⟩),
  (7, ⟨4, 24, true, 0, 0, [(0, 2), (1, 3), (2, 4), (3, 6)], [.int .i64 0, .int .i64 0, .bool false, .int .u8 0], none, false, false, false, [(0, 1), (1, 1), (2, 1), (3, 1)], [0, 0, 0, 0], []⟩),
  (8, ⟨4, 24, true, 0, 0, [(0, 2), (1, 3), (2, 4), (3, 6)], [.int .i64 0, .int .i64 0, .bool false, .int .u8 0], none, false, false, false, [(0, 1), (1, 1), (2, 1), (3, 1)], [0, 0, 0, 0], []⟩),
  (9, ⟨1, 16, false, 0, 0, [], [.str ⟨#[]⟩], none, true, false, false, [], [0], []⟩),
  (10, ⟨1, 16, false, 0, 0, [], [.str ⟨#[]⟩], none, true, false, false, [], [0], []⟩),
  (11, ⟨1, 16, false, 0, 0, [], [.str ⟨#[]⟩], none, true, false, false, [], [0], []⟩),
  (12, ⟨1, 8, false, 0, 0, [], [.int .u64 0], some .u64, false, false, false, [], [0], []⟩),
  (13, ⟨2, 24, true, 0, 0, [(0, 9), (1, 12)], [.str ⟨#[]⟩, .int .u64 0], none, false, false, false, [(0, 1), (1, 1)], [0, 0], []⟩),
  (14, ⟨2, 24, true, 0, 0, [(0, 9), (1, 12)], [.str ⟨#[]⟩, .int .u64 0], none, false, false, false, [(0, 1), (1, 1)], [0, 0], []⟩),
  (21, ⟨1, 4, false, 0, 0, [], [.int .i32 0], some .i32, false, false, false, [], [0], []⟩),
  (22, ⟨1, 24, false, 9, 0, [], [.nil], none, false, true, false, [], [1], []⟩),
  (28, ⟨1, 24, false, 5, 0, [], [.nil], none, false, true, false, [], [1], []⟩),
  (31, ⟨1, 24, false, 72, 0, [], [.nil], none, false, true, false, [], [8], []⟩),
  (34, ⟨1, 24, false, 73, 0, [], [.nil], none, false, true, false, [], [8], []⟩),
  (38, ⟨1, 24, false, 112, 0, [], [.nil], none, false, true, false, [], [2], []⟩),
  (39, ⟨1, 24, false, 114, 0, [], [.nil], none, false, true, false, [], [3], []⟩),
  (40, ⟨1, 24, false, 116, 0, [], [.nil], none, false, true, false, [], [4], []⟩),
  (41, ⟨4, 96, true, 0, 0, [(0, 22), (1, 38), (2, 39), (3, 40)], [.nil, .nil, .nil, .nil], none, false, false, false, [(0, 1), (1, 1), (2, 1), (3, 1)], [1, 2, 3, 4], []⟩),
  (42, ⟨4, 96, true, 0, 0, [(0, 22), (1, 38), (2, 39), (3, 40)], [.nil, .nil, .nil, .nil], none, false, false, false, [(0, 1), (1, 1), (2, 1), (3, 1)], [1, 2, 3, 4], []⟩),
  (45, ⟨1, 24, false, 81, 0, [], [.nil], none, false, true, false, [], [2], []⟩),
  (46, ⟨1, 24, false, 83, 0, [], [.nil], none, false, true, false, [], [3], []⟩),
  (47, ⟨1, 24, false, 85, 0, [], [.nil], none, false, true, false, [], [4], []⟩),
  (48, ⟨4, 96, true, 0, 0, [(0, 22), (1, 45), (2, 46), (3, 47)], [.nil, .nil, .nil, .nil], none, false, false, false, [(0, 1), (1, 1), (2, 1), (3, 1)], [1, 2, 3, 4], []⟩),
  (49, ⟨4, 96, true, 0, 0, [(0, 22), (1, 45), (2, 46), (3, 47)], [.nil, .nil, .nil, .nil], none, false, false, false, [(0, 1), (1, 1), (2, 1), (3, 1)], [1, 2, 3, 4], []⟩),
  (53, ⟨2, 16, true, 0, 0, [(0, 3), (1, 3)], [.int .i64 0, .int .i64 0], none, false, false, false, [(0, 1), (1, 1)], [0, 0], []⟩),
  (54, ⟨2, 16, true, 0, 0, [(0, 3), (1, 3)], [.int .i64 0, .int .i64 0], none, false, false, false, [(0, 1), (1, 1)], [0, 0], [1, 1]⟩),
  (71, ⟨8, 104, true, 0, 0, [(0, 9), (1, 3), (2, 9), (3, 9), (4, 3), (5, 3), (6, 9), (7, 9)], [.str ⟨#[]⟩, .int .i64 0, .str ⟨#[]⟩, .str ⟨#[]⟩, .int .i64 0, .int .i64 0, .str ⟨#[]⟩, .str ⟨#[]⟩], none, false, false, false, [(0, 1), (1, 1), (2, 1), (3, 1), (4, 1), (5, 1), (6, 1), (7, 1)], [0, 0, 0, 0, 0, 0, 0, 0], []⟩),
  (72, ⟨8, 104, true, 0, 0, [(0, 9), (1, 3), (2, 9), (3, 9), (4, 3), (5, 3), (6, 9), (7, 9)], [.str ⟨#[]⟩, .int .i64 0, .str ⟨#[]⟩, .str ⟨#[]⟩, .int .i64 0, .int .i64 0, .str ⟨#[]⟩, .str ⟨#[]⟩], none, false, false, false, [(0, 1), (1, 1), (2, 1), (3, 1), (4, 1), (5, 1), (6, 1), (7, 1)], [0, 0, 0, 0, 0, 0, 0, 0], [2, 1, 2, 2, 1, 1, 2, 2]⟩),
  (73, ⟨8, 104, true, 0, 0, [(0, 9), (1, 3), (2, 9), (3, 9), (4, 3), (5, 3), (6, 9), (7, 9)], [.str ⟨#[]⟩, .int .i64 0, .str ⟨#[]⟩, .str ⟨#[]⟩, .int .i64 0, .int .i64 0, .str ⟨#[]⟩, .str ⟨#[]⟩], none, false, false, false, [(0, 1), (1, 1), (2, 1), (3, 1), (4, 1), (5, 1), (6, 1), (7, 1)], [0, 0, 0, 0, 0, 0, 0, 0], [2, 1, 2, 2, 1, 1, 2, 2]⟩),
  (80, ⟨2, 32, true, 0, 0, [(0, 9), (1, 9)], [.str ⟨#[]⟩, .str ⟨#[]⟩], none, false, false, false, [(0, 1), (1, 1)], [0, 0], []⟩),
  (81, ⟨2, 32, true, 0, 0, [(0, 9), (1, 9)], [.str ⟨#[]⟩, .str ⟨#[]⟩], none, false, false, false, [(0, 1), (1, 1)], [0, 0], [2, 2]⟩),
  (82, ⟨3, 40, true, 0, 0, [(0, 9), (1, 3), (2, 9)], [.str ⟨#[]⟩, .int .i64 0, .str ⟨#[]⟩], none, false, false, false, [(0, 1), (1, 1), (2, 1)], [0, 0, 0], []⟩),
  (83, ⟨3, 40, true, 0, 0, [(0, 9), (1, 3), (2, 9)], [.str ⟨#[]⟩, .int .i64 0, .str ⟨#[]⟩], none, false, false, false, [(0, 1), (1, 1), (2, 1)], [0, 0, 0], [2, 1, 2]⟩),
  (84, ⟨4, 64, true, 0, 0, [(0, 9), (1, 9), (2, 9), (3, 9)], [.str ⟨#[]⟩, .str ⟨#[]⟩, .str ⟨#[]⟩, .str ⟨#[]⟩], none, false, false, false, [(0, 1), (1, 1), (2, 1), (3, 1)], [0, 0, 0, 0], []⟩),
  (85, ⟨4, 64, true, 0, 0, [(0, 9), (1, 9), (2, 9), (3, 9)], [.str ⟨#[]⟩, .str ⟨#[]⟩, .str ⟨#[]⟩, .str ⟨#[]⟩], none, false, false, false, [(0, 1), (1, 1), (2, 1), (3, 1)], [0, 0, 0, 0], [2, 2, 2, 2]⟩),
  (94, ⟨1, 24, false, 3, 0, [], [.nil], none, false, true, false, [], [1], []⟩),
  (109, ⟨2, 32, true, 0, 0, [(0, 28), (1, 3)], [.nil, .int .i64 0], none, false, false, false, [(0, 1), (1, 1)], [1, 0], []⟩),
  (110, ⟨2, 32, true, 0, 0, [(0, 28), (1, 3)], [.nil, .int .i64 0], none, false, false, false, [(0, 1), (1, 1)], [1, 0], []⟩),
  (112, ⟨2, 32, true, 0, 0, [(0, 9), (1, 9)], [.str ⟨#[]⟩, .str ⟨#[]⟩], none, false, false, false, [(0, 1), (1, 1)], [0, 0], [2, 2]⟩),
  (114, ⟨3, 40, true, 0, 0, [(0, 9), (1, 3), (2, 9)], [.str ⟨#[]⟩, .int .i64 0, .str ⟨#[]⟩], none, false, false, false, [(0, 1), (1, 1), (2, 1)], [0, 0, 0], [2, 1, 2]⟩),
  (116, ⟨4, 64, true, 0, 0, [(0, 9), (1, 9), (2, 9), (3, 9)], [.str ⟨#[]⟩, .str ⟨#[]⟩, .str ⟨#[]⟩, .str ⟨#[]⟩], none, false, false, false, [(0, 1), (1, 1), (2, 1), (3, 1)], [0, 0, 0, 0], [2, 2, 2, 2]⟩),
  (122, ⟨1, 24, false, 139, 0, [], [.nil], none, false, true, false, [], [2], []⟩),
  (134, ⟨2, 32, true, 0, 0, [(0, 28), (1, 3)], [.nil, .int .i64 0], none, false, false, false, [(0, 1), (1, 1)], [1, 0], []⟩),
  (139, ⟨2, 32, true, 9, 2, [], [.str ⟨#[]⟩, .str ⟨#[]⟩], none, false, false, false, [(0, 1), (1, 1)], [0, 0], [2, 2]⟩),
  (145, ⟨24, 24, true, 5, 24, [], [.int .u8 0, .int .u8 0, .int .u8 0, .int .u8 0, .int .u8 0, .int .u8 0, .int .u8 0, .int .u8 0, .int .u8 0, .int .u8 0, .int .u8 0, .int .u8 0, .int .u8 0, .int .u8 0, .int .u8 0, .int .u8 0, .int .u8 0, .int .u8 0, .int .u8 0, .int .u8 0, .int .u8 0, .int .u8 0, .int .u8 0, .int .u8 0], none, false, false, false, [(0, 1), (1, 1), (2, 1), (3, 1), (4, 1), (5, 1), (6, 1), (7, 1), (8, 1), (9, 1), (10, 1), (11, 1), (12, 1), (13, 1), (14, 1), (15, 1), (16, 1), (17, 1), (18, 1), (19, 1), (20, 1), (21, 1), (22, 1), (23, 1)], [0, 0, 0, 0, 0, 0, 0, 0, 0, 0, 0, 0, 0, 0, 0, 0, 0, 0, 0, 0, 0, 0, 0, 0], [1, 1, 1, 1, 1, 1, 1, 1, 1, 1, 1, 1, 1, 1, 1, 1, 1, 1, 1, 1, 1, 1, 1, 1]⟩),
  (146, ⟨1, 8, false, 0, 0, [], [.int .u64 0], some .u64, false, false, false, [], [0], []⟩),
  (154, ⟨1, 8, false, 0, 0, [], [.int .u64 0], some .u64, false, false, false, [], [0], []⟩),
  (158, ⟨20, 160, true, 146, 20, [], [.int .u64 0, .int .u64 0, .int .u64 0, .int .u64 0, .int .u64 0, .int .u64 0, .int .u64 0, .int .u64 0, .int .u64 0, .int .u64 0, .int .u64 0, .int .u64 0, .int .u64 0, .int .u64 0, .int .u64 0, .int .u64 0, .int .u64 0, .int .u64 0, .int .u64 0, .int .u64 0], none, false, false, false, [(0, 1), (1, 1), (2, 1), (3, 1), (4, 1), (5, 1), (6, 1), (7, 1), (8, 1), (9, 1), (10, 1), (11, 1), (12, 1), (13, 1), (14, 1), (15, 1), (16, 1), (17, 1), (18, 1), (19, 1)], [0, 0, 0, 0, 0, 0, 0, 0, 0, 0, 0, 0, 0, 0, 0, 0, 0, 0, 0, 0], [1, 1, 1, 1, 1, 1, 1, 1, 1, 1, 1, 1, 1, 1, 1, 1, 1, 1, 1, 1]⟩),
  (159, ⟨1, 4, false, 0, 0, [], [.int .u32 0], some .u32, false, false, false, [], [0], []⟩),
  (160, ⟨65, 65, true, 5, 65, [], [.int .u8 0, .int .u8 0, .int .u8 0, .int .u8 0, .int .u8 0, .int .u8 0, .int .u8 0, .int .u8 0, .int .u8 0, .int .u8 0, .int .u8 0, .int .u8 0, .int .u8 0, .int .u8 0, .int .u8 0, .int .u8 0, .int .u8 0, .int .u8 0, .int .u8 0, .int .u8 0, .int .u8 0, .int .u8 0, .int .u8 0, .int .u8 0, .int .u8 0, .int .u8 0, .int .u8 0, .int .u8 0, .int .u8 0, .int .u8 0, .int .u8 0, .int .u8 0, .int .u8 0, .int .u8 0, .int .u8 0, .int .u8 0, .int .u8 0, .int .u8 0, .int .u8 0, .int .u8 0, .int .u8 0, .int .u8 0, .int .u8 0, .int .u8 0, .int .u8 0, .int .u8 0, .int .u8 0, .int .u8 0, .int .u8 0, .int .u8 0, .int .u8 0, .int .u8 0, .int .u8 0, .int .u8 0, .int .u8 0, .int .u8 0, .int .u8 0, .int .u8 0, .int .u8 0, .int .u8 0, .int .u8 0, .int .u8 0, .int .u8 0, .int .u8 0, .int .u8 0], none, false, false, false, [(0, 1), (1, 1), (2, 1), (3, 1), (4, 1), (5, 1), (6, 1), (7, 1), (8, 1), (9, 1), (10, 1), (11, 1), (12, 1), (13, 1), (14, 1), (15, 1), (16, 1), (17, 1), (18, 1), (19, 1), (20, 1), (21, 1), (22, 1), (23, 1), (24, 1), (25, 1), (26, 1), (27, 1), (28, 1), (29, 1), (30, 1), (31, 1), (32, 1), (33, 1), (34, 1), (35, 1), (36, 1), (37, 1), (38, 1), (39, 1), (40, 1), (41, 1), (42, 1), (43, 1), (44, 1), (45, 1), (46, 1), (47, 1), (48, 1), (49, 1), (50, 1), (51, 1), (52, 1), (53, 1), (54, 1), (55, 1), (56, 1), (57, 1), (58, 1), (59, 1), (60, 1), (61, 1), (62, 1), (63, 1), (64, 1)], [0, 0, 0, 0, 0, 0, 0, 0, 0, 0, 0, 0, 0, 0, 0, 0, 0, 0, 0, 0, 0, 0, 0, 0, 0, 0, 0, 0, 0, 0, 0, 0, 0, 0, 0, 0, 0, 0, 0, 0, 0, 0, 0, 0, 0, 0, 0, 0, 0, 0, 0, 0, 0, 0, 0, 0, 0, 0, 0, 0, 0, 0, 0, 0, 0], []⟩),
  (166, ⟨256, 256, true, 5, 256, [], [.int .u8 0, .int .u8 0, .int .u8 0, .int .u8 0, .int .u8 0, .int .u8 0, .int .u8 0, .int .u8 0, .int .u8 0, .int .u8 0, .int .u8 0, .int .u8 0, .int .u8 0, .int .u8 0, .int .u8 0, .int .u8 0, .int .u8 0, .int .u8 0, .int .u8 0, .int .u8 0, .int .u8 0, .int .u8 0, .int .u8 0, .int .u8 0, .int .u8 0, .int .u8 0, .int .u8 0, .int .u8 0, .int .u8 0, .int .u8 0, .int .u8 0, .int .u8 0, .int .u8 0, .int .u8 0, .int .u8 0, .int .u8 0, .int .u8 0, .int .u8 0, .int .u8 0, .int .u8 0, .int .u8 0, .int .u8 0, .int .u8 0, .int .u8 0, .int .u8 0, .int .u8 0, .int .u8 0, .int .u8 0, .int .u8 0, .int .u8 0, .int .u8 0, .int .u8 0, .int .u8 0, .int .u8 0, .int .u8 0, .int .u8 0, .int .u8 0, .int .u8 0, .int .u8 0, .int .u8 0, .int .u8 0, .int .u8 0, .int .u8 0, .int .u8 0, .int .u8 0, .int .u8 0, .int .u8 0, .int .u8 0, .int .u8 0, .int .u8 0, .int .u8 0, .int .u8 0, .int .u8 0, .int .u8 0, .int .u8 0, .int .u8 0, .int .u8 0, .int .u8 0, .int .u8 0, .int .u8 0, .int .u8 0, .int .u8 0, .int .u8 0, .int .u8 0, .int .u8 0, .int .u8 0, .int .u8 0, .int .u8 0, .int .u8 0, .int .u8 0, .int .u8 0, .int .u8 0, .int .u8 0, .int .u8 0, .int .u8 0, .int .u8 0, .int .u8 0, .int .u8 0, .int .u8 0, .int .u8 0, .int .u8 0, .int .u8 0, .int .u8 0, .int .u8 0, .int .u8 0, .int .u8 0, .int .u8 0, .int .u8 0, .int .u8 0, .int .u8 0, .int .u8 0, .int .u8 0, .int .u8 0, .int .u8 0, .int .u8 0, .int .u8 0, .int .u8 0, .int .u8 0, .int .u8 0, .int .u8 0, .int .u8 0, .int .u8 0, .int .u8 0, .int .u8 0, .int .u8 0, .int .u8 0, .int .u8 0, .int .u8 0, .int .u8 0, .int .u8 0, .int .u8 0, .int .u8 0, .int .u8 0, .int .u8 0, .int .u8 0, .int .u8 0, .int .u8 0, .int .u8 0, .int .u8 0, .int .u8 0, .int .u8 0, .int .u8 0, .int .u8 0, .int .u8 0, .int .u8 0, .int .u8 0, .int .u8 0, .int .u8 0, .int .u8 0, .int .u8 0, .int .u8 0, .int .u8 0, .int .u8 0, .int .u8 0, .int .u8 0, .int .u8 0, .int .u8 0, .int .u8 0, .int .u8 0, .int .u8 0, .int .u8 0, .int .u8 0, .int .u8 0, .int .u8 0, .int .u8 0, .int .u8 0, .int .u8 0, .int .u8 0, .int .u8 0, .int .u8 0, .int .u8 0, .int .u8 0, .int .u8 0, .int .u8 0, .int .u8 0, .int .u8 0, .int .u8 0, .int .u8 0, .int .u8 0, .int .u8 0, .int .u8 0, .int .u8 0, .int .u8 0, .int .u8 0, .int .u8 0, .int .u8 0, .int .u8 0, .int .u8 0, .int .u8 0, .int .u8 0, .int .u8 0, .int .u8 0, .int .u8 0, .int .u8 0, .int .u8 0, .int .u8 0, .int .u8 0, .int .u8 0, .int .u8 0, .int .u8 0, .int .u8 0, .int .u8 0, .int .u8 0, .int .u8 0, .int .u8 0, .int .u8 0, .int .u8 0, .int .u8 0, .int .u8 0, .int .u8 0, .int .u8 0, .int .u8 0, .int .u8 0, .int .u8 0, .int .u8 0, .int .u8 0, .int .u8 0, .int .u8 0, .int .u8 0, .int .u8 0, .int .u8 0, .int .u8 0, .int .u8 0, .int .u8 0, .int .u8 0, .int .u8 0, .int .u8 0, .int .u8 0, .int .u8 0, .int .u8 0, .int .u8 0, .int .u8 0, .int .u8 0, .int .u8 0, .int .u8 0, .int .u8 0, .int .u8 0, .int .u8 0, .int .u8 0, .int .u8 0, .int .u8 0, .int .u8 0, .int .u8 0, .int .u8 0, .int .u8 0, .int .u8 0, .int .u8 0, .int .u8 0, .int .u8 0, .int .u8 0, .int .u8 0, .int .u8 0, .int .u8 0, .int .u8 0, .int .u8 0, .int .u8 0], none, false, false, false, [(0, 1), (1, 1), (2, 1), (3, 1), (4, 1), (5, 1), (6, 1), (7, 1), (8, 1), (9, 1), (10, 1), (11, 1), (12, 1), (13, 1), (14, 1), (15, 1), (16, 1), (17, 1), (18, 1), (19, 1), (20, 1), (21, 1), (22, 1), (23, 1), (24, 1), (25, 1), (26, 1), (27, 1), (28, 1), (29, 1), (30, 1), (31, 1), (32, 1), (33, 1), (34, 1), (35, 1), (36, 1), (37, 1), (38, 1), (39, 1), (40, 1), (41, 1), (42, 1), (43, 1), (44, 1), (45, 1), (46, 1), (47, 1), (48, 1), (49, 1), (50, 1), (51, 1), (52, 1), (53, 1), (54, 1), (55, 1), (56, 1), (57, 1), (58, 1), (59, 1), (60, 1), (61, 1), (62, 1), (63, 1), (64, 1), (65, 1), (66, 1), (67, 1), (68, 1), (69, 1), (70, 1), (71, 1), (72, 1), (73, 1), (74, 1), (75, 1), (76, 1), (77, 1), (78, 1), (79, 1), (80, 1), (81, 1), (82, 1), (83, 1), (84, 1), (85, 1), (86, 1), (87, 1), (88, 1), (89, 1), (90, 1), (91, 1), (92, 1), (93, 1), (94, 1), (95, 1), (96, 1), (97, 1), (98, 1), (99, 1), (100, 1), (101, 1), (102, 1), (103, 1), (104, 1), (105, 1), (106, 1), (107, 1), (108, 1), (109, 1), (110, 1), (111, 1), (112, 1), (113, 1), (114, 1), (115, 1), (116, 1), (117, 1), (118, 1), (119, 1), (120, 1), (121, 1), (122, 1), (123, 1), (124, 1), (125, 1), (126, 1), (127, 1), (128, 1), (129, 1), (130, 1), (131, 1), (132, 1), (133, 1), (134, 1), (135, 1), (136, 1), (137, 1), (138, 1), (139, 1), (140, 1), (141, 1), (142, 1), (143, 1), (144, 1), (145, 1), (146, 1), (147, 1), (148, 1), (149, 1), (150, 1), (151, 1), (152, 1), (153, 1), (154, 1), (155, 1), (156, 1), (157, 1), (158, 1), (159, 1), (160, 1), (161, 1), (162, 1), (163, 1), (164, 1), (165, 1), (166, 1), (167, 1), (168, 1), (169, 1), (170, 1), (171, 1), (172, 1), (173, 1), (174, 1), (175, 1), (176, 1), (177, 1), (178, 1), (179, 1), (180, 1), (181, 1), (182, 1), (183, 1), (184, 1), (185, 1), (186, 1), (187, 1), (188, 1), (189, 1), (190, 1), (191, 1), (192, 1), (193, 1), (194, 1), (195, 1), (196, 1), (197, 1), (198, 1), (199, 1), (200, 1), (201, 1), (202, 1), (203, 1), (204, 1), (205, 1), (206, 1), (207, 1), (208, 1), (209, 1), (210, 1), (211, 1), (212, 1), (213, 1), (214, 1), (215, 1), (216, 1), (217, 1), (218, 1), (219, 1), (220, 1), (221, 1), (222, 1), (223, 1), (224, 1), (225, 1), (226, 1), (227, 1), (228, 1), (229, 1), (230, 1), (231, 1), (232, 1), (233, 1), (234, 1), (235, 1), (236, 1), (237, 1), (238, 1), (239, 1), (240, 1), (241, 1), (242, 1), (243, 1), (244, 1), (245, 1), (246, 1), (247, 1), (248, 1), (249, 1), (250, 1), (251, 1), (252, 1), (253, 1), (254, 1), (255, 1)], [0, 0, 0, 0, 0, 0, 0, 0, 0, 0, 0, 0, 0, 0, 0, 0, 0, 0, 0, 0, 0, 0, 0, 0, 0, 0, 0, 0, 0, 0, 0, 0, 0, 0, 0, 0, 0, 0, 0, 0, 0, 0, 0, 0, 0, 0, 0, 0, 0, 0, 0, 0, 0, 0, 0, 0, 0, 0, 0, 0, 0, 0, 0, 0, 0, 0, 0, 0, 0, 0, 0, 0, 0, 0, 0, 0, 0, 0, 0, 0, 0, 0, 0, 0, 0, 0, 0, 0, 0, 0, 0, 0, 0, 0, 0, 0, 0, 0, 0, 0, 0, 0, 0, 0, 0, 0, 0, 0, 0, 0, 0, 0, 0, 0, 0, 0, 0, 0, 0, 0, 0, 0, 0, 0, 0, 0, 0, 0, 0, 0, 0, 0, 0, 0, 0, 0, 0, 0, 0, 0, 0, 0, 0, 0, 0, 0, 0, 0, 0, 0, 0, 0, 0, 0, 0, 0, 0, 0, 0, 0, 0, 0, 0, 0, 0, 0, 0, 0, 0, 0, 0, 0, 0, 0, 0, 0, 0, 0, 0, 0, 0, 0, 0, 0, 0, 0, 0, 0, 0, 0, 0, 0, 0, 0, 0, 0, 0, 0, 0, 0, 0, 0, 0, 0, 0, 0, 0, 0, 0, 0, 0, 0, 0, 0, 0, 0, 0, 0, 0, 0, 0, 0, 0, 0, 0, 0, 0, 0, 0, 0, 0, 0, 0, 0, 0, 0, 0, 0, 0, 0, 0, 0, 0, 0, 0, 0, 0, 0, 0, 0, 0, 0, 0, 0, 0, 0], []⟩),
  (167, ⟨2, 2, true, 0, 0, [(0, 5), (1, 5)], [.int .u8 0, .int .u8 0], none, false, false, false, [(0, 1), (1, 1)], [0, 0], []⟩),
  (168, ⟨2, 2, true, 0, 0, [(0, 5), (1, 5)], [.int .u8 0, .int .u8 0], none, false, false, false, [(0, 1), (1, 1)], [0, 0], []⟩),
  (169, ⟨32, 32, true, 168, 16, [], [.int .u8 0, .int .u8 0, .int .u8 0, .int .u8 0, .int .u8 0, .int .u8 0, .int .u8 0, .int .u8 0, .int .u8 0, .int .u8 0, .int .u8 0, .int .u8 0, .int .u8 0, .int .u8 0, .int .u8 0, .int .u8 0, .int .u8 0, .int .u8 0, .int .u8 0, .int .u8 0, .int .u8 0, .int .u8 0, .int .u8 0, .int .u8 0, .int .u8 0, .int .u8 0, .int .u8 0, .int .u8 0, .int .u8 0, .int .u8 0, .int .u8 0, .int .u8 0], none, false, false, false, [(0, 2), (2, 2), (4, 2), (6, 2), (8, 2), (10, 2), (12, 2), (14, 2), (16, 2), (18, 2), (20, 2), (22, 2), (24, 2), (26, 2), (28, 2), (30, 2)], [0, 0, 0, 0, 0, 0, 0, 0, 0, 0, 0, 0, 0, 0, 0, 0, 0, 0, 0, 0, 0, 0, 0, 0, 0, 0, 0, 0, 0, 0, 0, 0], []⟩),
  (170, ⟨32, 32, true, 5, 32, [], [.int .u8 0, .int .u8 0, .int .u8 0, .int .u8 0, .int .u8 0, .int .u8 0, .int .u8 0, .int .u8 0, .int .u8 0, .int .u8 0, .int .u8 0, .int .u8 0, .int .u8 0, .int .u8 0, .int .u8 0, .int .u8 0, .int .u8 0, .int .u8 0, .int .u8 0, .int .u8 0, .int .u8 0, .int .u8 0, .int .u8 0, .int .u8 0, .int .u8 0, .int .u8 0, .int .u8 0, .int .u8 0, .int .u8 0, .int .u8 0, .int .u8 0, .int .u8 0], none, false, false, false, [(0, 1), (1, 1), (2, 1), (3, 1), (4, 1), (5, 1), (6, 1), (7, 1), (8, 1), (9, 1), (10, 1), (11, 1), (12, 1), (13, 1), (14, 1), (15, 1), (16, 1), (17, 1), (18, 1), (19, 1), (20, 1), (21, 1), (22, 1), (23, 1), (24, 1), (25, 1), (26, 1), (27, 1), (28, 1), (29, 1), (30, 1), (31, 1)], [0, 0, 0, 0, 0, 0, 0, 0, 0, 0, 0, 0, 0, 0, 0, 0, 0, 0, 0, 0, 0, 0, 0, 0, 0, 0, 0, 0, 0, 0, 0, 0], [1, 1, 1, 1, 1, 1, 1, 1, 1, 1, 1, 1, 1, 1, 1, 1, 1, 1, 1, 1, 1, 1, 1, 1, 1, 1, 1, 1, 1, 1, 1, 1]⟩),
  (171, ⟨64, 64, true, 5, 64, [], [.int .u8 0, .int .u8 0, .int .u8 0, .int .u8 0, .int .u8 0, .int .u8 0, .int .u8 0, .int .u8 0, .int .u8 0, .int .u8 0, .int .u8 0, .int .u8 0, .int .u8 0, .int .u8 0, .int .u8 0, .int .u8 0, .int .u8 0, .int .u8 0, .int .u8 0, .int .u8 0, .int .u8 0, .int .u8 0, .int .u8 0, .int .u8 0, .int .u8 0, .int .u8 0, .int .u8 0, .int .u8 0, .int .u8 0, .int .u8 0, .int .u8 0, .int .u8 0, .int .u8 0, .int .u8 0, .int .u8 0, .int .u8 0, .int .u8 0, .int .u8 0, .int .u8 0, .int .u8 0, .int .u8 0, .int .u8 0, .int .u8 0, .int .u8 0, .int .u8 0, .int .u8 0, .int .u8 0, .int .u8 0, .int .u8 0, .int .u8 0, .int .u8 0, .int .u8 0, .int .u8 0, .int .u8 0, .int .u8 0, .int .u8 0, .int .u8 0, .int .u8 0, .int .u8 0, .int .u8 0, .int .u8 0, .int .u8 0, .int .u8 0, .int .u8 0], none, false, false, false, [(0, 1), (1, 1), (2, 1), (3, 1), (4, 1), (5, 1), (6, 1), (7, 1), (8, 1), (9, 1), (10, 1), (11, 1), (12, 1), (13, 1), (14, 1), (15, 1), (16, 1), (17, 1), (18, 1), (19, 1), (20, 1), (21, 1), (22, 1), (23, 1), (24, 1), (25, 1), (26, 1), (27, 1), (28, 1), (29, 1), (30, 1), (31, 1), (32, 1), (33, 1), (34, 1), (35, 1), (36, 1), (37, 1), (38, 1), (39, 1), (40, 1), (41, 1), (42, 1), (43, 1), (44, 1), (45, 1), (46, 1), (47, 1), (48, 1), (49, 1), (50, 1), (51, 1), (52, 1), (53, 1), (54, 1), (55, 1), (56, 1), (57, 1), (58, 1), (59, 1), (60, 1), (61, 1), (62, 1), (63, 1)], [0, 0, 0, 0, 0, 0, 0, 0, 0, 0, 0, 0, 0, 0, 0, 0, 0, 0, 0, 0, 0, 0, 0, 0, 0, 0, 0, 0, 0, 0, 0, 0, 0, 0, 0, 0, 0, 0, 0, 0, 0, 0, 0, 0, 0, 0, 0, 0, 0, 0, 0, 0, 0, 0, 0, 0, 0, 0, 0, 0, 0, 0, 0, 0], []⟩),
  (178, ⟨1, 1, false, 0, 0, [], [.int .u8 0], some .u8, false, false, false, [], [0], []⟩),
  (179, ⟨1, 1, false, 0, 0, [], [.int .u8 0], some .u8, false, false, false, [], [0], []⟩),
  (182, ⟨1, 4, false, 0, 0, [], [.int .i32 0], some .i32, false, false, false, [], [0], []⟩),
  (183, ⟨1, 4, false, 0, 0, [], [.int .i32 0], some .i32, false, false, false, [], [0], []⟩)]
theorem tok : TOk Tryd.prog (lk tab) := tok_of tab (by kernel_rfl)
theorem hP : Tryd.prog.follows .mixedOrders = true := by kernel_rfl
def en_str (x : ByteArray) : List V := [.str x]
def sv_str (l : List ByteArray) : V := .sl 1 l.length (l.map en_str)
def ob_str (l : List ByteArray) : Ob := .arr 9 1 (l.map en_str)
theorem bare_en_str (x : ByteArray) : (en_str x).all V.bare = true := rfl
theorem rdm_en_str (l : List ByteArray) (i : Int) (h0 : 0 ≤ i) (h1 : i < (l.length : Int)) : (l.map en_str)[i.toNat]? = some (en_str (rdOf ByteArray.empty l i)) := by
  have : i.toNat < l.length := by omega
  simp [rdOf, this]
def en_u8 (x : Int) : List V := [.int .u8 x]
def sv_u8 (l : List Int) : V := .sl 1 l.length (l.map en_u8)
def ob_u8 (l : List Int) : Ob := .arr 5 1 (l.map en_u8)
theorem bare_en_u8 (x : Int) : (en_u8 x).all V.bare = true := rfl
theorem rdm_en_u8 (l : List Int) (i : Int) (h0 : 0 ≤ i) (h1 : i < (l.length : Int)) : (l.map en_u8)[i.toNat]? = some (en_u8 (rd l i)) := by
  have : i.toNat < l.length := by omega
  simp [rd, this]
def en_S_impl_RecPhase (x : S_impl_RecPhase) : List V := [.str x.f0, .int .i64 x.f1, .str x.f2, .str x.f3, .int .i64 x.f4, .int .i64 x.f5, .str x.f6, .str x.f7]
def sv_S_impl_RecPhase (l : List S_impl_RecPhase) : V := .sl 8 l.length (l.map en_S_impl_RecPhase)
def ob_S_impl_RecPhase (l : List S_impl_RecPhase) : Ob := .arr 73 8 (l.map en_S_impl_RecPhase)
theorem bare_en_S_impl_RecPhase (x : S_impl_RecPhase) : (en_S_impl_RecPhase x).all V.bare = true := rfl
theorem rdm_en_S_impl_RecPhase (l : List S_impl_RecPhase) (i : Int) (h0 : 0 ≤ i) (h1 : i < (l.length : Int)) : (l.map en_S_impl_RecPhase)[i.toNat]? = some (en_S_impl_RecPhase (rd_impl_RecPhase l i)) := by
  have : i.toNat < l.length := by omega
  simp [rd_impl_RecPhase, this]
def en_i64 (x : Int) : List V := [.int .i64 x]
def sv_i64 (l : List Int) : V := .sl 1 l.length (l.map en_i64)
def ob_i64 (l : List Int) : Ob := .arr 3 1 (l.map en_i64)
theorem bare_en_i64 (x : Int) : (en_i64 x).all V.bare = true := rfl
theorem rdm_en_i64 (l : List Int) (i : Int) (h0 : 0 ≤ i) (h1 : i < (l.length : Int)) : (l.map en_i64)[i.toNat]? = some (en_i64 (rd l i)) := by
  have : i.toNat < l.length := by omega
  simp [rd, this]
def en_L_u8 (x : List Int) : List V := [(sv_u8 x)]
def sv_L_u8 (l : List (List Int)) : V := .sl 1 l.length (l.map en_L_u8)
def ob_L_u8 (l : List (List Int)) : Ob := .arr 28 1 (l.map en_L_u8)
theorem rdm_en_L_u8 (l : List (List Int)) (i : Int) (h0 : 0 ≤ i) (h1 : i < (l.length : Int)) : (l.map en_L_u8)[i.toNat]? = some (en_L_u8 (rdOf ([] : List Int) l i)) := by
  have : i.toNat < l.length := by omega
  simp [rdOf, this]
attribute [local irreducible] callE Lp Sq Cut RetOk Fits

theorem spec_l41Open.ac {l0 : List Int} {r : (List Int) × Int} (H : spec_l41Open.f l0 = some r) : ACalls Tryd.prog G 73 [] [(sv_u8 l0)] [.box [(sv_u8 r.1), .int .i64 r.2]] (.bp 0 0) := by
  refine acalls_of tok hP Tryd.func73 rfl (by kernel_rfl) [.tmp 2] rfl (by kernel_rfl) (Nat.le_of_ble_eq_true rfl) (.l .n (.l .n (.c .n .n))) rfl ?_
  unfold spec_l41Open.f at H
  conv => whnf
  refine br_d H (fun c H => ?_) (fun c H => ?_)
  conv => whnf
  refine Nd.mk (by decide) ?_
  conv => whnf
  refine nd_ H (fun c H => ?_)
  conv => whnf
  refine cut_ 88 [(2, .bp 72 0)] [(72, .box [.sl 1 ((2000 : Int).toNat) ((l0.take (2000 : Int).toNat).map en_u8), .int .i64 0])] rfl ⟨.inl rfl, trivial⟩ ⟨bx_eq rfl ⟨sl_e rfl lm_ lm_, ⟨rfl, trivial⟩⟩, trivial⟩ ?_
  conv => whnf
  injection H with H; subst H
  exact ret_gen [some 72] [] ((rfl)) ⟨bx_eq rfl ⟨sl_e rfl lm_ lm_, ⟨rfl, trivial⟩⟩, trivial⟩ rfl
  conv => whnf
  refine cut_ 64 [(2, .bp 48 0)] [(48, .box [(sv_u8 l0), .int .i64 0])] rfl ⟨.inl rfl, trivial⟩ ⟨rfl, trivial⟩ ?_
  conv => whnf
  injection H with H; subst H
  exact ret_gen [some 48] [] ((rfl)) ⟨rfl, trivial⟩ rfl
theorem spec_l45Names.ac {r : List ByteArray} (H : spec_l45Names.f = some r) : ACalls Tryd.prog G 124 [] [] [] ((sv_str r)) := by
  refine acalls_of tok hP Tryd.func124 rfl (by kernel_rfl) [.tmp 0] rfl (by kernel_rfl) (Nat.le_of_ble_eq_true rfl) .n rfl ?_
  unfold spec_l45Names.f at H
  conv => whnf
  refine Or.inl ?_
  conv => whnf
  injection H with H; subst H
  exact ret_fz [8] (rtA_fzD rfl lm_ lm_ rfl)
theorem spec_l41Rd_pick.ac {a0_0 : List Int} {a0_1 : Int} {a1 : Int} {r : Int × (List Int) × Int} (H : spec_l41Rd_pick.f a0_0 a0_1 a1 = some r) : ACalls Tryd.prog G 75 [.box [(sv_u8 a0_0), .int .i64 a0_1]] [.bp 0 0, .int .i64 a1] [.box [(sv_u8 r.2.1), .int .i64 r.2.2]] (.int .i64 r.1) := by
  refine acalls_of tok hP Tryd.func75 rfl (by kernel_rfl) [.tmp 4] rfl (by kernel_rfl) (Nat.le_of_ble_eq_true rfl) (.l .n (.l .n (.l (.c .n (.l (.c .n .n) .n)) (.l .n (.l (.c .n (.l (.c .n .n) .n)) (.c .n .n)))))) rfl ?_
  unfold spec_l41Rd_pick.f at H
  conv => whnf
  refine br_d H (fun c H => ?_) (fun c H => ?_)
  conv => whnf
  refine Br.t ft_ ?_
  conv => whnf
  refine Br.t ft_ ?_
  conv => whnf
  refine Br.t ft_ ?_
  conv => whnf
  refine Br.t ft_ ?_
  conv => whnf
  refine Br.t ft_ ?_
  conv => whnf
  refine Br.t ft_ ?_
  conv => whnf
  refine cut_ 161 [(0, .bp 0 0), (1, .int .i64 a1), (24, .bool true)] [(0, .box [(sv_u8 a0_0), .int .i64 (wrap64 (a0_1 + 1))])] rfl ⟨.inl rfl, ⟨.inl rfl, ⟨.inl rfl, trivial⟩⟩⟩ ⟨rfl, trivial⟩ ?_
  conv => whnf
  refine Br.t rfl ?_
  conv => whnf
  refine cut_ 169 [(4, .int .i64 0)] [(0, .box [(sv_u8 a0_0), .int .i64 (wrap64 (a0_1 + 1))])] rfl ⟨.inl rfl, trivial⟩ ⟨rfl, trivial⟩ ?_
  conv => whnf
  injection H with H; subst H
  exact ret_gen [some 0] [] ((rtA_eq rfl)) ⟨rfl, trivial⟩ rfl
  conv => whnf
  refine Br.f ff_ ?_
  conv => whnf
  refine Br.f ff_ ?_
  conv => whnf
  refine Br.f ff_ ?_
  conv => whnf
  refine Br.f ff_ ?_
  conv => whnf
  refine Br.f ff_ ?_
  conv => whnf
  refine Br.f ff_ ?_
  conv => whnf
  refine cut_ 161 [(0, .bp 0 0), (1, .int .i64 a1), (24, .bool (decide ((a0_0.length : Int) = 0)))] [(0, .box [(sv_u8 a0_0), .int .i64 (wrap64 (a0_1 + 1))])] rfl ⟨.inl rfl, ⟨.inl rfl, ⟨.inl rfl, trivial⟩⟩⟩ ⟨rfl, trivial⟩ ?_
  conv => whnf
  refine br_d H (fun c H => ?_) (fun c H => ?_)
  conv => whnf
  refine cut_ 169 [(4, .int .i64 0)] [(0, .box [(sv_u8 a0_0), .int .i64 (wrap64 (a0_1 + 1))])] rfl ⟨.inl rfl, trivial⟩ ⟨rfl, trivial⟩ ?_
  conv => whnf
  injection H with H; subst H
  exact ret_gen [some 0] [] ((rtA_eq rfl)) ⟨rfl, trivial⟩ rfl
  conv => whnf
  refine cut_ 265 [(0, .bp 0 0), (1, .int .i64 a1), (5, .int .i64 (wrap64 ((wrap64 (a0_1 + 1)) - 1))), (36, .bool (decide ((wrap64 ((wrap64 (a0_1 + 1)) - 1)) < (a0_0.length : Int))))] [(0, .box [(sv_u8 a0_0), .int .i64 (wrap64 (a0_1 + 1))])] rfl ⟨.inl rfl, ⟨.inl rfl, ⟨.inl rfl, ⟨.inl rfl, trivial⟩⟩⟩⟩ ⟨rfl, trivial⟩ ?_
  conv => whnf
  refine br_d H (fun c H => ?_) (fun c H => ?_)
  conv => whnf
  refine nd_ H (fun c H => ?_)
  conv => whnf
  refine Nd.mk nf_ ?_
  conv => whnf
  refine El.mk (rdm_en_u8 _ _ nf_ nf_) ?_
  conv => whnf
  refine nd_ H (fun c H => ?_)
  conv => whnf
  refine cut_ 353 [(4, .int .i64 (Int.tmod (wrap64 (rd a0_0 (wrap64 ((wrap64 (a0_1 + 1)) - 1)))) a1))] [(0, .box [(sv_u8 a0_0), .int .i64 (wrap64 (a0_1 + 1))])] rfl ⟨.inl rfl, trivial⟩ ⟨rfl, trivial⟩ ?_
  conv => whnf
  injection H with H; subst H
  exact ret_gen [some 0] [] ((rtA_eq rfl)) ⟨rfl, trivial⟩ rfl
  conv => whnf
  refine nd_ H (fun c H => ?_)
  conv => whnf
  refine nd_ H (fun c H => ?_)
  conv => whnf
  refine nd_ H (fun c H => ?_)
  conv => whnf
  refine El.mk (rdm_en_u8 _ _ nf_ nf_) ?_
  conv => whnf
  refine Nd.mk nf_ ?_
  conv => whnf
  refine nd_ H (fun c H => ?_)
  conv => whnf
  refine nd_ H (fun c H => ?_)
  conv => whnf
  refine El.mk (rdm_en_u8 _ _ nf_ nf_) ?_
  conv => whnf
  refine Nd.mk nf_ ?_
  conv => whnf
  refine cut_ 633 [(1, .int .i64 a1), (6, .int .i64 (wrap64 ((wrap64 ((wrap64 ((wrap64 ((wrap64 (rd a0_0 (Int.tmod (wrap64 ((wrap64 (a0_1 + 1)) - 1)) (a0_0.length : Int)))) * 131)) + (wrap64 ((wrap64 (rd a0_0 (Int.tmod (wrap64 ((wrap64 ((wrap64 ((wrap64 (a0_1 + 1)) - 1)) * 7)) + 3)) (a0_0.length : Int)))) * 1117)))) + (wrap64 ((wrap64 ((wrap64 (a0_1 + 1)) - 1)) * 29)))) + (wrap64 ((wrap64 (Int.tdiv (wrap64 ((wrap64 (a0_1 + 1)) - 1)) (a0_0.length : Int))) * 53)))))] [(0, .box [(sv_u8 a0_0), .int .i64 (wrap64 (a0_1 + 1))])] rfl ⟨.inl rfl, ⟨.inl rfl, trivial⟩⟩ ⟨rfl, trivial⟩ ?_
  conv => whnf
  refine Nd.mk (by decide) ?_
  conv => whnf
  refine nd_ H (fun c H => ?_)
  conv => whnf
  injection H with H; subst H
  exact ret_gen [some 0] [] ((rtA_eq rfl)) ⟨rfl, trivial⟩ rfl
theorem spec_l41Rd_of.ac {a0_0 : List Int} {a0_1 : Int} {l1 : List ByteArray} {r : ByteArray × (List Int) × Int} (H : spec_l41Rd_of.f a0_0 a0_1 l1 = some r) : ACalls Tryd.prog G 110 [.box [(sv_u8 a0_0), .int .i64 a0_1]] [.bp 0 0, (sv_str l1)] [.box [(sv_u8 r.2.1), .int .i64 r.2.2]] (.str r.1) := by
  refine acalls_of tok hP Tryd.func110 rfl (by kernel_rfl) [.tmp 4] rfl (by kernel_rfl) (Nat.le_of_ble_eq_true rfl) .n rfl ?_
  unfold spec_l41Rd_of.f at H
  conv => whnf
  revert H; refine bind_elim (fun t32 A H => ?_)
  refine call_mk2 [0] (spec_l41Rd_pick.ac A) ⟨rfl, trivial⟩ rfl rfl rfl rfl rfl rfl rfl rfl ?_
  conv => whnf
  refine nd_ H (fun c H => ?_)
  conv => whnf
  refine nd_ H (fun c H => ?_)
  conv => whnf
  refine El.mk (rdm_en_str _ _ nf_ nf_) ?_
  conv => whnf
  injection H with H; subst H
  exact ret_gen [some 0] [] ((rtA_eq rfl)) ⟨rfl, trivial⟩ rfl
theorem spec_l45Slot.ac {a0_0 : List Int} {a0_1 : Int} {r : ByteArray × (List Int) × Int} (H : spec_l45Slot.f a0_0 a0_1 = some r) : ACalls Tryd.prog G 136 [.box [(sv_u8 a0_0), .int .i64 a0_1]] [.bp 0 0] [.box [(sv_u8 r.2.1), .int .i64 r.2.2]] (.str r.1) := by
  refine acalls_of tok hP Tryd.func136 rfl (by kernel_rfl) [.tmp 2] rfl (by kernel_rfl) (Nat.le_of_ble_eq_true rfl) .n rfl ?_
  unfold spec_l45Slot.f at H
  conv => whnf
  refine Or.inr ?_
  conv => whnf
  revert H; refine bind_elim (fun t34 A H => ?_)
  refine call_mk2 [0] (spec_l41Rd_of.ac A) ⟨rfl, trivial⟩ rfl rfl rfl rfl rfl (le_eq ⟨rfl, ⟨sl_e rfl lm_ lm_, trivial⟩⟩) rfl rfl ?_
  conv => whnf
  injection H with H; subst H
  exact ret_gen [some 0] [] ((rtA_eq rfl)) ⟨rfl, trivial⟩ rfl
theorem spec_l45Phase.j0_sq {F : (Exit → St → Prop) → St → Prop} {hv : List Tmp} {K : St → Prop} {Q : Exit → St → Prop} {σ : St} {r : ByteArray × Int × ByteArray × ByteArray × Int × Int × ByteArray × ByteArray × (List Int) × Int} {KK : Nat} {a1 : ByteArray} {l2 : List ByteArray} {t59 : Int × (List Int) × Int} {t60 : ByteArray × (List Int) × Int} {t61 : Int × (List Int) × Int}
    (h1 : F (fun e σ' => match e with | .normal => ∃ (y : Nat × (List Int) × Int × ByteArray × Int) (rn : List (Option Nat)), (spec_l45Phase.j0 y.1 a1 l2 t59 t60 t61 y.2.1 y.2.2.1 y.2.2.2.1 y.2.2.2.2 = some r ∧ y.1 < KK) ∧ Fits σ σ' [0, 89] [] [(0, .box [(sv_u8 y.2.1), .int .i64 y.2.2.1]), (89, .box [.str a1, .int .i64 (wrap64 (1 + t59.1)), .str t60.1, .str y.2.2.2.1, .int .i64 y.2.2.2.2, .int .i64 (wrap64 (1 + t61.1)), .str (⟨#[]⟩ : ByteArray), .str (⟨#[]⟩ : ByteArray)])] [] rn | e => Q e σ') σ)
    (h2 : ∀ (k : Nat) (x1000000 : List Int) (x1000001 : Int) (x1089003 : ByteArray) (x1089004 : Int), k < KK → spec_l45Phase.j0 k a1 l2 t59 t60 t61 x1000000 x1000001 x1089003 x1089004 = some r → headN σ hv [0, 89] [] [(0, .box [(sv_u8 x1000000), .int .i64 x1000001]), (89, .box [.str a1, .int .i64 (wrap64 (1 + t59.1)), .str t60.1, .str x1089003, .int .i64 x1089004, .int .i64 (wrap64 (1 + t61.1)), .str (⟨#[]⟩ : ByteArray), .str (⟨#[]⟩ : ByteArray)])] [] K) : Sq F hv K Q σ := by
  unfold Sq
  refine ⟨Nat × (List Int) × Int × ByteArray × Int, fun x => spec_l45Phase.j0 x.1 a1 l2 t59 t60 t61 x.2.1 x.2.2.1 x.2.2.2.1 x.2.2.2.2 = some r ∧ x.1 < KK, [0, 89], fun x => [], fun x => [(0, .box [(sv_u8 x.2.1), .int .i64 x.2.2.1]), (89, .box [.str a1, .int .i64 (wrap64 (1 + t59.1)), .str t60.1, .str x.2.2.2.1, .int .i64 x.2.2.2.2, .int .i64 (wrap64 (1 + t61.1)), .str (⟨#[]⟩ : ByteArray), .str (⟨#[]⟩ : ByteArray)])], fun x => [], h1, ?_⟩
  rintro ⟨k, x1000000, x1000001, x1089003, x1089004⟩ ⟨H, hk⟩
  exact h2 k x1000000 x1000001 x1089003 x1089004 hk H
theorem spec_l45Phase.ac {k : Nat} {a0_0 : List Int} {a0_1 : Int} {a1 : ByteArray} {l2 : List ByteArray} {r : ByteArray × Int × ByteArray × ByteArray × Int × Int × ByteArray × ByteArray × (List Int) × Int} (H : spec_l45Phase.f k a0_0 a0_1 a1 l2 = some r) : ACalls Tryd.prog G 125 [.box [(sv_u8 a0_0), .int .i64 a0_1]] [.bp 0 0, .str a1, (sv_str l2)] [.box [(sv_u8 r.2.2.2.2.2.2.2.2.1), .int .i64 r.2.2.2.2.2.2.2.2.2]] (.agg [.str r.1, .int .i64 r.2.1, .str r.2.2.1, .str r.2.2.2.1, .int .i64 r.2.2.2.2.1, .int .i64 r.2.2.2.2.2.1, .str r.2.2.2.2.2.2.1, .str r.2.2.2.2.2.2.2.1]) := by
  refine acalls_of tok hP Tryd.func125 rfl (by kernel_rfl) [.cell 6 73] rfl (by kernel_rfl) (Nat.le_of_ble_eq_true rfl) (.l .n (.c .n (.j (.l .n (.l .n (.l .n (.l .n (.l (.l .n (.l (.c .n .n) .n)) .n))))) (.f 1 .n (.l .n (.l .n (.l (.c .n .n) (.c .n .n)))))))) rfl ?_
  unfold spec_l45Phase.f at H
  conv => whnf
  revert H; refine bind_elim (fun t59 A H => ?_)
  refine call_mk2 [0] (spec_l41Rd_pick.ac A) ⟨rfl, trivial⟩ rfl rfl rfl rfl rfl rfl rfl rfl ?_
  conv => whnf
  revert H; refine bind_elim (fun t60 A H => ?_)
  refine call_mk2 [0] (spec_l45Slot.ac A) ⟨rfl, trivial⟩ rfl rfl rfl rfl rfl rfl rfl rfl ?_
  conv => whnf
  revert H; refine bind_elim (fun t61 A H => ?_)
  refine call_mk2 [0] (spec_l41Rd_pick.ac A) ⟨rfl, trivial⟩ rfl rfl rfl rfl rfl rfl rfl rfl ?_
  conv => whnf
  refine cut_ 105 [(0, .bp 0 0), (2, (sv_str l2)), (6, .bp 1 0), (7, .bp 89 0)] [(0, .box [(sv_u8 t61.2.1), .int .i64 t61.2.2]), (1, .box [.str (⟨#[]⟩ : ByteArray), .int .i64 0, .str (⟨#[]⟩ : ByteArray), .str (⟨#[]⟩ : ByteArray), .int .i64 0, .int .i64 0, .str (⟨#[]⟩ : ByteArray), .str (⟨#[]⟩ : ByteArray)]), (89, .box [.str a1, .int .i64 (wrap64 (1 + t59.1)), .str t60.1, .str (⟨#[]⟩ : ByteArray), .int .i64 0, .int .i64 (wrap64 (1 + t61.1)), .str (⟨#[]⟩ : ByteArray), .str (⟨#[]⟩ : ByteArray)])] rfl ⟨.inl rfl, ⟨.inl rfl, ⟨.inl rfl, ⟨.inl rfl, trivial⟩⟩⟩⟩ ⟨rfl, ⟨rfl, ⟨rfl, trivial⟩⟩⟩ ?_
  conv => whnf
  refine spec_l45Phase.j0_sq (a1 := a1) (l2 := l2) (t59 := t59) (t60 := t60) (t61 := t61) (KK := k + 1) (r := r) ?_ ?_
  conv => whnf
  refine br_d H (fun c H => ?_) (fun c H => ?_)
  conv => whnf
  refine Or.inr ?_
  conv => whnf
  revert H; refine bind_elim (fun t87 A H => ?_)
  refine call_mk2 [0] (spec_l41Rd_of.ac A) ⟨rfl, trivial⟩ rfl rfl rfl rfl rfl (le_eq ⟨rfl, ⟨sl_e rfl lm_ lm_, trivial⟩⟩) rfl rfl ?_
  conv => whnf
  revert H; refine bind_elim (fun t88 A H => ?_)
  refine call_mk2 [0] (spec_l41Rd_pick.ac A) ⟨rfl, trivial⟩ rfl rfl rfl rfl rfl rfl rfl rfl ?_
  conv => whnf
  exact ⟨(k, t88.2.1, t88.2.2, t87.1, wrap64 (1 + t88.1)), [], ⟨H, lt_⟩, (fits_of trivial trivial fi_ ⟨⟨_, rfl⟩, ⟨_, rfl, ⟨.inl ⟨rfl, rfl⟩, ⟨.inl ⟨rfl, rfl⟩, trivial⟩⟩⟩, ⟨⟨_, rfl⟩, ⟨_, rfl, ⟨.inl ⟨rfl, rfl⟩, ⟨.inl ⟨rfl, rfl⟩, ⟨.inl ⟨rfl, rfl⟩, ⟨.inl ⟨rfl, rfl⟩, ⟨.inl ⟨rfl, rfl⟩, ⟨.inl ⟨rfl, rfl⟩, ⟨.inl ⟨rfl, rfl⟩, ⟨.inl ⟨rfl, rfl⟩, trivial⟩⟩⟩⟩⟩⟩⟩⟩⟩, trivial⟩⟩ rfl)⟩
  conv => whnf
  refine br_d H (fun c H => ?_) (fun c H => ?_)
  conv => whnf
  revert H; refine bind_elim (fun t89 A H => ?_)
  refine call_mk2 [0] (spec_l45Slot.ac A) ⟨rfl, trivial⟩ rfl rfl rfl rfl rfl rfl rfl rfl ?_
  conv => whnf
  refine cut_ 225 [(0, .bp 0 0), (2, (sv_str l2)), (6, .bp 1 0), (7, .bp 89 0), (40, .bool (decide (t89.1.toList = t60.1.toList)))] [(0, .box [(sv_u8 t89.2.1), .int .i64 t89.2.2]), (1, .box [.str (⟨#[]⟩ : ByteArray), .int .i64 0, .str (⟨#[]⟩ : ByteArray), .str (⟨#[]⟩ : ByteArray), .int .i64 0, .int .i64 0, .str (⟨#[]⟩ : ByteArray), .str (⟨#[]⟩ : ByteArray)]), (89, .box [.str a1, .int .i64 (wrap64 (1 + t59.1)), .str t60.1, .str t89.1, .int .i64 0, .int .i64 (wrap64 (1 + t61.1)), .str (⟨#[]⟩ : ByteArray), .str (⟨#[]⟩ : ByteArray)])] rfl ⟨.inl rfl, ⟨.inl rfl, ⟨.inl rfl, ⟨.inl rfl, ⟨.inl rfl, trivial⟩⟩⟩⟩⟩ ⟨rfl, ⟨rfl, ⟨rfl, trivial⟩⟩⟩ ?_
  conv => whnf
  refine br_d H (fun c H => ?_) (fun c H => ?_)
  conv => whnf
  revert H; refine bind_elim (fun t90 A H => ?_)
  refine call_mk2 [0] (spec_l41Rd_pick.ac A) ⟨rfl, trivial⟩ rfl rfl rfl rfl rfl rfl rfl rfl ?_
  conv => whnf
  exact ⟨(k, t90.2.1, t90.2.2, (⟨#[118, 97, 116]⟩ : ByteArray), wrap64 (1 + t90.1)), [], ⟨H, lt_⟩, (fits_of trivial trivial fi_ ⟨⟨_, rfl⟩, ⟨_, rfl, ⟨.inl ⟨rfl, rfl⟩, ⟨.inl ⟨rfl, rfl⟩, trivial⟩⟩⟩, ⟨⟨_, rfl⟩, ⟨_, rfl, ⟨.inl ⟨rfl, rfl⟩, ⟨.inl ⟨rfl, rfl⟩, ⟨.inl ⟨rfl, rfl⟩, ⟨.inl ⟨rfl, rfl⟩, ⟨.inl ⟨rfl, rfl⟩, ⟨.inl ⟨rfl, rfl⟩, ⟨.inl ⟨rfl, rfl⟩, ⟨.inl ⟨rfl, rfl⟩, trivial⟩⟩⟩⟩⟩⟩⟩⟩⟩, trivial⟩⟩ rfl)⟩
  conv => whnf
  revert H; refine bind_elim (fun t91 A H => ?_)
  refine call_mk2 [0] (spec_l41Rd_pick.ac A) ⟨rfl, trivial⟩ rfl rfl rfl rfl rfl rfl rfl rfl ?_
  conv => whnf
  exact ⟨(k, t91.2.1, t91.2.2, t89.1, wrap64 (1 + t91.1)), [], ⟨H, lt_⟩, (fits_of trivial trivial fi_ ⟨⟨_, rfl⟩, ⟨_, rfl, ⟨.inl ⟨rfl, rfl⟩, ⟨.inl ⟨rfl, rfl⟩, trivial⟩⟩⟩, ⟨⟨_, rfl⟩, ⟨_, rfl, ⟨.inl ⟨rfl, rfl⟩, ⟨.inl ⟨rfl, rfl⟩, ⟨.inl ⟨rfl, rfl⟩, ⟨.inl ⟨rfl, rfl⟩, ⟨.inl ⟨rfl, rfl⟩, ⟨.inl ⟨rfl, rfl⟩, ⟨.inl ⟨rfl, rfl⟩, ⟨.inl ⟨rfl, rfl⟩, trivial⟩⟩⟩⟩⟩⟩⟩⟩⟩, trivial⟩⟩ rfl)⟩
  conv => whnf
  refine br_d H (fun c H => ?_) (fun c H => ?_)
  conv => whnf
  revert H; refine bind_elim (fun t92 A H => ?_)
  refine call_mk2 [0] (spec_l41Rd_pick.ac A) ⟨rfl, trivial⟩ rfl rfl rfl rfl rfl rfl rfl rfl ?_
  conv => whnf
  exact ⟨(k, t92.2.1, t92.2.2, (⟨#[]⟩ : ByteArray), wrap64 (1 + t92.1)), [], ⟨H, lt_⟩, (fits_of trivial trivial fi_ ⟨⟨_, rfl⟩, ⟨_, rfl, ⟨.inl ⟨rfl, rfl⟩, ⟨.inl ⟨rfl, rfl⟩, trivial⟩⟩⟩, ⟨⟨_, rfl⟩, ⟨_, rfl, ⟨.inl ⟨rfl, rfl⟩, ⟨.inl ⟨rfl, rfl⟩, ⟨.inl ⟨rfl, rfl⟩, ⟨.inl ⟨rfl, rfl⟩, ⟨.inl ⟨rfl, rfl⟩, ⟨.inl ⟨rfl, rfl⟩, ⟨.inl ⟨rfl, rfl⟩, ⟨.inl ⟨rfl, rfl⟩, trivial⟩⟩⟩⟩⟩⟩⟩⟩⟩, trivial⟩⟩ rfl)⟩
  conv => whnf
  exact ⟨(k, t61.2.1, t61.2.2, (⟨#[]⟩ : ByteArray), 0), [], ⟨H, lt_⟩, (fits_of trivial trivial fi_ ⟨⟨_, rfl⟩, ⟨_, rfl, ⟨.inl ⟨rfl, rfl⟩, ⟨.inl ⟨rfl, rfl⟩, trivial⟩⟩⟩, ⟨⟨_, rfl⟩, ⟨_, rfl, ⟨.inl ⟨rfl, rfl⟩, ⟨.inl ⟨rfl, rfl⟩, ⟨.inl ⟨rfl, rfl⟩, ⟨.inl ⟨rfl, rfl⟩, ⟨.inl ⟨rfl, rfl⟩, ⟨.inl ⟨rfl, rfl⟩, ⟨.inl ⟨rfl, rfl⟩, ⟨.inl ⟨rfl, rfl⟩, trivial⟩⟩⟩⟩⟩⟩⟩⟩⟩, trivial⟩⟩ rfl)⟩
  intro k x1000000 x1000001 x1089003 x1089004 hk H; rcases k with _ | k; exact none_elim H; rw [spec_l45Phase.j0] at H; conv => whnf
  refine Or.inl ?_
  conv => whnf
  refine nd_ H (fun c H => ?_)
  conv => whnf
  refine cutF_ 137 [121] [(0, .bp 0 0), (2, (sv_str l2)), (6, .bp 1 0), (7, .bp 89 0), (8, (sv_str (([(⟨#[103, 111, 111, 100]⟩ : ByteArray), (⟨#[115, 97, 118, 101, 100]⟩ : ByteArray), (⟨#[115, 99, 114, 97, 112, 112, 101, 100]⟩ : ByteArray)] : List ByteArray) ++ l2)))] [(0, .box [(sv_u8 x1000000), .int .i64 x1000001]), (1, .box [.str (⟨#[]⟩ : ByteArray), .int .i64 0, .str (⟨#[]⟩ : ByteArray), .str (⟨#[]⟩ : ByteArray), .int .i64 0, .int .i64 0, .str (⟨#[]⟩ : ByteArray), .str (⟨#[]⟩ : ByteArray)]), (89, .box [.str a1, .int .i64 (wrap64 (1 + t59.1)), .str t60.1, .str x1089003, .int .i64 x1089004, .int .i64 (wrap64 (1 + t61.1)), .str (⟨#[]⟩ : ByteArray), .str (⟨#[]⟩ : ByteArray)])] rfl rfl ⟨.inl rfl, ⟨.inl rfl, ⟨.inl rfl, ⟨.inl rfl, ⟨fz_own rfl rfl (.inr lm_) lm_, trivial⟩⟩⟩⟩⟩ ⟨rfl, ⟨rfl, ⟨rfl, trivial⟩⟩⟩ ?_
  conv => whnf
  revert H; refine bind_elim (fun t84 A H => ?_)
  refine call_mk2 [0] (spec_l41Rd_of.ac A) ⟨rfl, trivial⟩ rfl rfl rfl rfl rfl rfl rfl rfl ?_
  conv => whnf
  revert H; refine bind_elim (fun t85 A H => ?_)
  refine call_mk2 [0] (spec_l41Rd_of.ac A) ⟨rfl, trivial⟩ rfl rfl rfl rfl rfl rfl rfl rfl ?_
  conv => whnf
  refine br_d H (fun c H => ?_) (fun c H => ?_)
  conv => whnf
  refine Br.t ft_ ?_
  conv => whnf
  revert H; refine bind_elim (fun t86 A H => ?_)
  refine call_mk2 [0] (spec_l41Rd_pick.ac A) ⟨rfl, trivial⟩ rfl rfl rfl rfl rfl rfl rfl rfl ?_
  conv => whnf
  refine Br.t ft_ ?_
  conv => whnf
  refine Br.t ft_ ?_
  conv => whnf
  refine cut_ 281 [(2, (sv_str l2)), (6, .bp 1 0), (7, .bp 89 0), (72, .bool (decide (t86.1 > 0)))] [(0, .box [(sv_u8 t86.2.1), .int .i64 t86.2.2]), (1, .box [.str (⟨#[]⟩ : ByteArray), .int .i64 0, .str (⟨#[]⟩ : ByteArray), .str (⟨#[]⟩ : ByteArray), .int .i64 0, .int .i64 0, .str (⟨#[]⟩ : ByteArray), .str (⟨#[]⟩ : ByteArray)]), (89, .box [.str a1, .int .i64 (wrap64 (1 + t59.1)), .str t60.1, .str x1089003, .int .i64 x1089004, .int .i64 (wrap64 (1 + t61.1)), .str t84.1, .str t85.1])] rfl ⟨.inl rfl, ⟨.inl rfl, ⟨.inl rfl, ⟨.inl rfl, trivial⟩⟩⟩⟩ ⟨rfl, ⟨rfl, ⟨rfl, trivial⟩⟩⟩ ?_
  conv => whnf
  refine br_d H (fun c H => ?_) (fun c H => ?_)
  conv => whnf
  refine Nd.mk (by decide) ?_
  conv => whnf
  refine nd_ H (fun c H => ?_)
  conv => whnf
  refine El.mk (rdm_en_str _ _ nf_ nf_) ?_
  conv => whnf
  refine cut_ 337 [(6, .bp 1 0)] [(0, .box [(sv_u8 t86.2.1), .int .i64 t86.2.2]), (1, .box [.str a1, .int .i64 (wrap64 (1 + t59.1)), .str t60.1, .str x1089003, .int .i64 x1089004, .int .i64 (wrap64 (1 + t61.1)), .str (rdOf ByteArray.empty l2 0), .str t85.1])] rfl ⟨.inl rfl, trivial⟩ ⟨rfl, ⟨rfl, trivial⟩⟩ ?_
  conv => whnf
  injection H with H; subst H
  exact ret_gen [some 0] [] ((rtA_agg (rtL_cons (rt_eq rfl) (rtL_cons (rt_eq rfl) (rtL_cons (rt_eq rfl) (rtL_cons (rt_eq rfl) (rtL_cons (rt_eq rfl) (rtL_cons (rt_eq rfl) (rtL_cons (rt_eq rfl) (rtL_cons (rt_eq rfl) (rtL_nil))))))))))) ⟨rfl, trivial⟩ rfl
  conv => whnf
  refine cut_ 297 [(6, .bp 1 0)] [(0, .box [(sv_u8 t86.2.1), .int .i64 t86.2.2]), (1, .box [.str a1, .int .i64 (wrap64 (1 + t59.1)), .str t60.1, .str x1089003, .int .i64 x1089004, .int .i64 (wrap64 (1 + t61.1)), .str t84.1, .str t85.1])] rfl ⟨.inl rfl, trivial⟩ ⟨rfl, ⟨rfl, trivial⟩⟩ ?_
  conv => whnf
  injection H with H; subst H
  exact ret_gen [some 0] [] ((rtA_agg (rtL_cons (rt_eq rfl) (rtL_cons (rt_eq rfl) (rtL_cons (rt_eq rfl) (rtL_cons (rt_eq rfl) (rtL_cons (rt_eq rfl) (rtL_cons (rt_eq rfl) (rtL_cons (rt_eq rfl) (rtL_cons (rt_eq rfl) (rtL_nil))))))))))) ⟨rfl, trivial⟩ rfl
  conv => whnf
  refine Br.f ff_ ?_
  conv => whnf
  refine Br.f ff_ ?_
  conv => whnf
  refine Br.f ff_ ?_
  conv => whnf
  refine cut_ 281 [(2, (sv_str l2)), (6, .bp 1 0), (7, .bp 89 0), (72, .bool false)] [(0, .box [(sv_u8 t85.2.1), .int .i64 t85.2.2]), (1, .box [.str (⟨#[]⟩ : ByteArray), .int .i64 0, .str (⟨#[]⟩ : ByteArray), .str (⟨#[]⟩ : ByteArray), .int .i64 0, .int .i64 0, .str (⟨#[]⟩ : ByteArray), .str (⟨#[]⟩ : ByteArray)]), (89, .box [.str a1, .int .i64 (wrap64 (1 + t59.1)), .str t60.1, .str x1089003, .int .i64 x1089004, .int .i64 (wrap64 (1 + t61.1)), .str t84.1, .str t85.1])] rfl ⟨.inl rfl, ⟨.inl rfl, ⟨.inl rfl, ⟨.inl rfl, trivial⟩⟩⟩⟩ ⟨rfl, ⟨rfl, ⟨rfl, trivial⟩⟩⟩ ?_
  conv => whnf
  refine Br.f rfl ?_
  conv => whnf
  refine cut_ 297 [(6, .bp 1 0)] [(0, .box [(sv_u8 t85.2.1), .int .i64 t85.2.2]), (1, .box [.str a1, .int .i64 (wrap64 (1 + t59.1)), .str t60.1, .str x1089003, .int .i64 x1089004, .int .i64 (wrap64 (1 + t61.1)), .str t84.1, .str t85.1])] rfl ⟨.inl rfl, trivial⟩ ⟨rfl, ⟨rfl, trivial⟩⟩ ?_
  conv => whnf
  injection H with H; subst H
  exact ret_gen [some 0] [] ((rtA_agg (rtL_cons (rt_eq rfl) (rtL_cons (rt_eq rfl) (rtL_cons (rt_eq rfl) (rtL_cons (rt_eq rfl) (rtL_cons (rt_eq rfl) (rtL_cons (rt_eq rfl) (rtL_cons (rt_eq rfl) (rtL_cons (rt_eq rfl) (rtL_nil))))))))))) ⟨rfl, trivial⟩ rfl
theorem spec_l43Dec.ac_ : ∀ (k : Nat) (a0 : Int) (r : ByteArray), spec_l43Dec.f k a0 = some r → ACalls Tryd.prog G 46 [] [.int .i64 a0] [] (.str r)
  | 0, _, _, H => none_elim H
  | k + 1, a0, r, H => by
    refine acalls_of tok hP Tryd.func46 rfl (by kernel_rfl) [.tmp 2] rfl (by kernel_rfl) (Nat.le_of_ble_eq_true rfl) (.l .n (.l .n (.c .n .n))) rfl ?_
    rw [spec_l43Dec.f] at H
    conv => whnf
    refine br_d H (fun c H => ?_) (fun c H => ?_)
    conv => whnf
    refine Or.inl ?_
    conv => whnf
    injection H with H; subst H
    exact ret_fz [] (rtA_eq rfl)
    conv => whnf
    refine Nd.mk (by decide) ?_
    conv => whnf
    revert H; refine bind_elim (fun t107 A H => ?_)
    refine call_mk (spec_l43Dec.ac_ _ _ _ A) (avAL_cons (avA_shut' rfl) (avAL_nil)) (Or.inl rfl) rfl rfl (Nat.le_of_ble_eq_true rfl) ?_
    conv => whnf
    refine Nd.mk (by decide) ?_
    conv => whnf
    refine Or.inl ?_
    conv => whnf
    refine nd_ H (fun c H => ?_)
    conv => whnf
    refine cut_ 112 [(2, .str (t107 ++ (⟨#[UInt8.ofNat (IntKind.wrap .u8 (wrap64 (48 + (Int.tmod a0 10)))).toNat]⟩ : ByteArray)))] [] rfl ⟨.inl rfl, trivial⟩ trivial ?_
    conv => whnf
    injection H with H; subst H
    exact ret_fz [] (rtA_eq rfl)
theorem spec_l43Dec.ac {k : Nat} {a0 : Int} {r : ByteArray} (H : spec_l43Dec.f k a0 = some r) : ACalls Tryd.prog G 46 [] [.int .i64 a0] [] (.str r) := spec_l43Dec.ac_ _ _ _ H
theorem spec_l45Recipe.l1_lp {F : (Exit → St → Prop) → St → Prop} {hv : List Tmp} {Q : Exit → St → Prop} {σ : St} {r : (List S_impl_RecPhase) × (List Int) × Int} {k : Nat} {x5_1 : List S_impl_RecPhase} {x7 : Int} {x1000000_1 : List Int} {x1000001_1 : Int} (H : spec_l45Recipe.l1 k x5_1 x7 x1000000_1 x1000001_1 = some r) (rn : List (Option Nat)) (h1 : Fits σ σ [0, 97] [(5, .own 0 x5_1.length), (7, .int .i64 x7)] [(0, .box [(sv_u8 x1000000_1), .int .i64 x1000001_1])] [.arr 73 8 (x5_1.map en_S_impl_RecPhase)] rn)
    (h2 : ∀ (k0 : Nat) (x5_1 : List S_impl_RecPhase) (x7 : Int) (x1000000_1 : List Int) (x1000001_1 : Int), k0 < k + 1 → spec_l45Recipe.l1 k0 x5_1 x7 x1000000_1 x1000001_1 = some r → headN σ hv [0, 97] [(5, .own 0 x5_1.length), (7, .int .i64 x7)] [(0, .box [(sv_u8 x1000000_1), .int .i64 x1000001_1])] [.arr 73 8 (x5_1.map en_S_impl_RecPhase)] (F (fun e σ' => match e with | .normal => ∃ (y : Nat × (List S_impl_RecPhase) × Int × (List Int) × Int) (rn : List (Option Nat)), (spec_l45Recipe.l1 y.1 y.2.1 y.2.2.1 y.2.2.2.1 y.2.2.2.2 = some r ∧ y.1 < k + 1) ∧ y.1 < k0 ∧ Fits σ σ' [0, 97] [(5, .own 0 y.2.1.length), (7, .int .i64 y.2.2.1)] [(0, .box [(sv_u8 y.2.2.2.1), .int .i64 y.2.2.2.2])] [.arr 73 8 (y.2.1.map en_S_impl_RecPhase)] rn | e => Q e σ'))) : Lp F hv Q σ := by
  unfold Lp
  refine ⟨Nat × (List S_impl_RecPhase) × Int × (List Int) × Int, fun x => spec_l45Recipe.l1 x.1 x.2.1 x.2.2.1 x.2.2.2.1 x.2.2.2.2 = some r ∧ x.1 < k + 1, fun x => x.1, [0, 97], fun x => [(5, .own 0 x.2.1.length), (7, .int .i64 x.2.2.1)], fun x => [(0, .box [(sv_u8 x.2.2.2.1), .int .i64 x.2.2.2.2])], fun x => [.arr 73 8 (x.2.1.map en_S_impl_RecPhase)], ⟨(k, x5_1, x7, x1000000_1, x1000001_1), rn, ⟨H, Nat.lt_succ_self _⟩, h1⟩, ?_⟩
  rintro ⟨k, x5_1, x7, x1000000_1, x1000001_1⟩ ⟨H, hk⟩
  exact h2 k x5_1 x7 x1000000_1 x1000001_1 hk H
theorem spec_l45Recipe.l0_lp {F : (Exit → St → Prop) → St → Prop} {hv : List Tmp} {Q : Exit → St → Prop} {σ : St} {r : (List S_impl_RecPhase) × (List Int) × Int} {k : Nat} {t121 : List ByteArray} {t123 : Int × (List Int) × Int} {x5 : List S_impl_RecPhase} {x6 : Int} {x1000000 : List Int} {x1000001 : Int} (H : spec_l45Recipe.l0 k x5 x6 t121 t123 x1000000 x1000001 = some r) (rn : List (Option Nat)) (h1 : Fits σ σ [0, 73] [(5, .own 0 x5.length), (6, .int .i64 x6)] [(0, .box [(sv_u8 x1000000), .int .i64 x1000001])] [.arr 73 8 (x5.map en_S_impl_RecPhase)] rn)
    (h2 : ∀ (k0 : Nat) (x5 : List S_impl_RecPhase) (x6 : Int) (x1000000 : List Int) (x1000001 : Int), k0 < k + 1 → spec_l45Recipe.l0 k0 x5 x6 t121 t123 x1000000 x1000001 = some r → headN σ hv [0, 73] [(5, .own 0 x5.length), (6, .int .i64 x6)] [(0, .box [(sv_u8 x1000000), .int .i64 x1000001])] [.arr 73 8 (x5.map en_S_impl_RecPhase)] (F (fun e σ' => match e with | .normal => ∃ (y : Nat × (List S_impl_RecPhase) × Int × (List Int) × Int) (rn : List (Option Nat)), (spec_l45Recipe.l0 y.1 y.2.1 y.2.2.1 t121 t123 y.2.2.2.1 y.2.2.2.2 = some r ∧ y.1 < k + 1) ∧ y.1 < k0 ∧ Fits σ σ' [0, 73] [(5, .own 0 y.2.1.length), (6, .int .i64 y.2.2.1)] [(0, .box [(sv_u8 y.2.2.2.1), .int .i64 y.2.2.2.2])] [.arr 73 8 (y.2.1.map en_S_impl_RecPhase)] rn | e => Q e σ'))) : Lp F hv Q σ := by
  unfold Lp
  refine ⟨Nat × (List S_impl_RecPhase) × Int × (List Int) × Int, fun x => spec_l45Recipe.l0 x.1 x.2.1 x.2.2.1 t121 t123 x.2.2.2.1 x.2.2.2.2 = some r ∧ x.1 < k + 1, fun x => x.1, [0, 73], fun x => [(5, .own 0 x.2.1.length), (6, .int .i64 x.2.2.1)], fun x => [(0, .box [(sv_u8 x.2.2.2.1), .int .i64 x.2.2.2.2])], fun x => [.arr 73 8 (x.2.1.map en_S_impl_RecPhase)], ⟨(k, x5, x6, x1000000, x1000001), rn, ⟨H, Nat.lt_succ_self _⟩, h1⟩, ?_⟩
  rintro ⟨k, x5, x6, x1000000, x1000001⟩ ⟨H, hk⟩
  exact h2 k x5 x6 x1000000 x1000001 hk H
theorem spec_l45Recipe.ac {k : Nat} {a0_0 : List Int} {a0_1 : Int} {r : (List S_impl_RecPhase) × (List Int) × Int} (H : spec_l45Recipe.f k a0_0 a0_1 = some r) : ACalls Tryd.prog G 109 [.box [(sv_u8 a0_0), .int .i64 a0_1]] [.bp 0 0] [.box [(sv_u8 r.2.1), .int .i64 r.2.2]] ((sv_S_impl_RecPhase r.1)) := by
  refine acalls_of tok hP Tryd.func109 rfl (by kernel_rfl) [.tmp 2] rfl (by kernel_rfl) (Nat.le_of_ble_eq_true rfl) (.l .n (.l .n (.l .n (.c .n (.l (.l .n (.l .n (.c .n .n))) (.l (.l .n (.l (.l .n (.l (.c .n .n) (.c .n .n))) .n)) .n)))))) rfl ?_
  unfold spec_l45Recipe.f at H
  conv => whnf
  revert H; refine bind_elim (fun t121 A H => ?_)
  refine call_mk (spec_l45Names.ac A) (avAL_nil) (Or.inl rfl) rfl rfl (Nat.le_of_ble_eq_true rfl) ?_
  conv => whnf
  revert H; refine bind_elim (fun t123 A H => ?_)
  refine call_mk2 [0] (spec_l41Rd_pick.ac A) ⟨rfl, trivial⟩ rfl rfl rfl rfl rfl rfl rfl rfl ?_
  conv => whnf
  refine Or.inl ?_
  conv => whnf
  refine cut_ 89 [(0, .bp 0 0), (3, (sv_str t121)), (4, .int .i64 (wrap64 (1 + t123.1))), (5, .own 73 0)] [(0, .box [(sv_u8 t123.2.1), .int .i64 t123.2.2]), (73, .arr 73 8 (([] : List S_impl_RecPhase).map en_S_impl_RecPhase))] rfl ⟨.inl rfl, ⟨.inl rfl, ⟨.inl rfl, ⟨.inl rfl, trivial⟩⟩⟩⟩ ⟨rfl, ⟨fm_, trivial⟩⟩ ?_
  conv => whnf
  refine spec_l45Recipe.l0_lp (t121 := t121) (t123 := t123) (k := k) H [some 73] (fits_of ⟨mt_own lm_, ⟨.inl ⟨rfl, rfl⟩, trivial⟩⟩ ⟨rfl, trivial⟩ fi_ ⟨⟨_, rfl⟩, ⟨_, rfl, ⟨.inl ⟨rfl, rfl⟩, ⟨.inl ⟨rfl, rfl⟩, trivial⟩⟩⟩, trivial⟩ rfl) ?_
  intro k x5 x6 x1000000 x1000001 hk H; rcases k with _ | k; exact none_elim H; rw [spec_l45Recipe.l0] at H; conv => whnf
  refine br_d H (fun c H => ?_) (fun c H => ?_)
  conv => whnf
  refine nd_ H (fun c H => ?_)
  conv => whnf
  refine nd_ H (fun c H => ?_)
  conv => whnf
  refine El.mk (rdm_en_str _ _ nf_ nf_) ?_
  conv => whnf
  refine nd_ H (fun c H => ?_)
  conv => whnf
  refine nd_ H (fun c H => ?_)
  conv => whnf
  refine nd_ H (fun c H => ?_)
  conv => whnf
  revert H; refine bind_elim (fun t128 A H => ?_)
  refine call_mk2 [0] (spec_l45Phase.ac A) ⟨rfl, trivial⟩ rfl rfl rfl rfl rfl (le_eq ⟨rfl, ⟨rfl, ⟨sl_e rfl lm_ lm_, trivial⟩⟩⟩) rfl rfl ?_
  conv => whnf
  refine Or.inl ?_
  conv => whnf
  refine nd_ H (fun c H => ?_)
  conv => whnf
  refine cut_ 242 [(0, .bp 0 0), (3, (sv_str t121)), (4, .int .i64 (wrap64 (1 + t123.1))), (5, .own 226 (x5.length + 1)), (6, .int .i64 x6)] [(0, .box [(sv_u8 t128.2.2.2.2.2.2.2.2.1), .int .i64 t128.2.2.2.2.2.2.2.2.2]), (226, .arr 73 8 ((x5 ++ ([(⟨t128.1, t128.2.1, t128.2.2.1, t128.2.2.2.1, t128.2.2.2.2.1, t128.2.2.2.2.2.1, t128.2.2.2.2.2.2.1, t128.2.2.2.2.2.2.2.1⟩ : S_impl_RecPhase)] : List S_impl_RecPhase)).map en_S_impl_RecPhase))] rfl ⟨.inl rfl, ⟨.inl rfl, ⟨.inl rfl, ⟨.inl rfl, ⟨.inl rfl, trivial⟩⟩⟩⟩⟩ ⟨rfl, ⟨fm_, trivial⟩⟩ ?_
  conv => whnf
  exact ⟨(k, (x5 ++ ([(⟨t128.1, t128.2.1, t128.2.2.1, t128.2.2.2.1, t128.2.2.2.2.1, t128.2.2.2.2.2.1, t128.2.2.2.2.2.2.1, t128.2.2.2.2.2.2.2.1⟩ : S_impl_RecPhase)] : List S_impl_RecPhase)), wrap64 (x6 + 1), t128.2.2.2.2.2.2.2.2.1, t128.2.2.2.2.2.2.2.2.2), [some 226], ⟨H, lt_⟩, lt_, (fits_of ⟨mt_own lm_, ⟨.inl ⟨rfl, rfl⟩, trivial⟩⟩ ⟨rfl, trivial⟩ fi_ ⟨⟨_, rfl⟩, ⟨_, rfl, ⟨.inl ⟨rfl, rfl⟩, ⟨.inl ⟨rfl, rfl⟩, trivial⟩⟩⟩, trivial⟩ rfl)⟩
  conv => whnf
  revert H; refine bind_elim (fun t137 A H => ?_)
  refine call_mk2 [0] (spec_l41Rd_pick.ac A) ⟨rfl, trivial⟩ rfl rfl rfl rfl rfl rfl rfl rfl ?_
  conv => whnf
  refine br_d H (fun c H => ?_) (fun c H => ?_)
  conv => whnf
  refine spec_l45Recipe.l1_lp (k := k) H [some 97] (fits_of ⟨rfl, ⟨.inl ⟨rfl, rfl⟩, trivial⟩⟩ ⟨rfl, trivial⟩ fi_ ⟨⟨_, rfl⟩, ⟨_, rfl, ⟨.inl ⟨rfl, rfl⟩, ⟨.inl ⟨rfl, rfl⟩, trivial⟩⟩⟩, trivial⟩ rfl) ?_
  intro k x5_1 x7 x1000000_1 x1000001_1 hk H; rcases k with _ | k; exact none_elim H; rw [spec_l45Recipe.l1] at H; conv => whnf
  refine cut_ 179 [(0, .bp 0 0), (5, .own 154 x5_1.length), (7, .int .i64 x7), (39, .bool (decide ((x5_1.length : Int) < 12)))] [(0, .box [(sv_u8 x1000000_1), .int .i64 x1000001_1]), (154, .arr 73 8 (x5_1.map en_S_impl_RecPhase))] rfl ⟨.inl rfl, ⟨.inl rfl, ⟨.inl rfl, ⟨.inl rfl, trivial⟩⟩⟩⟩ ⟨rfl, ⟨rfl, trivial⟩⟩ ?_
  conv => whnf
  refine br_d H (fun c H => ?_) (fun c H => ?_)
  conv => whnf
  revert H; refine bind_elim (fun t140 A H => ?_)
  refine call_mk (spec_l43Dec.ac A) (avAL_cons (avA_shut' rfl) (avAL_nil)) (Or.inl rfl) rfl rfl (Nat.le_of_ble_eq_true rfl) ?_
  conv => whnf
  refine nd_ H (fun c H => ?_)
  conv => whnf
  refine Or.inr ?_
  conv => whnf
  revert H; refine bind_elim (fun t141 A H => ?_)
  refine call_mk2 [0] (spec_l45Phase.ac A) ⟨rfl, trivial⟩ rfl rfl rfl rfl rfl (le_eq ⟨rfl, ⟨rfl, ⟨sl_e rfl lm_ lm_, trivial⟩⟩⟩) rfl rfl ?_
  conv => whnf
  refine Or.inl ?_
  conv => whnf
  refine nd_ H (fun c H => ?_)
  conv => whnf
  refine cut_ 259 [(0, .bp 0 0), (5, .own 243 (x5_1.length + 1)), (7, .int .i64 x7)] [(0, .box [(sv_u8 t141.2.2.2.2.2.2.2.2.1), .int .i64 t141.2.2.2.2.2.2.2.2.2]), (243, .arr 73 8 ((x5_1 ++ ([(⟨t141.1, t141.2.1, t141.2.2.1, t141.2.2.2.1, t141.2.2.2.2.1, t141.2.2.2.2.2.1, t141.2.2.2.2.2.2.1, t141.2.2.2.2.2.2.2.1⟩ : S_impl_RecPhase)] : List S_impl_RecPhase)).map en_S_impl_RecPhase))] rfl ⟨.inl rfl, ⟨.inl rfl, ⟨.inl rfl, trivial⟩⟩⟩ ⟨rfl, ⟨fm_, trivial⟩⟩ ?_
  conv => whnf
  exact ⟨(k, (x5_1 ++ ([(⟨t141.1, t141.2.1, t141.2.2.1, t141.2.2.2.1, t141.2.2.2.2.1, t141.2.2.2.2.2.1, t141.2.2.2.2.2.2.1, t141.2.2.2.2.2.2.2.1⟩ : S_impl_RecPhase)] : List S_impl_RecPhase)), wrap64 (x7 + 1), t141.2.2.2.2.2.2.2.2.1, t141.2.2.2.2.2.2.2.2.2), [some 243], ⟨H, lt_⟩, lt_, (fits_of ⟨mt_own lm_, ⟨.inl ⟨rfl, rfl⟩, trivial⟩⟩ ⟨rfl, trivial⟩ fi_ ⟨⟨_, rfl⟩, ⟨_, rfl, ⟨.inl ⟨rfl, rfl⟩, ⟨.inl ⟨rfl, rfl⟩, trivial⟩⟩⟩, trivial⟩ rfl)⟩
  conv => whnf
  injection H with H; subst H
  exact ret_gen [some 0] [154] ((rtA_fz' rfl rfl)) ⟨rfl, trivial⟩ rfl
  conv => whnf
  injection H with H; subst H
  exact ret_gen [some 0] [97] ((rtA_fz' rfl rfl)) ⟨rfl, trivial⟩ rfl
theorem spec_l41In.ac {a0 : Int} {a1 : Int} {a2 : Int} {r : Bool} (H : spec_l41In.f a0 a1 a2 = some r) : ACalls Tryd.prog G 81 [] [.int .i64 a0, .int .i64 a1, .int .i64 a2] [] (.bool r) := by
  refine acalls_of tok hP Tryd.func81 rfl (by kernel_rfl) [.tmp 6] rfl (by kernel_rfl) (Nat.le_of_ble_eq_true rfl) (.l .n (.c .n .n)) rfl ?_
  unfold spec_l41In.f at H
  conv => whnf
  refine br_d H (fun c H => ?_) (fun c H => ?_)
  conv => whnf
  refine Br.t ft_ ?_
  conv => whnf
  refine Br.t ft_ ?_
  conv => whnf
  refine Br.t ft_ ?_
  conv => whnf
  refine cut_ 80 [(6, .bool (decide (a0 ≤ a2)))] [] rfl ⟨.inl rfl, trivial⟩ trivial ?_
  conv => whnf
  injection H with H; subst H
  exact ret_fz [] (rtA_eq rfl)
  conv => whnf
  refine Br.f ff_ ?_
  conv => whnf
  refine Br.f ff_ ?_
  conv => whnf
  refine Br.f ff_ ?_
  conv => whnf
  refine cut_ 80 [(6, .bool false)] [] rfl ⟨.inl rfl, trivial⟩ trivial ?_
  conv => whnf
  injection H with H; subst H
  exact ret_fz [] (rtA_eq rfl)
theorem spec_l41NameOk.l0_lp {F : (Exit → St → Prop) → St → Prop} {hv : List Tmp} {Q : Exit → St → Prop} {σ : St} {r : Bool} {k : Nat} {a0 : ByteArray} {x3 : Int} (H : spec_l41NameOk.l0 k a0 x3 = some r) (rn : List (Option Nat)) (h1 : Fits σ σ [] [(3, .int .i64 x3)] [] [] rn)
    (h2 : ∀ (k0 : Nat) (x3 : Int), k0 < k + 1 → spec_l41NameOk.l0 k0 a0 x3 = some r → headN σ hv [] [(3, .int .i64 x3)] [] [] (F (fun e σ' => match e with | .normal => ∃ (y : Nat × Int) (rn : List (Option Nat)), (spec_l41NameOk.l0 y.1 a0 y.2 = some r ∧ y.1 < k + 1) ∧ y.1 < k0 ∧ Fits σ σ' [] [(3, .int .i64 y.2)] [] [] rn | e => Q e σ'))) : Lp F hv Q σ := by
  unfold Lp
  refine ⟨Nat × Int, fun x => spec_l41NameOk.l0 x.1 a0 x.2 = some r ∧ x.1 < k + 1, fun x => x.1, [], fun x => [(3, .int .i64 x.2)], fun x => [], fun x => [], ⟨(k, x3), rn, ⟨H, Nat.lt_succ_self _⟩, h1⟩, ?_⟩
  rintro ⟨k, x3⟩ ⟨H, hk⟩
  exact h2 k x3 hk H
theorem spec_l41NameOk.ac {k : Nat} {a0 : ByteArray} {r : Bool} (H : spec_l41NameOk.f k a0 = some r) : ACalls Tryd.prog G 114 [] [.str a0] [] (.bool r) := by
  refine acalls_of tok hP Tryd.func114 rfl (by kernel_rfl) [.tmp 2] rfl (by kernel_rfl) (Nat.le_of_ble_eq_true rfl) (.l .n (.l .n (.l (.l .n (.l (.c .n .n) (.l (.l .n (.c .n .n)) .n))) .n))) rfl ?_
  unfold spec_l41NameOk.f at H
  conv => whnf
  revert H; refine bind_elim (fun t171 A H => ?_)
  refine call_mk (spec_l41In.ac A) (avAL_cons (avA_shut' rfl) (avAL_cons (avA_shut' rfl) (avAL_cons (avA_shut' rfl) (avAL_nil)))) (Or.inl rfl) rfl rfl (Nat.le_of_ble_eq_true rfl) ?_
  conv => whnf
  refine br_nt H (fun c H => ?_) (fun c H => ?_)
  conv => whnf
  refine spec_l41NameOk.l0_lp (a0 := a0) (k := k) H [] (fits_of ⟨.inl ⟨rfl, rfl⟩, trivial⟩ trivial fi_ trivial rfl) ?_
  intro k x3 hk H; rcases k with _ | k; exact none_elim H; rw [spec_l41NameOk.l0] at H; conv => whnf
  refine cut_ 80 [(0, .str a0), (3, .int .i64 x3), (12, .bool (decide (x3 < (a0.size : Int))))] [] rfl ⟨.inl rfl, ⟨.inl rfl, ⟨.inl rfl, trivial⟩⟩⟩ trivial ?_
  conv => whnf
  refine br_d H (fun c H => ?_) (fun c H => ?_)
  conv => whnf
  refine nd_ H (fun c H => ?_)
  conv => whnf
  refine Nd.mk nf_ ?_
  conv => whnf
  refine br_d H (fun c H => ?_) (fun c H => ?_)
  conv => whnf
  refine Br.t ft_ ?_
  conv => whnf
  refine Br.t ft_ ?_
  conv => whnf
  refine br_d H (fun c H => ?_) (fun c H => ?_)
  conv => whnf
  refine Br.t ft_ ?_
  conv => whnf
  refine Br.t ft_ ?_
  conv => whnf
  refine Br.t ft_ ?_
  conv => whnf
  refine Br.t ft_ ?_
  conv => whnf
  refine Br.t rfl ?_
  conv => whnf
  refine Br.t rfl ?_
  conv => whnf
  refine Br.t rfl ?_
  conv => whnf
  refine cut_ 264 [(0, .str a0), (3, .int .i64 x3), (36, .bool (!true))] [] rfl ⟨.inl rfl, ⟨.inl rfl, ⟨.inl rfl, trivial⟩⟩⟩ trivial ?_
  conv => whnf
  refine Br.f rfl ?_
  conv => whnf
  exact ⟨(k, wrap64 (x3 + 1)), [], ⟨H, lt_⟩, lt_, (fits_of ⟨.inl ⟨rfl, rfl⟩, trivial⟩ trivial fi_ trivial rfl)⟩
  conv => whnf
  refine Br.f ff_ ?_
  conv => whnf
  refine Br.f ff_ ?_
  conv => whnf
  refine br_d H (fun c H => ?_) (fun c H => ?_)
  conv => whnf
  refine Br.t ft_ ?_
  conv => whnf
  refine Br.f ff_ ?_
  conv => whnf
  refine Br.t ft_ ?_
  conv => whnf
  refine Br.f ff_ ?_
  conv => whnf
  refine br_d H (fun c H => ?_) (fun c H => ?_)
  conv => whnf
  refine Br.t ft_ ?_
  conv => whnf
  refine Br.t ft_ ?_
  conv => whnf
  refine cut_ 264 [(0, .str a0), (3, .int .i64 x3), (36, .bool (!true))] [] rfl ⟨.inl rfl, ⟨.inl rfl, ⟨.inl rfl, trivial⟩⟩⟩ trivial ?_
  conv => whnf
  refine Br.f rfl ?_
  conv => whnf
  exact ⟨(k, wrap64 (x3 + 1)), [], ⟨H, lt_⟩, lt_, (fits_of ⟨.inl ⟨rfl, rfl⟩, trivial⟩ trivial fi_ trivial rfl)⟩
  conv => whnf
  refine Br.f ff_ ?_
  conv => whnf
  refine Br.f ff_ ?_
  conv => whnf
  refine cut_ 264 [(0, .str a0), (3, .int .i64 x3), (36, .bool (!(decide ((bt a0 x3) = 45))))] [] rfl ⟨.inl rfl, ⟨.inl rfl, ⟨.inl rfl, trivial⟩⟩⟩ trivial ?_
  conv => whnf
  refine br_nd H (fun c H => ?_) (fun c H => ?_)
  conv => whnf
  exact ⟨(k, wrap64 (x3 + 1)), [], ⟨H, lt_⟩, lt_, (fits_of ⟨.inl ⟨rfl, rfl⟩, trivial⟩ trivial fi_ trivial rfl)⟩
  conv => whnf
  injection H with H; subst H
  exact ret_fz [] (rtA_eq rfl)
  conv => whnf
  refine Br.f ff_ ?_
  conv => whnf
  refine Br.f ff_ ?_
  conv => whnf
  refine Br.f ff_ ?_
  conv => whnf
  refine Br.f ff_ ?_
  conv => whnf
  refine Br.f rfl ?_
  conv => whnf
  refine Br.f rfl ?_
  conv => whnf
  refine Br.f rfl ?_
  conv => whnf
  refine cut_ 264 [(0, .str a0), (3, .int .i64 x3), (36, .bool (!(decide ((bt a0 x3) = 45))))] [] rfl ⟨.inl rfl, ⟨.inl rfl, ⟨.inl rfl, trivial⟩⟩⟩ trivial ?_
  conv => whnf
  refine br_nd H (fun c H => ?_) (fun c H => ?_)
  conv => whnf
  exact ⟨(k, wrap64 (x3 + 1)), [], ⟨H, lt_⟩, lt_, (fits_of ⟨.inl ⟨rfl, rfl⟩, trivial⟩ trivial fi_ trivial rfl)⟩
  conv => whnf
  injection H with H; subst H
  exact ret_fz [] (rtA_eq rfl)
  conv => whnf
  refine Br.f ff_ ?_
  conv => whnf
  refine Br.f ff_ ?_
  conv => whnf
  refine Br.f rfl ?_
  conv => whnf
  refine Br.f rfl ?_
  conv => whnf
  refine Br.f rfl ?_
  conv => whnf
  refine br_d H (fun c H => ?_) (fun c H => ?_)
  conv => whnf
  refine Br.t ft_ ?_
  conv => whnf
  refine Br.f rfl ?_
  conv => whnf
  refine Br.t ft_ ?_
  conv => whnf
  refine Br.f rfl ?_
  conv => whnf
  refine br_d H (fun c H => ?_) (fun c H => ?_)
  conv => whnf
  refine Br.t ft_ ?_
  conv => whnf
  refine Br.t ft_ ?_
  conv => whnf
  refine cut_ 264 [(0, .str a0), (3, .int .i64 x3), (36, .bool (!true))] [] rfl ⟨.inl rfl, ⟨.inl rfl, ⟨.inl rfl, trivial⟩⟩⟩ trivial ?_
  conv => whnf
  refine Br.f rfl ?_
  conv => whnf
  exact ⟨(k, wrap64 (x3 + 1)), [], ⟨H, lt_⟩, lt_, (fits_of ⟨.inl ⟨rfl, rfl⟩, trivial⟩ trivial fi_ trivial rfl)⟩
  conv => whnf
  refine Br.f ff_ ?_
  conv => whnf
  refine Br.f ff_ ?_
  conv => whnf
  refine cut_ 264 [(0, .str a0), (3, .int .i64 x3), (36, .bool (!(decide ((bt a0 x3) = 45))))] [] rfl ⟨.inl rfl, ⟨.inl rfl, ⟨.inl rfl, trivial⟩⟩⟩ trivial ?_
  conv => whnf
  refine br_nd H (fun c H => ?_) (fun c H => ?_)
  conv => whnf
  exact ⟨(k, wrap64 (x3 + 1)), [], ⟨H, lt_⟩, lt_, (fits_of ⟨.inl ⟨rfl, rfl⟩, trivial⟩ trivial fi_ trivial rfl)⟩
  conv => whnf
  injection H with H; subst H
  exact ret_fz [] (rtA_eq rfl)
  conv => whnf
  refine Br.f ff_ ?_
  conv => whnf
  refine Br.f rfl ?_
  conv => whnf
  refine Br.f ff_ ?_
  conv => whnf
  refine Br.f rfl ?_
  conv => whnf
  refine Br.f rfl ?_
  conv => whnf
  refine Br.f rfl ?_
  conv => whnf
  refine Br.f rfl ?_
  conv => whnf
  refine cut_ 264 [(0, .str a0), (3, .int .i64 x3), (36, .bool (!(decide ((bt a0 x3) = 45))))] [] rfl ⟨.inl rfl, ⟨.inl rfl, ⟨.inl rfl, trivial⟩⟩⟩ trivial ?_
  conv => whnf
  refine br_nd H (fun c H => ?_) (fun c H => ?_)
  conv => whnf
  exact ⟨(k, wrap64 (x3 + 1)), [], ⟨H, lt_⟩, lt_, (fits_of ⟨.inl ⟨rfl, rfl⟩, trivial⟩ trivial fi_ trivial rfl)⟩
  conv => whnf
  injection H with H; subst H
  exact ret_fz [] (rtA_eq rfl)
  conv => whnf
  injection H with H; subst H
  exact ret_fz [] (rtA_eq rfl)
  conv => whnf
  injection H with H; subst H
  exact ret_fz [] (rtA_eq rfl)
theorem spec_RecEnd.ac {a0 : ByteArray} {r : Int} (H : spec_RecEnd.f a0 = some r) : ACalls Tryd.prog G 83 [] [.str a0] [] (.int .i64 r) := by
  refine acalls_of tok hP Tryd.func83 rfl (by kernel_rfl) [.tmp 2] rfl (by kernel_rfl) (Nat.le_of_ble_eq_true rfl) .n rfl ?_
  unfold spec_RecEnd.f at H
  conv => whnf
  refine br_d H (fun c H => ?_) (fun c H => ?_)
  conv => whnf
  injection H with H; subst H
  exact ret_fz [] (rtA_eq rfl)
  conv => whnf
  refine br_d H (fun c H => ?_) (fun c H => ?_)
  conv => whnf
  injection H with H; subst H
  exact ret_fz [] (rtA_eq rfl)
  conv => whnf
  refine br_d H (fun c H => ?_) (fun c H => ?_)
  conv => whnf
  injection H with H; subst H
  exact ret_fz [] (rtA_eq rfl)
  conv => whnf
  injection H with H; subst H
  exact ret_fz [] (rtA_eq rfl)
theorem spec_l41PlainOk.ac {k : Nat} {a0 : ByteArray} {r : Bool} (H : spec_l41PlainOk.f k a0 = some r) : ACalls Tryd.prog G 112 [] [.str a0] [] (.bool r) := by
  refine acalls_of tok hP Tryd.func112 rfl (by kernel_rfl) [.tmp 2] rfl (by kernel_rfl) (Nat.le_of_ble_eq_true rfl) .n rfl ?_
  unfold spec_l41PlainOk.f at H
  conv => whnf
  revert H; refine bind_elim (fun t181 A H => ?_)
  refine call_mk (spec_l41NameOk.ac A) (avAL_cons (avA_shut' rfl) (avAL_nil)) (Or.inl rfl) rfl rfl (Nat.le_of_ble_eq_true rfl) ?_
  conv => whnf
  refine br_t H (fun c H => ?_) (fun c H => ?_)
  conv => whnf
  refine Br.t ft_ ?_
  conv => whnf
  revert H; refine bind_elim (fun t182 A H => ?_)
  refine call_mk (spec_RecEnd.ac A) (avAL_cons (avA_shut' rfl) (avAL_nil)) (Or.inl rfl) rfl rfl (Nat.le_of_ble_eq_true rfl) ?_
  conv => whnf
  refine Br.t ft_ ?_
  conv => whnf
  refine Br.t ft_ ?_
  conv => whnf
  injection H with H; subst H
  exact ret_fz [] (rtA_eq rfl)
  conv => whnf
  refine Br.f ff_ ?_
  conv => whnf
  refine Br.f ff_ ?_
  conv => whnf
  refine Br.f ff_ ?_
  conv => whnf
  injection H with H; subst H
  exact ret_fz [] (rtA_eq rfl)
theorem spec_l41ArgsOk.ac {k : Nat} {a0_0 : ByteArray} {a0_1 : Int} {a0_2 : ByteArray} {a0_3 : ByteArray} {a0_4 : Int} {a0_5 : Int} {a0_6 : ByteArray} {a0_7 : ByteArray} {r : Bool} (H : spec_l41ArgsOk.f k a0_0 a0_1 a0_2 a0_3 a0_4 a0_5 a0_6 a0_7 = some r) : ACalls Tryd.prog G 113 [] [.agg [.str a0_0, .int .i64 a0_1, .str a0_2, .str a0_3, .int .i64 a0_4, .int .i64 a0_5, .str a0_6, .str a0_7]] [] (.bool r) := by
  refine acalls_of tok hP Tryd.func113 rfl (by kernel_rfl) [.tmp 2] rfl (by kernel_rfl) (Nat.le_of_ble_eq_true rfl) (.l .n (.l (.l .n (.l .n (.l (.c .n .n) (.l .n (.l (.c .n .n) (.c .n (.l (.c .n .n) (.l .n (.l (.c .n .n) .n))))))))) .n)) rfl ?_
  unfold spec_l41ArgsOk.f at H
  conv => whnf
  refine br_d H (fun c H => ?_) (fun c H => ?_)
  conv => whnf
  revert H; refine bind_elim (fun t211 A H => ?_)
  refine call_mk (spec_l41NameOk.ac A) (avAL_cons (avA_shut' rfl) (avAL_nil)) (Or.inl rfl) rfl rfl (Nat.le_of_ble_eq_true rfl) ?_
  conv => whnf
  refine br_t H (fun c H => ?_) (fun c H => ?_)
  conv => whnf
  refine Br.t ft_ ?_
  conv => whnf
  refine Br.t ft_ ?_
  conv => whnf
  revert H; refine bind_elim (fun t212 A H => ?_)
  refine call_mk (spec_l41NameOk.ac A) (avAL_cons (avA_shut' rfl) (avAL_nil)) (Or.inl rfl) rfl rfl (Nat.le_of_ble_eq_true rfl) ?_
  conv => whnf
  refine Br.t ft_ ?_
  conv => whnf
  refine br_t H (fun c H => ?_) (fun c H => ?_)
  conv => whnf
  refine Br.t ft_ ?_
  conv => whnf
  refine Br.t ft_ ?_
  conv => whnf
  revert H; refine bind_elim (fun t213 A H => ?_)
  refine call_mk (spec_l41In.ac A) (avAL_cons (avA_shut' rfl) (avAL_cons (avA_shut' rfl) (avAL_cons (avA_shut' rfl) (avAL_nil)))) (Or.inl rfl) rfl rfl (Nat.le_of_ble_eq_true rfl) ?_
  conv => whnf
  refine Br.t ft_ ?_
  conv => whnf
  refine cut_ 160 [(2, .bool t213)] [] rfl ⟨.inl rfl, trivial⟩ trivial ?_
  conv => whnf
  injection H with H; subst H
  exact ret_fz [] (rtA_eq rfl)
  conv => whnf
  refine Br.f ff_ ?_
  conv => whnf
  refine Br.f ff_ ?_
  conv => whnf
  refine Br.f ff_ ?_
  conv => whnf
  refine cut_ 160 [(2, .bool false)] [] rfl ⟨.inl rfl, trivial⟩ trivial ?_
  conv => whnf
  injection H with H; subst H
  exact ret_fz [] (rtA_eq rfl)
  conv => whnf
  refine Br.f ff_ ?_
  conv => whnf
  refine Br.f ff_ ?_
  conv => whnf
  refine Br.f ff_ ?_
  conv => whnf
  refine Br.f rfl ?_
  conv => whnf
  refine Br.f rfl ?_
  conv => whnf
  refine Br.f rfl ?_
  conv => whnf
  refine Br.f rfl ?_
  conv => whnf
  refine cut_ 160 [(2, .bool false)] [] rfl ⟨.inl rfl, trivial⟩ trivial ?_
  conv => whnf
  injection H with H; subst H
  exact ret_fz [] (rtA_eq rfl)
  conv => whnf
  refine br_d H (fun c H => ?_) (fun c H => ?_)
  conv => whnf
  revert H; refine bind_elim (fun t214 A H => ?_)
  refine call_mk (spec_l41NameOk.ac A) (avAL_cons (avA_shut' rfl) (avAL_nil)) (Or.inl rfl) rfl rfl (Nat.le_of_ble_eq_true rfl) ?_
  conv => whnf
  refine br_t H (fun c H => ?_) (fun c H => ?_)
  conv => whnf
  refine Br.t ft_ ?_
  conv => whnf
  refine Br.t ft_ ?_
  conv => whnf
  revert H; refine bind_elim (fun t215 A H => ?_)
  refine call_mk (spec_l41NameOk.ac A) (avAL_cons (avA_shut' rfl) (avAL_nil)) (Or.inl rfl) rfl rfl (Nat.le_of_ble_eq_true rfl) ?_
  conv => whnf
  refine Br.t ft_ ?_
  conv => whnf
  refine br_t H (fun c H => ?_) (fun c H => ?_)
  conv => whnf
  refine Br.t ft_ ?_
  conv => whnf
  refine Br.t ft_ ?_
  conv => whnf
  refine Br.t ft_ ?_
  conv => whnf
  refine Br.t ft_ ?_
  conv => whnf
  refine Br.t ft_ ?_
  conv => whnf
  refine br_nd H (fun c H => ?_) (fun c H => ?_)
  conv => whnf
  refine Br.f ff_ ?_
  conv => whnf
  refine Br.f ff_ ?_
  conv => whnf
  refine Br.f ff_ ?_
  conv => whnf
  refine cut_ 232 [(2, .bool false)] [] rfl ⟨.inl rfl, trivial⟩ trivial ?_
  conv => whnf
  injection H with H; subst H
  exact ret_fz [] (rtA_eq rfl)
  conv => whnf
  refine Br.t ft_ ?_
  conv => whnf
  refine Br.t ft_ ?_
  conv => whnf
  revert H; refine bind_elim (fun t216 A H => ?_)
  refine call_mk (spec_l41In.ac A) (avAL_cons (avA_shut' rfl) (avAL_cons (avA_shut' rfl) (avAL_cons (avA_shut' rfl) (avAL_nil)))) (Or.inl rfl) rfl rfl (Nat.le_of_ble_eq_true rfl) ?_
  conv => whnf
  refine Br.t ft_ ?_
  conv => whnf
  refine cut_ 232 [(2, .bool t216)] [] rfl ⟨.inl rfl, trivial⟩ trivial ?_
  conv => whnf
  injection H with H; subst H
  exact ret_fz [] (rtA_eq rfl)
  conv => whnf
  refine Br.f ff_ ?_
  conv => whnf
  refine Br.f ff_ ?_
  conv => whnf
  refine Br.f ff_ ?_
  conv => whnf
  refine Br.f ff_ ?_
  conv => whnf
  refine Br.f ff_ ?_
  conv => whnf
  refine Br.f rfl ?_
  conv => whnf
  refine Br.f rfl ?_
  conv => whnf
  refine Br.f rfl ?_
  conv => whnf
  refine Br.f rfl ?_
  conv => whnf
  refine cut_ 232 [(2, .bool false)] [] rfl ⟨.inl rfl, trivial⟩ trivial ?_
  conv => whnf
  injection H with H; subst H
  exact ret_fz [] (rtA_eq rfl)
  conv => whnf
  refine Br.f ff_ ?_
  conv => whnf
  refine Br.f ff_ ?_
  conv => whnf
  refine Br.f ff_ ?_
  conv => whnf
  refine Br.f rfl ?_
  conv => whnf
  refine Br.f rfl ?_
  conv => whnf
  refine Br.f rfl ?_
  conv => whnf
  refine Br.f rfl ?_
  conv => whnf
  refine Br.f rfl ?_
  conv => whnf
  refine Br.f rfl ?_
  conv => whnf
  refine Br.f rfl ?_
  conv => whnf
  refine Br.f rfl ?_
  conv => whnf
  refine Br.f rfl ?_
  conv => whnf
  refine Br.f rfl ?_
  conv => whnf
  refine cut_ 232 [(2, .bool false)] [] rfl ⟨.inl rfl, trivial⟩ trivial ?_
  conv => whnf
  injection H with H; subst H
  exact ret_fz [] (rtA_eq rfl)
  conv => whnf
  refine cut_ 80 [(1, .bp 0 0), (4, .int .i64 a0_1), (42, .bool (decide (a0_1 = 3)))] [(0, .box [.str a0_0, .int .i64 a0_1, .str a0_2, .str a0_3, .int .i64 a0_4, .int .i64 a0_5, .str a0_6, .str a0_7])] rfl ⟨.inl rfl, ⟨.inl rfl, ⟨.inl rfl, trivial⟩⟩⟩ ⟨rfl, trivial⟩ ?_
  conv => whnf
  refine br_d H (fun c H => ?_) (fun c H => ?_)
  conv => whnf
  revert H; refine bind_elim (fun t217 A H => ?_)
  refine call_mk (spec_l41NameOk.ac A) (avAL_cons (avA_shut' rfl) (avAL_nil)) (Or.inl rfl) rfl rfl (Nat.le_of_ble_eq_true rfl) ?_
  conv => whnf
  refine br_t H (fun c H => ?_) (fun c H => ?_)
  conv => whnf
  refine Br.t ft_ ?_
  conv => whnf
  refine Br.t ft_ ?_
  conv => whnf
  refine Br.t ft_ ?_
  conv => whnf
  refine br_d H (fun c H => ?_) (fun c H => ?_)
  conv => whnf
  refine Br.t ft_ ?_
  conv => whnf
  refine Br.t ft_ ?_
  conv => whnf
  refine Br.t ft_ ?_
  conv => whnf
  refine Br.t ft_ ?_
  conv => whnf
  revert H; refine bind_elim (fun t218 A H => ?_)
  refine call_mk (spec_l41In.ac A) (avAL_cons (avA_shut' rfl) (avAL_cons (avA_shut' rfl) (avAL_cons (avA_shut' rfl) (avAL_nil)))) (Or.inl rfl) rfl rfl (Nat.le_of_ble_eq_true rfl) ?_
  conv => whnf
  refine Br.t ft_ ?_
  conv => whnf
  refine cut_ 208 [(2, .bool t218)] [] rfl ⟨.inl rfl, trivial⟩ trivial ?_
  conv => whnf
  injection H with H; subst H
  exact ret_fz [] (rtA_eq rfl)
  conv => whnf
  refine Br.f ff_ ?_
  conv => whnf
  refine Br.f ff_ ?_
  conv => whnf
  refine Br.f ff_ ?_
  conv => whnf
  refine Br.f ff_ ?_
  conv => whnf
  refine Br.f ff_ ?_
  conv => whnf
  refine cut_ 208 [(2, .bool false)] [] rfl ⟨.inl rfl, trivial⟩ trivial ?_
  conv => whnf
  injection H with H; subst H
  exact ret_fz [] (rtA_eq rfl)
  conv => whnf
  refine Br.f ff_ ?_
  conv => whnf
  refine Br.f ff_ ?_
  conv => whnf
  refine Br.f ff_ ?_
  conv => whnf
  refine Br.f rfl ?_
  conv => whnf
  refine Br.f rfl ?_
  conv => whnf
  refine Br.f rfl ?_
  conv => whnf
  refine Br.f rfl ?_
  conv => whnf
  refine Br.f rfl ?_
  conv => whnf
  refine Br.f rfl ?_
  conv => whnf
  refine cut_ 208 [(2, .bool false)] [] rfl ⟨.inl rfl, trivial⟩ trivial ?_
  conv => whnf
  injection H with H; subst H
  exact ret_fz [] (rtA_eq rfl)
  conv => whnf
  refine br_d H (fun c H => ?_) (fun c H => ?_)
  conv => whnf
  refine Br.t ft_ ?_
  conv => whnf
  revert H; refine bind_elim (fun t219 A H => ?_)
  refine call_mk (spec_l41NameOk.ac A) (avAL_cons (avA_shut' rfl) (avAL_nil)) (Or.inl rfl) rfl rfl (Nat.le_of_ble_eq_true rfl) ?_
  conv => whnf
  refine br_t H (fun c H => ?_) (fun c H => ?_)
  conv => whnf
  refine Br.t ft_ ?_
  conv => whnf
  refine Br.t ft_ ?_
  conv => whnf
  refine Br.t ft_ ?_
  conv => whnf
  refine br_d H (fun c H => ?_) (fun c H => ?_)
  conv => whnf
  refine Br.t ft_ ?_
  conv => whnf
  refine Br.t ft_ ?_
  conv => whnf
  refine Br.t ft_ ?_
  conv => whnf
  refine cut_ 208 [(2, .bool (decide (a0_4 = 0)))] [] rfl ⟨.inl rfl, trivial⟩ trivial ?_
  conv => whnf
  injection H with H; subst H
  exact ret_fz [] (rtA_eq rfl)
  conv => whnf
  refine Br.f ff_ ?_
  conv => whnf
  refine Br.f ff_ ?_
  conv => whnf
  refine Br.f ff_ ?_
  conv => whnf
  refine cut_ 208 [(2, .bool false)] [] rfl ⟨.inl rfl, trivial⟩ trivial ?_
  conv => whnf
  injection H with H; subst H
  exact ret_fz [] (rtA_eq rfl)
  conv => whnf
  refine Br.f ff_ ?_
  conv => whnf
  refine Br.f ff_ ?_
  conv => whnf
  refine Br.f ff_ ?_
  conv => whnf
  refine Br.f rfl ?_
  conv => whnf
  refine Br.f rfl ?_
  conv => whnf
  refine Br.f rfl ?_
  conv => whnf
  refine Br.f rfl ?_
  conv => whnf
  refine cut_ 208 [(2, .bool false)] [] rfl ⟨.inl rfl, trivial⟩ trivial ?_
  conv => whnf
  injection H with H; subst H
  exact ret_fz [] (rtA_eq rfl)
  conv => whnf
  refine br_d H (fun c H => ?_) (fun c H => ?_)
  conv => whnf
  revert H; refine bind_elim (fun t220 A H => ?_)
  refine call_mk (spec_l41NameOk.ac A) (avAL_cons (avA_shut' rfl) (avAL_nil)) (Or.inl rfl) rfl rfl (Nat.le_of_ble_eq_true rfl) ?_
  conv => whnf
  refine br_t H (fun c H => ?_) (fun c H => ?_)
  conv => whnf
  refine Br.t ft_ ?_
  conv => whnf
  refine Br.t ft_ ?_
  conv => whnf
  refine Br.t ft_ ?_
  conv => whnf
  refine br_d H (fun c H => ?_) (fun c H => ?_)
  conv => whnf
  refine Br.t ft_ ?_
  conv => whnf
  refine Br.t ft_ ?_
  conv => whnf
  refine Br.t ft_ ?_
  conv => whnf
  refine cut_ 224 [(2, .bool (decide (a0_4 = 0)))] [] rfl ⟨.inl rfl, trivial⟩ trivial ?_
  conv => whnf
  injection H with H; subst H
  exact ret_fz [] (rtA_eq rfl)
  conv => whnf
  refine Br.f ff_ ?_
  conv => whnf
  refine Br.f ff_ ?_
  conv => whnf
  refine Br.f ff_ ?_
  conv => whnf
  refine cut_ 224 [(2, .bool false)] [] rfl ⟨.inl rfl, trivial⟩ trivial ?_
  conv => whnf
  injection H with H; subst H
  exact ret_fz [] (rtA_eq rfl)
  conv => whnf
  refine Br.f ff_ ?_
  conv => whnf
  refine Br.f ff_ ?_
  conv => whnf
  refine Br.f ff_ ?_
  conv => whnf
  refine Br.f rfl ?_
  conv => whnf
  refine Br.f rfl ?_
  conv => whnf
  refine Br.f rfl ?_
  conv => whnf
  refine Br.f rfl ?_
  conv => whnf
  refine cut_ 224 [(2, .bool false)] [] rfl ⟨.inl rfl, trivial⟩ trivial ?_
  conv => whnf
  injection H with H; subst H
  exact ret_fz [] (rtA_eq rfl)
  conv => whnf
  injection H with H; subst H
  exact ret_fz [] (rtA_eq rfl)
theorem spec_RecPhaseOk.ac {k : Nat} {a0_0 : ByteArray} {a0_1 : Int} {a0_2 : ByteArray} {a0_3 : ByteArray} {a0_4 : Int} {a0_5 : Int} {a0_6 : ByteArray} {a0_7 : ByteArray} {r : Bool} (H : spec_RecPhaseOk.f k a0_0 a0_1 a0_2 a0_3 a0_4 a0_5 a0_6 a0_7 = some r) : ACalls Tryd.prog G 82 [] [.agg [.str a0_0, .int .i64 a0_1, .str a0_2, .str a0_3, .int .i64 a0_4, .int .i64 a0_5, .str a0_6, .str a0_7]] [] (.bool r) := by
  refine acalls_of tok hP Tryd.func82 rfl (by kernel_rfl) [.tmp 2] rfl (by kernel_rfl) (Nat.le_of_ble_eq_true rfl) (.l .n (.c .n .n)) rfl ?_
  unfold spec_RecPhaseOk.f at H
  conv => whnf
  revert H; refine bind_elim (fun t226 A H => ?_)
  refine call_mk (spec_l41PlainOk.ac A) (avAL_cons (avA_shut' rfl) (avAL_nil)) (Or.inl rfl) rfl rfl (Nat.le_of_ble_eq_true rfl) ?_
  conv => whnf
  refine br_t H (fun c H => ?_) (fun c H => ?_)
  conv => whnf
  refine Br.t ft_ ?_
  conv => whnf
  refine Br.t ft_ ?_
  conv => whnf
  revert H; refine bind_elim (fun t227 A H => ?_)
  refine call_mk (spec_l41In.ac A) (avAL_cons (avA_shut' rfl) (avAL_cons (avA_shut' rfl) (avAL_cons (avA_shut' rfl) (avAL_nil)))) (Or.inl rfl) rfl rfl (Nat.le_of_ble_eq_true rfl) ?_
  conv => whnf
  refine Br.t ft_ ?_
  conv => whnf
  refine br_t H (fun c H => ?_) (fun c H => ?_)
  conv => whnf
  refine Br.t ft_ ?_
  conv => whnf
  revert H; refine bind_elim (fun t228 A H => ?_)
  refine call_mk (spec_l41ArgsOk.ac A) (avAL_cons (avA_agg (avL_cons (av_shut' rfl) (avL_cons (av_shut' rfl) (avL_cons (av_shut' rfl) (avL_cons (av_shut' rfl) (avL_cons (av_shut' rfl) (avL_cons (av_shut' rfl) (avL_cons (av_shut' rfl) (avL_cons (av_shut' rfl) (avL_nil)))))))))) (avAL_nil)) (Or.inl rfl) rfl rfl (Nat.le_of_ble_eq_true rfl) ?_
  conv => whnf
  refine Br.t ft_ ?_
  conv => whnf
  refine br_t H (fun c H => ?_) (fun c H => ?_)
  conv => whnf
  refine Br.t ft_ ?_
  conv => whnf
  refine Br.t ft_ ?_
  conv => whnf
  revert H; refine bind_elim (fun t229 A H => ?_)
  refine call_mk (spec_l41NameOk.ac A) (avAL_cons (avA_shut' rfl) (avAL_nil)) (Or.inl rfl) rfl rfl (Nat.le_of_ble_eq_true rfl) ?_
  conv => whnf
  refine Br.t ft_ ?_
  conv => whnf
  refine br_t H (fun c H => ?_) (fun c H => ?_)
  conv => whnf
  refine Br.t ft_ ?_
  conv => whnf
  refine Br.t ft_ ?_
  conv => whnf
  revert H; refine bind_elim (fun t230 A H => ?_)
  refine call_mk (spec_l41NameOk.ac A) (avAL_cons (avA_shut' rfl) (avAL_nil)) (Or.inl rfl) rfl rfl (Nat.le_of_ble_eq_true rfl) ?_
  conv => whnf
  refine Br.t ft_ ?_
  conv => whnf
  refine cut_ 200 [(2, .bool t230)] [] rfl ⟨.inl rfl, trivial⟩ trivial ?_
  conv => whnf
  injection H with H; subst H
  exact ret_fz [] (rtA_eq rfl)
  conv => whnf
  refine Br.f ff_ ?_
  conv => whnf
  refine Br.f ff_ ?_
  conv => whnf
  refine Br.f ff_ ?_
  conv => whnf
  refine cut_ 200 [(2, .bool false)] [] rfl ⟨.inl rfl, trivial⟩ trivial ?_
  conv => whnf
  injection H with H; subst H
  exact ret_fz [] (rtA_eq rfl)
  conv => whnf
  refine Br.f ff_ ?_
  conv => whnf
  refine Br.f ff_ ?_
  conv => whnf
  refine Br.f ff_ ?_
  conv => whnf
  refine Br.f rfl ?_
  conv => whnf
  refine Br.f rfl ?_
  conv => whnf
  refine Br.f rfl ?_
  conv => whnf
  refine Br.f rfl ?_
  conv => whnf
  refine cut_ 200 [(2, .bool false)] [] rfl ⟨.inl rfl, trivial⟩ trivial ?_
  conv => whnf
  injection H with H; subst H
  exact ret_fz [] (rtA_eq rfl)
  conv => whnf
  refine Br.f ff_ ?_
  conv => whnf
  refine Br.f ff_ ?_
  conv => whnf
  refine Br.f rfl ?_
  conv => whnf
  refine Br.f rfl ?_
  conv => whnf
  refine Br.f rfl ?_
  conv => whnf
  refine Br.f rfl ?_
  conv => whnf
  refine Br.f rfl ?_
  conv => whnf
  refine Br.f rfl ?_
  conv => whnf
  refine Br.f rfl ?_
  conv => whnf
  refine Br.f rfl ?_
  conv => whnf
  refine cut_ 200 [(2, .bool false)] [] rfl ⟨.inl rfl, trivial⟩ trivial ?_
  conv => whnf
  injection H with H; subst H
  exact ret_fz [] (rtA_eq rfl)
  conv => whnf
  refine Br.f ff_ ?_
  conv => whnf
  refine Br.f ff_ ?_
  conv => whnf
  refine Br.f ff_ ?_
  conv => whnf
  refine Br.f rfl ?_
  conv => whnf
  refine Br.f rfl ?_
  conv => whnf
  refine Br.f rfl ?_
  conv => whnf
  refine Br.f rfl ?_
  conv => whnf
  refine Br.f rfl ?_
  conv => whnf
  refine Br.f rfl ?_
  conv => whnf
  refine Br.f rfl ?_
  conv => whnf
  refine Br.f rfl ?_
  conv => whnf
  refine Br.f rfl ?_
  conv => whnf
  refine Br.f rfl ?_
  conv => whnf
  refine Br.f rfl ?_
  conv => whnf
  refine cut_ 200 [(2, .bool false)] [] rfl ⟨.inl rfl, trivial⟩ trivial ?_
  conv => whnf
  injection H with H; subst H
  exact ret_fz [] (rtA_eq rfl)
theorem spec_l42At.l0_lp {F : (Exit → St → Prop) → St → Prop} {hv : List Tmp} {Q : Exit → St → Prop} {σ : St} {r : Int} {k : Nat} {l0 : List S_impl_RecPhase} {a1 : ByteArray} {x5 : Int} (H : spec_l42At.l0 k l0 a1 x5 = some r) (rn : List (Option Nat)) (h1 : Fits σ σ [] [(5, .int .i64 x5)] [] [] rn)
    (h2 : ∀ (k0 : Nat) (x5 : Int), k0 < k + 1 → spec_l42At.l0 k0 l0 a1 x5 = some r → headN σ hv [] [(5, .int .i64 x5)] [] [] (F (fun e σ' => match e with | .normal => ∃ (y : Nat × Int) (rn : List (Option Nat)), (spec_l42At.l0 y.1 l0 a1 y.2 = some r ∧ y.1 < k + 1) ∧ y.1 < k0 ∧ Fits σ σ' [] [(5, .int .i64 y.2)] [] [] rn | e => Q e σ'))) : Lp F hv Q σ := by
  unfold Lp
  refine ⟨Nat × Int, fun x => spec_l42At.l0 x.1 l0 a1 x.2 = some r ∧ x.1 < k + 1, fun x => x.1, [], fun x => [(5, .int .i64 x.2)], fun x => [], fun x => [], ⟨(k, x5), rn, ⟨H, Nat.lt_succ_self _⟩, h1⟩, ?_⟩
  rintro ⟨k, x5⟩ ⟨H, hk⟩
  exact h2 k x5 hk H
theorem spec_l42At.ac {k : Nat} {l0 : List S_impl_RecPhase} {a1 : ByteArray} {r : Int} (H : spec_l42At.f k l0 a1 = some r) : ACalls Tryd.prog G 67 [] [(sv_S_impl_RecPhase l0), .str a1] [] (.int .i64 r) := by
  refine acalls_of tok hP Tryd.func67 rfl (by kernel_rfl) [.tmp 4] rfl (by kernel_rfl) (Nat.le_of_ble_eq_true rfl) (.l .n (.l (.l .n (.l .n (.l (.c .n .n) .n))) .n)) rfl ?_
  unfold spec_l42At.f at H
  conv => whnf
  refine spec_l42At.l0_lp (l0 := l0) (a1 := a1) (k := k) H [] (fits_of ⟨.inl ⟨rfl, rfl⟩, trivial⟩ trivial fi_ trivial rfl) ?_
  intro k x5 hk H; rcases k with _ | k; exact none_elim H; rw [spec_l42At.l0] at H; conv => whnf
  refine br_d H (fun c H => ?_) (fun c H => ?_)
  conv => whnf
  refine nd_ H (fun c H => ?_)
  conv => whnf
  refine Nd.mk nf_ ?_
  conv => whnf
  refine El.mk (rdm_en_S_impl_RecPhase _ _ nf_ nf_) ?_
  conv => whnf
  refine cut_ 104 [(0, (sv_S_impl_RecPhase l0)), (1, .str a1), (5, .int .i64 x5), (18, .bool (decide (((rd_impl_RecPhase l0 x5).f0).toList = a1.toList)))] [] rfl ⟨.inl rfl, ⟨.inl rfl, ⟨.inl rfl, ⟨.inl rfl, trivial⟩⟩⟩⟩ trivial ?_
  conv => whnf
  refine br_d H (fun c H => ?_) (fun c H => ?_)
  conv => whnf
  injection H with H; subst H
  exact ret_fz [] (rtA_eq rfl)
  conv => whnf
  exact ⟨(k, wrap64 (x5 + 1)), [], ⟨H, lt_⟩, lt_, (fits_of ⟨.inl ⟨rfl, rfl⟩, trivial⟩ trivial fi_ trivial rfl)⟩
  conv => whnf
  injection H with H; subst H
  exact ret_fz [] (rtA_eq rfl)
theorem spec_RecOk.l0_lp {F : (Exit → St → Prop) → St → Prop} {hv : List Tmp} {Q : Exit → St → Prop} {σ : St} {r : Bool} {k : Nat} {l0 : List S_impl_RecPhase} {x3 : Int} (H : spec_RecOk.l0 k l0 x3 = some r) (rn : List (Option Nat)) (h1 : Fits σ σ [] [(3, .int .i64 x3)] [] [] rn)
    (h2 : ∀ (k0 : Nat) (x3 : Int), k0 < k + 1 → spec_RecOk.l0 k0 l0 x3 = some r → headN σ hv [] [(3, .int .i64 x3)] [] [] (F (fun e σ' => match e with | .normal => ∃ (y : Nat × Int) (rn : List (Option Nat)), (spec_RecOk.l0 y.1 l0 y.2 = some r ∧ y.1 < k + 1) ∧ y.1 < k0 ∧ Fits σ σ' [] [(3, .int .i64 y.2)] [] [] rn | e => Q e σ'))) : Lp F hv Q σ := by
  unfold Lp
  refine ⟨Nat × Int, fun x => spec_RecOk.l0 x.1 l0 x.2 = some r ∧ x.1 < k + 1, fun x => x.1, [], fun x => [(3, .int .i64 x.2)], fun x => [], fun x => [], ⟨(k, x3), rn, ⟨H, Nat.lt_succ_self _⟩, h1⟩, ?_⟩
  rintro ⟨k, x3⟩ ⟨H, hk⟩
  exact h2 k x3 hk H
theorem spec_RecOk.ac {k : Nat} {l0 : List S_impl_RecPhase} {r : Bool} (H : spec_RecOk.f k l0 = some r) : ACalls Tryd.prog G 35 [] [(sv_S_impl_RecPhase l0)] [] (.bool r) := by
  refine acalls_of tok hP Tryd.func35 rfl (by kernel_rfl) [.tmp 2] rfl (by kernel_rfl) (Nat.le_of_ble_eq_true rfl) (.l .n (.l .n (.l (.l .n (.l (.c .n .n) (.l (.l (.c .n (.l (.c .n .n) .n)) (.c .n (.l (.c .n .n) .n))) .n))) .n))) rfl ?_
  unfold spec_RecOk.f at H
  conv => whnf
  revert H; refine bind_elim (fun t240 A H => ?_)
  refine call_mk (spec_l41In.ac A) (avAL_cons (avA_shut' rfl) (avAL_cons (avA_shut' rfl) (avAL_cons (avA_shut' rfl) (avAL_nil)))) (Or.inl rfl) rfl rfl (Nat.le_of_ble_eq_true rfl) ?_
  conv => whnf
  refine br_nt H (fun c H => ?_) (fun c H => ?_)
  conv => whnf
  refine spec_RecOk.l0_lp (l0 := l0) (k := k) H [] (fits_of ⟨.inl ⟨rfl, rfl⟩, trivial⟩ trivial fi_ trivial rfl) ?_
  intro k x3 hk H; rcases k with _ | k; exact none_elim H; rw [spec_RecOk.l0] at H; conv => whnf
  refine cut_ 80 [(0, (sv_S_impl_RecPhase l0)), (3, .int .i64 x3), (11, .bool (decide (x3 < (l0.length : Int))))] [] rfl ⟨.inl rfl, ⟨.inl rfl, ⟨.inl rfl, trivial⟩⟩⟩ trivial ?_
  conv => whnf
  refine br_d H (fun c H => ?_) (fun c H => ?_)
  conv => whnf
  refine nd_ H (fun c H => ?_)
  conv => whnf
  refine Nd.mk nf_ ?_
  conv => whnf
  refine El.mk (rdm_en_S_impl_RecPhase _ _ nf_ nf_) ?_
  conv => whnf
  revert H; refine bind_elim (fun t273 A H => ?_)
  refine call_mk (spec_RecPhaseOk.ac A) (avAL_cons (avA_agg (avL_cons (av_shut' rfl) (avL_cons (av_shut' rfl) (avL_cons (av_shut' rfl) (avL_cons (av_shut' rfl) (avL_cons (av_shut' rfl) (avL_cons (av_shut' rfl) (avL_cons (av_shut' rfl) (avL_cons (av_shut' rfl) (avL_nil)))))))))) (avAL_nil)) (Or.inl rfl) rfl rfl (Nat.le_of_ble_eq_true rfl) ?_
  conv => whnf
  refine br_nt H (fun c H => ?_) (fun c H => ?_)
  conv => whnf
  refine Br.f ff_ ?_
  conv => whnf
  refine Br.f ff_ ?_
  conv => whnf
  refine Br.f ff_ ?_
  conv => whnf
  refine Nd.mk nf_ ?_
  conv => whnf
  refine Nd.mk nf_ ?_
  conv => whnf
  refine El.mk (rdm_en_S_impl_RecPhase _ _ nf_ nf_) ?_
  conv => whnf
  refine Br.f ff_ ?_
  conv => whnf
  refine Br.f ff_ ?_
  conv => whnf
  refine Br.f ff_ ?_
  conv => whnf
  revert H; refine bind_elim (fun t274 A H => ?_)
  refine call_mk (spec_l42At.ac A) (avAL_cons (avA_shut' rfl) (avAL_cons (avA_shut' rfl) (avAL_nil))) (Or.inl rfl) rfl rfl (Nat.le_of_ble_eq_true rfl) ?_
  conv => whnf
  refine Br.f ff_ ?_
  conv => whnf
  refine Br.f ff_ ?_
  conv => whnf
  refine Br.f ff_ ?_
  conv => whnf
  refine cut_ 216 [(0, (sv_S_impl_RecPhase l0)), (3, .int .i64 x3), (30, .bool (!(decide (t274 = x3))))] [] rfl ⟨.inl rfl, ⟨.inl rfl, ⟨.inl rfl, trivial⟩⟩⟩ trivial ?_
  conv => whnf
  refine br_nd H (fun c H => ?_) (fun c H => ?_)
  conv => whnf
  refine Nd.mk nf_ ?_
  conv => whnf
  refine Nd.mk nf_ ?_
  conv => whnf
  refine El.mk (rdm_en_S_impl_RecPhase _ _ nf_ nf_) ?_
  conv => whnf
  revert H; refine bind_elim (fun t275 A H => ?_)
  refine call_mk (spec_RecEnd.ac A) (avAL_cons (avA_shut' rfl) (avAL_nil)) (Or.inl rfl) rfl rfl (Nat.le_of_ble_eq_true rfl) ?_
  conv => whnf
  refine br_d H (fun c H => ?_) (fun c H => ?_)
  conv => whnf
  refine Br.t ft_ ?_
  conv => whnf
  refine Br.t ft_ ?_
  conv => whnf
  refine Br.t ft_ ?_
  conv => whnf
  refine Nd.mk nf_ ?_
  conv => whnf
  refine Nd.mk nf_ ?_
  conv => whnf
  refine El.mk (rdm_en_S_impl_RecPhase _ _ nf_ nf_) ?_
  conv => whnf
  refine Br.t ft_ ?_
  conv => whnf
  refine Br.t ft_ ?_
  conv => whnf
  refine Br.t ft_ ?_
  conv => whnf
  revert H; refine bind_elim (fun t276 A H => ?_)
  refine call_mk (spec_l42At.ac A) (avAL_cons (avA_shut' rfl) (avAL_cons (avA_shut' rfl) (avAL_nil))) (Or.inl rfl) rfl rfl (Nat.le_of_ble_eq_true rfl) ?_
  conv => whnf
  refine Br.t ft_ ?_
  conv => whnf
  refine Br.t ft_ ?_
  conv => whnf
  refine Br.t ft_ ?_
  conv => whnf
  refine br_d H (fun c H => ?_) (fun c H => ?_)
  conv => whnf
  refine Br.t ft_ ?_
  conv => whnf
  refine Br.t ft_ ?_
  conv => whnf
  refine Br.t ft_ ?_
  conv => whnf
  refine Br.t ft_ ?_
  conv => whnf
  refine Br.t ft_ ?_
  conv => whnf
  refine Br.t ft_ ?_
  conv => whnf
  refine Br.t ft_ ?_
  conv => whnf
  refine Br.t ft_ ?_
  conv => whnf
  refine Br.t ft_ ?_
  conv => whnf
  refine cut_ 520 [(0, (sv_S_impl_RecPhase l0)), (3, .int .i64 x3), (68, .bool true)] [] rfl ⟨.inl rfl, ⟨.inl rfl, ⟨.inl rfl, trivial⟩⟩⟩ trivial ?_
  conv => whnf
  refine Br.t rfl ?_
  conv => whnf
  refine cut_ 528 [(2, .bool false)] [] rfl ⟨.inl rfl, trivial⟩ trivial ?_
  conv => whnf
  injection H with H; subst H
  exact ret_fz [] (rtA_eq rfl)
  conv => whnf
  refine Br.f ff_ ?_
  conv => whnf
  refine Br.f ff_ ?_
  conv => whnf
  refine Nd.mk nf_ ?_
  conv => whnf
  refine Nd.mk nf_ ?_
  conv => whnf
  refine El.mk (rdm_en_S_impl_RecPhase _ _ nf_ nf_) ?_
  conv => whnf
  refine Br.f ff_ ?_
  conv => whnf
  refine Br.f ff_ ?_
  conv => whnf
  refine Br.f ff_ ?_
  conv => whnf
  revert H; refine bind_elim (fun t277 A H => ?_)
  refine call_mk (spec_RecEnd.ac A) (avAL_cons (avA_shut' rfl) (avAL_nil)) (Or.inl rfl) rfl rfl (Nat.le_of_ble_eq_true rfl) ?_
  conv => whnf
  refine Br.f ff_ ?_
  conv => whnf
  refine Br.f ff_ ?_
  conv => whnf
  refine br_d H (fun c H => ?_) (fun c H => ?_)
  conv => whnf
  refine Br.t ft_ ?_
  conv => whnf
  refine Br.t ft_ ?_
  conv => whnf
  refine Br.t ft_ ?_
  conv => whnf
  refine Nd.mk nf_ ?_
  conv => whnf
  refine Nd.mk nf_ ?_
  conv => whnf
  refine El.mk (rdm_en_S_impl_RecPhase _ _ nf_ nf_) ?_
  conv => whnf
  refine Br.t ft_ ?_
  conv => whnf
  refine Br.t ft_ ?_
  conv => whnf
  refine Br.t ft_ ?_
  conv => whnf
  revert H; refine bind_elim (fun t278 A H => ?_)
  refine call_mk (spec_l42At.ac A) (avAL_cons (avA_shut' rfl) (avAL_cons (avA_shut' rfl) (avAL_nil))) (Or.inl rfl) rfl rfl (Nat.le_of_ble_eq_true rfl) ?_
  conv => whnf
  refine Br.t ft_ ?_
  conv => whnf
  refine Br.t ft_ ?_
  conv => whnf
  refine Br.f ff_ ?_
  conv => whnf
  refine Br.t ft_ ?_
  conv => whnf
  refine Br.f ff_ ?_
  conv => whnf
  refine cut_ 520 [(0, (sv_S_impl_RecPhase l0)), (3, .int .i64 x3), (68, .bool (decide (t278 ≤ x3)))] [] rfl ⟨.inl rfl, ⟨.inl rfl, ⟨.inl rfl, trivial⟩⟩⟩ trivial ?_
  conv => whnf
  refine br_d H (fun c H => ?_) (fun c H => ?_)
  conv => whnf
  refine cut_ 528 [(2, .bool false)] [] rfl ⟨.inl rfl, trivial⟩ trivial ?_
  conv => whnf
  injection H with H; subst H
  exact ret_fz [] (rtA_eq rfl)
  conv => whnf
  exact ⟨(k, wrap64 (x3 + 1)), [], ⟨H, lt_⟩, lt_, (fits_of ⟨.inl ⟨rfl, rfl⟩, trivial⟩ trivial fi_ trivial rfl)⟩
  conv => whnf
  refine Br.f ff_ ?_
  conv => whnf
  refine Br.f ff_ ?_
  conv => whnf
  refine Br.f ff_ ?_
  conv => whnf
  refine Br.f ff_ ?_
  conv => whnf
  refine Br.f ff_ ?_
  conv => whnf
  refine Br.f ff_ ?_
  conv => whnf
  refine Br.f ff_ ?_
  conv => whnf
  refine Br.f ff_ ?_
  conv => whnf
  refine Br.f ff_ ?_
  conv => whnf
  refine Br.f ff_ ?_
  conv => whnf
  refine Br.f ff_ ?_
  conv => whnf
  refine cut_ 520 [(0, (sv_S_impl_RecPhase l0)), (3, .int .i64 x3), (68, .bool false)] [] rfl ⟨.inl rfl, ⟨.inl rfl, ⟨.inl rfl, trivial⟩⟩⟩ trivial ?_
  conv => whnf
  refine Br.f rfl ?_
  conv => whnf
  exact ⟨(k, wrap64 (x3 + 1)), [], ⟨H, lt_⟩, lt_, (fits_of ⟨.inl ⟨rfl, rfl⟩, trivial⟩ trivial fi_ trivial rfl)⟩
  conv => whnf
  refine Br.f ff_ ?_
  conv => whnf
  refine Br.f ff_ ?_
  conv => whnf
  refine Br.f ff_ ?_
  conv => whnf
  refine Br.f ff_ ?_
  conv => whnf
  refine Br.f ff_ ?_
  conv => whnf
  refine Br.f ff_ ?_
  conv => whnf
  refine Br.f ff_ ?_
  conv => whnf
  refine Br.f ff_ ?_
  conv => whnf
  refine Br.f ff_ ?_
  conv => whnf
  refine Br.f rfl ?_
  conv => whnf
  refine Br.f rfl ?_
  conv => whnf
  refine Br.f rfl ?_
  conv => whnf
  refine Nd.mk nf_ ?_
  conv => whnf
  refine Nd.mk nf_ ?_
  conv => whnf
  refine El.mk (rdm_en_S_impl_RecPhase _ _ nf_ nf_) ?_
  conv => whnf
  refine Br.f rfl ?_
  conv => whnf
  refine Br.f rfl ?_
  conv => whnf
  refine Br.f rfl ?_
  conv => whnf
  revert H; refine bind_elim (fun t279 A H => ?_)
  refine call_mk (spec_RecEnd.ac A) (avAL_cons (avA_shut' rfl) (avAL_nil)) (Or.inl rfl) rfl rfl (Nat.le_of_ble_eq_true rfl) ?_
  conv => whnf
  refine Br.f rfl ?_
  conv => whnf
  refine Br.f rfl ?_
  conv => whnf
  refine br_d H (fun c H => ?_) (fun c H => ?_)
  conv => whnf
  refine Br.t ft_ ?_
  conv => whnf
  refine Br.t ft_ ?_
  conv => whnf
  refine Br.t ft_ ?_
  conv => whnf
  refine Nd.mk nf_ ?_
  conv => whnf
  refine Nd.mk nf_ ?_
  conv => whnf
  refine El.mk (rdm_en_S_impl_RecPhase _ _ nf_ nf_) ?_
  conv => whnf
  refine Br.t ft_ ?_
  conv => whnf
  refine Br.t ft_ ?_
  conv => whnf
  refine Br.t ft_ ?_
  conv => whnf
  revert H; refine bind_elim (fun t280 A H => ?_)
  refine call_mk (spec_l42At.ac A) (avAL_cons (avA_shut' rfl) (avAL_cons (avA_shut' rfl) (avAL_nil))) (Or.inl rfl) rfl rfl (Nat.le_of_ble_eq_true rfl) ?_
  conv => whnf
  refine Br.t ft_ ?_
  conv => whnf
  refine Br.t ft_ ?_
  conv => whnf
  refine Br.f rfl ?_
  conv => whnf
  refine Br.t ft_ ?_
  conv => whnf
  refine Br.f rfl ?_
  conv => whnf
  refine cut_ 520 [(0, (sv_S_impl_RecPhase l0)), (3, .int .i64 x3), (68, .bool (decide (t280 ≤ x3)))] [] rfl ⟨.inl rfl, ⟨.inl rfl, ⟨.inl rfl, trivial⟩⟩⟩ trivial ?_
  conv => whnf
  refine br_d H (fun c H => ?_) (fun c H => ?_)
  conv => whnf
  refine cut_ 528 [(2, .bool false)] [] rfl ⟨.inl rfl, trivial⟩ trivial ?_
  conv => whnf
  injection H with H; subst H
  exact ret_fz [] (rtA_eq rfl)
  conv => whnf
  exact ⟨(k, wrap64 (x3 + 1)), [], ⟨H, lt_⟩, lt_, (fits_of ⟨.inl ⟨rfl, rfl⟩, trivial⟩ trivial fi_ trivial rfl)⟩
  conv => whnf
  refine Br.f ff_ ?_
  conv => whnf
  refine Br.f ff_ ?_
  conv => whnf
  refine Br.f ff_ ?_
  conv => whnf
  refine Br.f ff_ ?_
  conv => whnf
  refine Br.f ff_ ?_
  conv => whnf
  refine Br.f ff_ ?_
  conv => whnf
  refine Br.f ff_ ?_
  conv => whnf
  refine Br.f ff_ ?_
  conv => whnf
  refine Br.f rfl ?_
  conv => whnf
  refine Br.f ff_ ?_
  conv => whnf
  refine Br.f rfl ?_
  conv => whnf
  refine cut_ 520 [(0, (sv_S_impl_RecPhase l0)), (3, .int .i64 x3), (68, .bool false)] [] rfl ⟨.inl rfl, ⟨.inl rfl, ⟨.inl rfl, trivial⟩⟩⟩ trivial ?_
  conv => whnf
  refine Br.f rfl ?_
  conv => whnf
  exact ⟨(k, wrap64 (x3 + 1)), [], ⟨H, lt_⟩, lt_, (fits_of ⟨.inl ⟨rfl, rfl⟩, trivial⟩ trivial fi_ trivial rfl)⟩
  conv => whnf
  refine cut_ 224 [(2, .bool false)] [] rfl ⟨.inl rfl, trivial⟩ trivial ?_
  conv => whnf
  injection H with H; subst H
  exact ret_fz [] (rtA_eq rfl)
  conv => whnf
  refine Br.t ft_ ?_
  conv => whnf
  refine Br.t ft_ ?_
  conv => whnf
  refine Br.t ft_ ?_
  conv => whnf
  refine Br.t ft_ ?_
  conv => whnf
  refine Br.t ft_ ?_
  conv => whnf
  refine Br.t ft_ ?_
  conv => whnf
  refine Br.t ft_ ?_
  conv => whnf
  refine Br.t ft_ ?_
  conv => whnf
  refine Br.t ft_ ?_
  conv => whnf
  refine cut_ 216 [(0, (sv_S_impl_RecPhase l0)), (3, .int .i64 x3), (30, .bool true)] [] rfl ⟨.inl rfl, ⟨.inl rfl, ⟨.inl rfl, trivial⟩⟩⟩ trivial ?_
  conv => whnf
  refine Br.t rfl ?_
  conv => whnf
  refine cut_ 224 [(2, .bool false)] [] rfl ⟨.inl rfl, trivial⟩ trivial ?_
  conv => whnf
  injection H with H; subst H
  exact ret_fz [] (rtA_eq rfl)
  conv => whnf
  injection H with H; subst H
  exact ret_fz [] (rtA_eq rfl)
  conv => whnf
  injection H with H; subst H
  exact ret_fz [] (rtA_eq rfl)
theorem spec_l43Kind.ac {a0 : Int} {r : ByteArray} (H : spec_l43Kind.f a0 = some r) : ACalls Tryd.prog G 45 [] [.int .i64 a0] [] (.str r) := by
  refine acalls_of tok hP Tryd.func45 rfl (by kernel_rfl) [.tmp 2] rfl (by kernel_rfl) (Nat.le_of_ble_eq_true rfl) .n rfl ?_
  unfold spec_l43Kind.f at H
  conv => whnf
  refine Or.inl ?_
  conv => whnf
  refine nd_ H (fun c H => ?_)
  conv => whnf
  refine nd_ H (fun c H => ?_)
  conv => whnf
  refine El.mk (el_of (ys := ([(⟨#[]⟩ : ByteArray), (⟨#[102, 105, 108, 108]⟩ : ByteArray), (⟨#[109, 111, 118, 101]⟩ : ByteArray), (⟨#[104, 111, 108, 100]⟩ : ByteArray), (⟨#[99, 108, 101, 97, 110]⟩ : ByteArray), (⟨#[116, 101, 115, 116]⟩ : ByteArray)] : List ByteArray).map en_str) lm_ (rdm_en_str _ _ nf_ nf_)) ?_
  conv => whnf
  injection H with H; subst H
  exact ret_fz [] (rtA_eq rfl)
theorem spec_RecPrint.j0_sq {F : (Exit → St → Prop) → St → Prop} {hv : List Tmp} {K : St → Prop} {Q : Exit → St → Prop} {σ : St} {r : ByteArray} {KK : Nat} {l0 : List S_impl_RecPhase} {x4 : Int}
    (h1 : F (fun e σ' => match e with | .normal => ∃ (y : Nat × ByteArray) (rn : List (Option Nat)), (spec_RecPrint.j0 y.1 l0 y.2 x4 = some r ∧ y.1 < KK) ∧ Fits σ σ' [] [(3, .str y.2)] [] [] rn | e => Q e σ') σ)
    (h2 : ∀ (k : Nat) (x3_1 : ByteArray), k < KK → spec_RecPrint.j0 k l0 x3_1 x4 = some r → headN σ hv [] [(3, .str x3_1)] [] [] K) : Sq F hv K Q σ := by
  unfold Sq
  refine ⟨Nat × ByteArray, fun x => spec_RecPrint.j0 x.1 l0 x.2 x4 = some r ∧ x.1 < KK, [], fun x => [(3, .str x.2)], fun x => [], fun x => [], h1, ?_⟩
  rintro ⟨k, x3_1⟩ ⟨H, hk⟩
  exact h2 k x3_1 hk H
theorem spec_RecPrint.j1_sq {F : (Exit → St → Prop) → St → Prop} {hv : List Tmp} {K : St → Prop} {Q : Exit → St → Prop} {σ : St} {r : ByteArray} {KK : Nat} {l0 : List S_impl_RecPhase} {x4 : Int}
    (h1 : F (fun e σ' => match e with | .normal => ∃ (y : Nat × ByteArray) (rn : List (Option Nat)), (spec_RecPrint.j1 y.1 l0 y.2 x4 = some r ∧ y.1 < KK) ∧ Fits σ σ' [] [(3, .str y.2)] [] [] rn | e => Q e σ') σ)
    (h2 : ∀ (k : Nat) (x3_3 : ByteArray), k < KK → spec_RecPrint.j1 k l0 x3_3 x4 = some r → headN σ hv [] [(3, .str x3_3)] [] [] K) : Sq F hv K Q σ := by
  unfold Sq
  refine ⟨Nat × ByteArray, fun x => spec_RecPrint.j1 x.1 l0 x.2 x4 = some r ∧ x.1 < KK, [], fun x => [(3, .str x.2)], fun x => [], fun x => [], h1, ?_⟩
  rintro ⟨k, x3_3⟩ ⟨H, hk⟩
  exact h2 k x3_3 hk H
theorem spec_RecPrint.j2_sq {F : (Exit → St → Prop) → St → Prop} {hv : List Tmp} {K : St → Prop} {Q : Exit → St → Prop} {σ : St} {r : ByteArray} {KK : Nat} {l0 : List S_impl_RecPhase} {x4 : Int}
    (h1 : F (fun e σ' => match e with | .normal => ∃ (y : Nat × ByteArray) (rn : List (Option Nat)), (spec_RecPrint.j2 y.1 l0 y.2 x4 = some r ∧ y.1 < KK) ∧ Fits σ σ' [] [(3, .str y.2)] [] [] rn | e => Q e σ') σ)
    (h2 : ∀ (k : Nat) (x3_2 : ByteArray), k < KK → spec_RecPrint.j2 k l0 x3_2 x4 = some r → headN σ hv [] [(3, .str x3_2)] [] [] K) : Sq F hv K Q σ := by
  unfold Sq
  refine ⟨Nat × ByteArray, fun x => spec_RecPrint.j2 x.1 l0 x.2 x4 = some r ∧ x.1 < KK, [], fun x => [(3, .str x.2)], fun x => [], fun x => [], h1, ?_⟩
  rintro ⟨k, x3_2⟩ ⟨H, hk⟩
  exact h2 k x3_2 hk H
theorem spec_RecPrint.l0_lp {F : (Exit → St → Prop) → St → Prop} {hv : List Tmp} {Q : Exit → St → Prop} {σ : St} {r : ByteArray} {k : Nat} {l0 : List S_impl_RecPhase} {x3 : ByteArray} {x4 : Int} (H : spec_RecPrint.l0 k l0 x3 x4 = some r) (rn : List (Option Nat)) (h1 : Fits σ σ [] [(3, .str x3), (4, .int .i64 x4)] [] [] rn)
    (h2 : ∀ (k0 : Nat) (x3 : ByteArray) (x4 : Int), k0 < k + 1 → spec_RecPrint.l0 k0 l0 x3 x4 = some r → headN σ hv [] [(3, .str x3), (4, .int .i64 x4)] [] [] (F (fun e σ' => match e with | .normal => ∃ (y : Nat × ByteArray × Int) (rn : List (Option Nat)), (spec_RecPrint.l0 y.1 l0 y.2.1 y.2.2 = some r ∧ y.1 < k + 1) ∧ y.1 < k0 ∧ Fits σ σ' [] [(3, .str y.2.1), (4, .int .i64 y.2.2)] [] [] rn | e => Q e σ'))) : Lp F hv Q σ := by
  unfold Lp
  refine ⟨Nat × ByteArray × Int, fun x => spec_RecPrint.l0 x.1 l0 x.2.1 x.2.2 = some r ∧ x.1 < k + 1, fun x => x.1, [], fun x => [(3, .str x.2.1), (4, .int .i64 x.2.2)], fun x => [], fun x => [], ⟨(k, x3, x4), rn, ⟨H, Nat.lt_succ_self _⟩, h1⟩, ?_⟩
  rintro ⟨k, x3, x4⟩ ⟨H, hk⟩
  exact h2 k x3 x4 hk H
theorem spec_RecPrint.ac {k : Nat} {l0 : List S_impl_RecPhase} {r : ByteArray} (H : spec_RecPrint.f k l0 = some r) : ACalls Tryd.prog G 17 [] [(sv_S_impl_RecPhase l0)] [] (.str r) := by
  refine acalls_of tok hP Tryd.func17 rfl (by kernel_rfl) [.tmp 2] rfl (by kernel_rfl) (Nat.le_of_ble_eq_true rfl) (.l .n (.l .n (.l .n (.l (.l .n (.l (.c .n .n) (.j (.l .n (.c .n (.j .n (.j .n .n)))) .n))) .n)))) rfl ?_
  unfold spec_RecPrint.f at H
  conv => whnf
  revert H; refine bind_elim (fun t289 A H => ?_)
  refine call_mk (spec_RecOk.ac A) (avAL_cons (avA_shut' rfl) (avAL_nil)) (Or.inl rfl) rfl rfl (Nat.le_of_ble_eq_true rfl) ?_
  conv => whnf
  refine br_nt H (fun c H => ?_) (fun c H => ?_)
  conv => whnf
  refine spec_RecPrint.l0_lp (l0 := l0) (k := k) H [] (fits_of ⟨.inl ⟨rfl, rfl⟩, ⟨.inl ⟨rfl, rfl⟩, trivial⟩⟩ trivial fi_ trivial rfl) ?_
  intro k x3 x4 hk H; rcases k with _ | k; exact none_elim H; rw [spec_RecPrint.l0] at H; conv => whnf
  refine cut_ 80 [(0, (sv_S_impl_RecPhase l0)), (3, .str x3), (4, .int .i64 x4), (13, .bool (decide (x4 < (l0.length : Int))))] [] rfl ⟨.inl rfl, ⟨.inl rfl, ⟨.inl rfl, ⟨.inl rfl, trivial⟩⟩⟩⟩ trivial ?_
  conv => whnf
  refine br_d H (fun c H => ?_) (fun c H => ?_)
  conv => whnf
  refine spec_RecPrint.j0_sq (l0 := l0) (x4 := x4) (KK := k + 1) (r := r) ?_ ?_
  conv => whnf
  refine nd_ H (fun c H => ?_)
  conv => whnf
  refine Nd.mk nf_ ?_
  conv => whnf
  refine El.mk (rdm_en_S_impl_RecPhase _ _ nf_ nf_) ?_
  conv => whnf
  refine nd_ H (fun c H => ?_)
  conv => whnf
  refine nd_ H (fun c H => ?_)
  conv => whnf
  revert H; refine bind_elim (fun t312 A H => ?_)
  refine call_mk (spec_l43Kind.ac A) (avAL_cons (avA_shut' rfl) (avAL_nil)) (Or.inl rfl) rfl rfl (Nat.le_of_ble_eq_true rfl) ?_
  conv => whnf
  refine nd_ H (fun c H => ?_)
  conv => whnf
  refine nd_ H (fun c H => ?_)
  conv => whnf
  refine nd_ H (fun c H => ?_)
  conv => whnf
  refine cut_ 240 [(0, (sv_S_impl_RecPhase l0)), (3, .str (((((x3 ++ ((rd_impl_RecPhase l0 x4).f0)) ++ (⟨#[32]⟩ : ByteArray)) ++ t312) ++ (⟨#[32]⟩ : ByteArray)) ++ ((rd_impl_RecPhase l0 x4).f2))), (4, .int .i64 x4), (5, .bp 112 0)] [(112, .box [.str ((rd_impl_RecPhase l0 x4).f0), .int .i64 ((rd_impl_RecPhase l0 x4).f1), .str ((rd_impl_RecPhase l0 x4).f2), .str ((rd_impl_RecPhase l0 x4).f3), .int .i64 ((rd_impl_RecPhase l0 x4).f4), .int .i64 ((rd_impl_RecPhase l0 x4).f5), .str ((rd_impl_RecPhase l0 x4).f6), .str ((rd_impl_RecPhase l0 x4).f7)])] rfl ⟨.inl rfl, ⟨.inl rfl, ⟨.inl rfl, ⟨.inl rfl, trivial⟩⟩⟩⟩ ⟨rfl, trivial⟩ ?_
  conv => whnf
  refine spec_RecPrint.j2_sq (l0 := l0) (x4 := x4) (KK := k + 1) (r := r) ?_ ?_
  conv => whnf
  refine br_nd H (fun c H => ?_) (fun c H => ?_)
  conv => whnf
  exact ⟨(k, ((((x3 ++ ((rd_impl_RecPhase l0 x4).f0)) ++ (⟨#[32]⟩ : ByteArray)) ++ t312) ++ (⟨#[32]⟩ : ByteArray)) ++ ((rd_impl_RecPhase l0 x4).f2)), [], ⟨H, lt_⟩, (fits_of ⟨.inl ⟨rfl, rfl⟩, trivial⟩ trivial fi_ trivial rfl)⟩
  conv => whnf
  refine nd_ H (fun c H => ?_)
  conv => whnf
  refine nd_ H (fun c H => ?_)
  conv => whnf
  exact ⟨(k, ((((((x3 ++ ((rd_impl_RecPhase l0 x4).f0)) ++ (⟨#[32]⟩ : ByteArray)) ++ t312) ++ (⟨#[32]⟩ : ByteArray)) ++ ((rd_impl_RecPhase l0 x4).f2)) ++ (⟨#[32]⟩ : ByteArray)) ++ ((rd_impl_RecPhase l0 x4).f3)), [], ⟨H, lt_⟩, (fits_of ⟨.inl ⟨rfl, rfl⟩, trivial⟩ trivial fi_ trivial rfl)⟩
  intro k x3_2 hk H; rcases k with _ | k; exact none_elim H; rw [spec_RecPrint.j2] at H; conv => whnf
  refine spec_RecPrint.j1_sq (l0 := l0) (x4 := x4) (KK := k + 1) (r := r) ?_ ?_
  conv => whnf
  refine br_d H (fun c H => ?_) (fun c H => ?_)
  conv => whnf
  refine nd_ H (fun c H => ?_)
  conv => whnf
  revert H; refine bind_elim (fun t315 A H => ?_)
  refine call_mk (spec_l43Dec.ac A) (avAL_cons (avA_shut' rfl) (avAL_nil)) (Or.inl rfl) rfl rfl (Nat.le_of_ble_eq_true rfl) ?_
  conv => whnf
  refine nd_ H (fun c H => ?_)
  conv => whnf
  exact ⟨(k, (x3_2 ++ (⟨#[32]⟩ : ByteArray)) ++ t315), [], ⟨H, lt_⟩, (fits_of ⟨.inl ⟨rfl, rfl⟩, trivial⟩ trivial fi_ trivial rfl)⟩
  conv => whnf
  exact ⟨(k, x3_2), [], ⟨H, lt_⟩, (fits_of ⟨.inl ⟨rfl, rfl⟩, trivial⟩ trivial fi_ trivial rfl)⟩
  intro k x3_3 hk H; rcases k with _ | k; exact none_elim H; unfold spec_RecPrint.j1 at H; conv => whnf
  refine nd_ H (fun c H => ?_)
  conv => whnf
  revert H; refine bind_elim (fun t314 A H => ?_)
  refine call_mk (spec_l43Dec.ac A) (avAL_cons (avA_shut' rfl) (avAL_nil)) (Or.inl rfl) rfl rfl (Nat.le_of_ble_eq_true rfl) ?_
  conv => whnf
  refine nd_ H (fun c H => ?_)
  conv => whnf
  refine nd_ H (fun c H => ?_)
  conv => whnf
  refine nd_ H (fun c H => ?_)
  conv => whnf
  refine nd_ H (fun c H => ?_)
  conv => whnf
  refine nd_ H (fun c H => ?_)
  conv => whnf
  refine nd_ H (fun c H => ?_)
  conv => whnf
  exact ⟨(k, ((((((x3_3 ++ (⟨#[32, 119, 105, 116, 104, 105, 110, 32]⟩ : ByteArray)) ++ t314) ++ (⟨#[32, 116, 104, 101, 110, 32]⟩ : ByteArray)) ++ ((rd_impl_RecPhase l0 x4).f6)) ++ (⟨#[32, 101, 108, 115, 101, 32]⟩ : ByteArray)) ++ ((rd_impl_RecPhase l0 x4).f7)) ++ (⟨#[10]⟩ : ByteArray)), [], ⟨H, lt_⟩, (fits_of ⟨.inl ⟨rfl, rfl⟩, trivial⟩ trivial fi_ trivial rfl)⟩
  intro k x3_1 hk H; rcases k with _ | k; exact none_elim H; rw [spec_RecPrint.j0] at H; conv => whnf
  exact ⟨(k, x3_1, wrap64 (x4 + 1)), [], ⟨H, lt_⟩, lt_, (fits_of ⟨.inl ⟨rfl, rfl⟩, ⟨.inl ⟨rfl, rfl⟩, trivial⟩⟩ trivial fi_ trivial rfl)⟩
  conv => whnf
  injection H with H; subst H
  exact ret_fz [] (rtA_eq rfl)
  conv => whnf
  injection H with H; subst H
  exact ret_fz [] (rtA_eq rfl)
theorem spec_l43Lines.l0_lp {F : (Exit → St → Prop) → St → Prop} {hv : List Tmp} {Q : Exit → St → Prop} {σ : St} {r : List ByteArray} {k : Nat} {a0 : ByteArray} {x3 : List ByteArray} {x4 : Int} {x5 : Int} (H : spec_l43Lines.l0 k a0 x3 x4 x5 = some r) (rn : List (Option Nat)) (h1 : Fits σ σ [8] [(3, .own 0 x3.length), (4, .int .i64 x4), (5, .int .i64 x5)] [] [.arr 9 1 (x3.map en_str)] rn)
    (h2 : ∀ (k0 : Nat) (x3 : List ByteArray) (x4 : Int) (x5 : Int), k0 < k + 1 → spec_l43Lines.l0 k0 a0 x3 x4 x5 = some r → headN σ hv [8] [(3, .own 0 x3.length), (4, .int .i64 x4), (5, .int .i64 x5)] [] [.arr 9 1 (x3.map en_str)] (F (fun e σ' => match e with | .normal => ∃ (y : Nat × (List ByteArray) × Int × Int) (rn : List (Option Nat)), (spec_l43Lines.l0 y.1 a0 y.2.1 y.2.2.1 y.2.2.2 = some r ∧ y.1 < k + 1) ∧ y.1 < k0 ∧ Fits σ σ' [8] [(3, .own 0 y.2.1.length), (4, .int .i64 y.2.2.1), (5, .int .i64 y.2.2.2)] [] [.arr 9 1 (y.2.1.map en_str)] rn | e => Q e σ'))) : Lp F hv Q σ := by
  unfold Lp
  refine ⟨Nat × (List ByteArray) × Int × Int, fun x => spec_l43Lines.l0 x.1 a0 x.2.1 x.2.2.1 x.2.2.2 = some r ∧ x.1 < k + 1, fun x => x.1, [8], fun x => [(3, .own 0 x.2.1.length), (4, .int .i64 x.2.2.1), (5, .int .i64 x.2.2.2)], fun x => [], fun x => [.arr 9 1 (x.2.1.map en_str)], ⟨(k, x3, x4, x5), rn, ⟨H, Nat.lt_succ_self _⟩, h1⟩, ?_⟩
  rintro ⟨k, x3, x4, x5⟩ ⟨H, hk⟩
  exact h2 k x3 x4 x5 hk H
theorem spec_l43Lines.ac {k : Nat} {a0 : ByteArray} {r : List ByteArray} (H : spec_l43Lines.f k a0 = some r) : ACalls Tryd.prog G 64 [] [.str a0] [] ((sv_str r)) := by
  refine acalls_of tok hP Tryd.func64 rfl (by kernel_rfl) [.tmp 2] rfl (by kernel_rfl) (Nat.le_of_ble_eq_true rfl) (.l .n (.l .n (.l .n (.l (.l .n (.l .n (.c (.c .n .n) .n))) (.l (.c .n .n) .n))))) rfl ?_
  unfold spec_l43Lines.f at H
  conv => whnf
  refine Or.inl ?_
  conv => whnf
  refine spec_l43Lines.l0_lp (a0 := a0) (k := k) H [some 8] (fits_of ⟨mt_own lm_, ⟨.inl ⟨rfl, rfl⟩, ⟨.inl ⟨rfl, rfl⟩, trivial⟩⟩⟩ ⟨fm_, trivial⟩ fi_ trivial rfl) ?_
  intro k x3 x4 x5 hk H; rcases k with _ | k; exact none_elim H; rw [spec_l43Lines.l0] at H; conv => whnf
  refine br_d H (fun c H => ?_) (fun c H => ?_)
  conv => whnf
  refine nd_ H (fun c H => ?_)
  conv => whnf
  refine Nd.mk nf_ ?_
  conv => whnf
  refine cut_ 105 [(0, .str a0), (3, .own 40 x3.length), (4, .int .i64 x4), (5, .int .i64 x5), (16, .bool (decide ((bt a0 x5) = 10)))] [(40, .arr 9 1 (x3.map en_str))] rfl ⟨.inl rfl, ⟨.inl rfl, ⟨.inl rfl, ⟨.inl rfl, ⟨.inl rfl, trivial⟩⟩⟩⟩⟩ ⟨rfl, trivial⟩ ?_
  conv => whnf
  refine br_d H (fun c H => ?_) (fun c H => ?_)
  conv => whnf
  refine nd_ H (fun c H => ?_)
  conv => whnf
  refine nd_ H (fun c H => ?_)
  conv => whnf
  refine nd_ H (fun c H => ?_)
  conv => whnf
  refine Or.inl ?_
  conv => whnf
  refine nd_ H (fun c H => ?_)
  conv => whnf
  refine cut_ 193 [(0, .str a0), (3, .own 153 (x3.length + 1)), (4, .int .i64 (wrap64 (x5 + 1))), (5, .int .i64 x5)] [(153, .arr 9 1 ((x3 ++ ([(a0.extract (x4).toNat (x5).toNat)] : List ByteArray)).map en_str))] rfl ⟨.inl rfl, ⟨.inl rfl, ⟨.inl rfl, ⟨.inl rfl, trivial⟩⟩⟩⟩ ⟨fm_, trivial⟩ ?_
  conv => whnf
  exact ⟨(k, (x3 ++ ([(a0.extract (x4).toNat (x5).toNat)] : List ByteArray)), wrap64 (x5 + 1), wrap64 (x5 + 1)), [some 153], ⟨H, lt_⟩, lt_, (fits_of ⟨mt_own lm_, ⟨.inl ⟨rfl, rfl⟩, ⟨.inl ⟨rfl, rfl⟩, trivial⟩⟩⟩ ⟨rfl, trivial⟩ fi_ trivial rfl)⟩
  conv => whnf
  refine cut_ 105 [(0, .str a0), (3, .own 40 x3.length), (4, .int .i64 x4), (5, .int .i64 x5)] [(40, .arr 9 1 (x3.map en_str))] rfl ⟨.inl rfl, ⟨.inl rfl, ⟨.inl rfl, ⟨.inl rfl, trivial⟩⟩⟩⟩ ⟨rfl, trivial⟩ ?_
  conv => whnf
  exact ⟨(k, x3, _, wrap64 (x5 + 1)), [some 40], ⟨H, lt_⟩, lt_, (fits_of ⟨rfl, ⟨.inl ⟨rfl, rfl⟩, ⟨.inl ⟨rfl, rfl⟩, trivial⟩⟩⟩ ⟨rfl, trivial⟩ fi_ trivial rfl)⟩
  conv => whnf
  refine cut_ 105 [(0, .str a0), (3, .own 40 x3.length), (4, .int .i64 x4), (29, .bool (decide (x4 < (a0.size : Int))))] [(40, .arr 9 1 (x3.map en_str))] rfl ⟨.inl rfl, ⟨.inl rfl, ⟨.inl rfl, ⟨.inl rfl, trivial⟩⟩⟩⟩ ⟨rfl, trivial⟩ ?_
  conv => whnf
  refine br_d H (fun c H => ?_) (fun c H => ?_)
  conv => whnf
  refine nd_ H (fun c H => ?_)
  conv => whnf
  refine nd_ H (fun c H => ?_)
  conv => whnf
  refine Or.inl ?_
  conv => whnf
  refine nd_ H (fun c H => ?_)
  conv => whnf
  injection H with H; subst H
  exact ret_fz [145] (rtA_fzD rfl lm_ lm_ rfl)
  conv => whnf
  injection H with H; subst H
  exact ret_fz [40] (rtA_fz' rfl rfl)
theorem spec_l45Text.l0_lp {F : (Exit → St → Prop) → St → Prop} {hv : List Tmp} {Q : Exit → St → Prop} {σ : St} {r : (List ByteArray) × (List Int) × Int} {k : Nat} {x3 : List ByteArray} {x4 : Int} {x1000000 : List Int} {x1000001 : Int} (H : spec_l45Text.l0 k x3 x4 x1000000 x1000001 = some r) (rn : List (Option Nat)) (h1 : Fits σ σ [0] [(3, (sv_str x3)), (4, .int .i64 x4)] [(0, .box [(sv_u8 x1000000), .int .i64 x1000001])] [] rn)
    (h2 : ∀ (k0 : Nat) (x3 : List ByteArray) (x4 : Int) (x1000000 : List Int) (x1000001 : Int), k0 < k + 1 → spec_l45Text.l0 k0 x3 x4 x1000000 x1000001 = some r → headN σ hv [0] [(3, (sv_str x3)), (4, .int .i64 x4)] [(0, .box [(sv_u8 x1000000), .int .i64 x1000001])] [] (F (fun e σ' => match e with | .normal => ∃ (y : Nat × (List ByteArray) × Int × (List Int) × Int) (rn : List (Option Nat)), (spec_l45Text.l0 y.1 y.2.1 y.2.2.1 y.2.2.2.1 y.2.2.2.2 = some r ∧ y.1 < k + 1) ∧ y.1 < k0 ∧ Fits σ σ' [0] [(3, (sv_str y.2.1)), (4, .int .i64 y.2.2.1)] [(0, .box [(sv_u8 y.2.2.2.1), .int .i64 y.2.2.2.2])] [] rn | e => Q e σ'))) : Lp F hv Q σ := by
  unfold Lp
  refine ⟨Nat × (List ByteArray) × Int × (List Int) × Int, fun x => spec_l45Text.l0 x.1 x.2.1 x.2.2.1 x.2.2.2.1 x.2.2.2.2 = some r ∧ x.1 < k + 1, fun x => x.1, [0], fun x => [(3, (sv_str x.2.1)), (4, .int .i64 x.2.2.1)], fun x => [(0, .box [(sv_u8 x.2.2.2.1), .int .i64 x.2.2.2.2])], fun x => [], ⟨(k, x3, x4, x1000000, x1000001), rn, ⟨H, Nat.lt_succ_self _⟩, h1⟩, ?_⟩
  rintro ⟨k, x3, x4, x1000000, x1000001⟩ ⟨H, hk⟩
  exact h2 k x3 x4 x1000000 x1000001 hk H
theorem spec_l45Text.ac {k : Nat} {a0_0 : List Int} {a0_1 : Int} {r : (List ByteArray) × (List Int) × Int} (H : spec_l45Text.f k a0_0 a0_1 = some r) : ACalls Tryd.prog G 74 [.box [(sv_u8 a0_0), .int .i64 a0_1]] [.bp 0 0] [.box [(sv_u8 r.2.1), .int .i64 r.2.2]] ((sv_str r.1)) := by
  refine acalls_of tok hP Tryd.func74 rfl (by kernel_rfl) [.tmp 2] rfl (by kernel_rfl) (Nat.le_of_ble_eq_true rfl) (.l .n (.l .n (.l (.l .n (.l (.c .n .n) (.f 1 .n .n))) .n))) rfl ?_
  unfold spec_l45Text.f at H
  conv => whnf
  revert H; refine bind_elim (fun t348 A H => ?_)
  refine call_mk2 [0] (spec_l45Recipe.ac A) ⟨rfl, trivial⟩ rfl rfl rfl rfl rfl rfl rfl rfl ?_
  conv => whnf
  revert H; refine bind_elim (fun t349 A H => ?_)
  refine call_mk (spec_RecPrint.ac A) (avAL_cons (avA_shut' rfl) (avAL_nil)) (Or.inl rfl) rfl rfl (Nat.le_of_ble_eq_true rfl) ?_
  conv => whnf
  revert H; refine bind_elim (fun t350 A H => ?_)
  refine call_mk (spec_l43Lines.ac A) (avAL_cons (avA_shut' rfl) (avAL_nil)) (Or.inl rfl) rfl rfl (Nat.le_of_ble_eq_true rfl) ?_
  conv => whnf
  revert H; refine bind_elim (fun t358 A H => ?_)
  refine call_mk2 [0] (spec_l41Rd_pick.ac A) ⟨rfl, trivial⟩ rfl rfl rfl rfl rfl rfl rfl rfl ?_
  conv => whnf
  refine spec_l45Text.l0_lp (k := k) H [] (fits_of ⟨.inl ⟨rfl, rfl⟩, ⟨.inl ⟨rfl, rfl⟩, trivial⟩⟩ trivial fi_ ⟨⟨_, rfl⟩, ⟨_, rfl, ⟨.inl ⟨rfl, rfl⟩, ⟨.inl ⟨rfl, rfl⟩, trivial⟩⟩⟩, trivial⟩ rfl) ?_
  intro k x3 x4 x1000000 x1000001 hk H; rcases k with _ | k; exact none_elim H; rw [spec_l45Text.l0] at H; conv => whnf
  refine cut_ 89 [(0, .bp 0 0), (3, (sv_str x3)), (4, .int .i64 x4), (13, .bool (decide (x4 > 0)))] [(0, .box [(sv_u8 x1000000), .int .i64 x1000001])] rfl ⟨.inl rfl, ⟨.inl rfl, ⟨.inl rfl, ⟨.inl rfl, trivial⟩⟩⟩⟩ ⟨rfl, trivial⟩ ?_
  conv => whnf
  refine br_d H (fun c H => ?_) (fun c H => ?_)
  conv => whnf
  revert H; refine bind_elim (fun t361 A H => ?_)
  refine call_mk2 [0] (spec_l41Rd_pick.ac A) ⟨rfl, trivial⟩ rfl rfl rfl rfl rfl rfl rfl rfl ?_
  conv => whnf
  refine Or.inl ?_
  conv => whnf
  refine nd_ H (fun c H => ?_)
  conv => whnf
  refine nd_ H (fun c H => ?_)
  conv => whnf
  refine nd_ H (fun c H => ?_)
  conv => whnf
  refine Or.inr ?_
  conv => whnf
  revert H; refine bind_elim (fun t362 A H => ?_)
  refine call_mk2 [0] (spec_l41Rd_of.ac A) ⟨rfl, trivial⟩ rfl rfl rfl rfl rfl (le_eq ⟨rfl, ⟨sl_e rfl lm_ lm_, trivial⟩⟩) rfl rfl ?_
  conv => whnf
  refine Or.inl ?_
  conv => whnf
  refine nd_ H (fun c H => ?_)
  conv => whnf
  refine Nd.mk nf_ ?_
  conv => whnf
  refine Nd.mk nf_ ?_
  conv => whnf
  refine nd_ H (fun c H => ?_)
  conv => whnf
  refine cutF_ 257 [241] [(0, .bp 0 0), (3, (sv_str (((([] : List ByteArray) ++ (x3.take (t361.1).toNat)) ++ ([t362.1] : List ByteArray)) ++ (x3.drop (t361.1).toNat)))), (4, .int .i64 x4)] [(0, .box [(sv_u8 t362.2.1), .int .i64 t362.2.2])] rfl rfl ⟨.inl rfl, ⟨fz_own rfl rfl (.inr lm_) lm_, ⟨.inl rfl, trivial⟩⟩⟩ ⟨rfl, trivial⟩ ?_
  conv => whnf
  exact ⟨(k, (((([] : List ByteArray) ++ (x3.take (t361.1).toNat)) ++ ([t362.1] : List ByteArray)) ++ (x3.drop (t361.1).toNat)), wrap64 (x4 - 1), t362.2.1, t362.2.2), [], ⟨H, lt_⟩, lt_, (fits_of ⟨.inl ⟨rfl, rfl⟩, ⟨.inl ⟨rfl, rfl⟩, trivial⟩⟩ trivial fi_ ⟨⟨_, rfl⟩, ⟨_, rfl, ⟨.inl ⟨rfl, rfl⟩, ⟨.inl ⟨rfl, rfl⟩, trivial⟩⟩⟩, trivial⟩ rfl)⟩
  conv => whnf
  injection H with H; subst H
  exact ret_gen [some 0] [] ((rtA_eq rfl)) ⟨rfl, trivial⟩ rfl
theorem spec_l45Fore.j0_sq {F : (Exit → St → Prop) → St → Prop} {hv : List Tmp} {K : St → Prop} {Q : Exit → St → Prop} {σ : St} {r : (List ByteArray) × (List Int) × Int} {KK : Nat}
    (h1 : F (fun e σ' => match e with | .normal => ∃ (y : Nat × (List Int) × Int × (List ByteArray)) (rn : List (Option Nat)), (spec_l45Fore.j0 y.1 y.2.2.2 y.2.1 y.2.2.1 = some r ∧ y.1 < KK) ∧ Fits σ σ' [0, 25] [(5, .own 0 y.2.2.2.length)] [(0, .box [(sv_u8 y.2.1), .int .i64 y.2.2.1])] [.arr 9 1 (y.2.2.2.map en_str)] rn | e => Q e σ') σ)
    (h2 : ∀ (k : Nat) (x1000000 : List Int) (x1000001 : Int) (x5 : List ByteArray), k < KK → spec_l45Fore.j0 k x5 x1000000 x1000001 = some r → headN σ hv [0, 25] [(5, .own 0 x5.length)] [(0, .box [(sv_u8 x1000000), .int .i64 x1000001])] [.arr 9 1 (x5.map en_str)] K) : Sq F hv K Q σ := by
  unfold Sq
  refine ⟨Nat × (List Int) × Int × (List ByteArray), fun x => spec_l45Fore.j0 x.1 x.2.2.2 x.2.1 x.2.2.1 = some r ∧ x.1 < KK, [0, 25], fun x => [(5, .own 0 x.2.2.2.length)], fun x => [(0, .box [(sv_u8 x.2.1), .int .i64 x.2.2.1])], fun x => [.arr 9 1 (x.2.2.2.map en_str)], h1, ?_⟩
  rintro ⟨k, x1000000, x1000001, x5⟩ ⟨H, hk⟩
  exact h2 k x1000000 x1000001 x5 hk H
theorem spec_l45Fore.l0_lp {F : (Exit → St → Prop) → St → Prop} {hv : List Tmp} {Q : Exit → St → Prop} {σ : St} {r : (List ByteArray) × (List Int) × Int} {k : Nat} {t415 : Int × (List Int) × Int} {x5_1 : List ByteArray} {x7 : Int} (H : spec_l45Fore.l0 k x5_1 x7 t415 = some r) (rn : List (Option Nat)) (h1 : Fits σ σ [25] [(5, .own 0 x5_1.length), (7, .int .i64 x7)] [] [.arr 9 1 (x5_1.map en_str)] rn)
    (h2 : ∀ (k0 : Nat) (x5_1 : List ByteArray) (x7 : Int), k0 < k + 1 → spec_l45Fore.l0 k0 x5_1 x7 t415 = some r → headN σ hv [25] [(5, .own 0 x5_1.length), (7, .int .i64 x7)] [] [.arr 9 1 (x5_1.map en_str)] (F (fun e σ' => match e with | .normal => ∃ (y : Nat × (List ByteArray) × Int) (rn : List (Option Nat)), (spec_l45Fore.l0 y.1 y.2.1 y.2.2 t415 = some r ∧ y.1 < k + 1) ∧ y.1 < k0 ∧ Fits σ σ' [25] [(5, .own 0 y.2.1.length), (7, .int .i64 y.2.2)] [] [.arr 9 1 (y.2.1.map en_str)] rn | e => Q e σ'))) : Lp F hv Q σ := by
  unfold Lp
  refine ⟨Nat × (List ByteArray) × Int, fun x => spec_l45Fore.l0 x.1 x.2.1 x.2.2 t415 = some r ∧ x.1 < k + 1, fun x => x.1, [25], fun x => [(5, .own 0 x.2.1.length), (7, .int .i64 x.2.2)], fun x => [], fun x => [.arr 9 1 (x.2.1.map en_str)], ⟨(k, x5_1, x7), rn, ⟨H, Nat.lt_succ_self _⟩, h1⟩, ?_⟩
  rintro ⟨k, x5_1, x7⟩ ⟨H, hk⟩
  exact h2 k x5_1 x7 hk H
theorem spec_l45Fore.l1_lp {F : (Exit → St → Prop) → St → Prop} {hv : List Tmp} {Q : Exit → St → Prop} {σ : St} {r : (List ByteArray) × (List Int) × Int} {k : Nat} {l1 : List ByteArray} {t419 : Int × (List Int) × Int} {x5_2 : List ByteArray} (H : spec_l45Fore.l1 k l1 x5_2 t419 = some r) (rn : List (Option Nat)) (h1 : Fits σ σ [25] [(5, .own 0 x5_2.length)] [] [.arr 9 1 (x5_2.map en_str)] rn)
    (h2 : ∀ (k0 : Nat) (x5_2 : List ByteArray), k0 < k + 1 → spec_l45Fore.l1 k0 l1 x5_2 t419 = some r → headN σ hv [25] [(5, .own 0 x5_2.length)] [] [.arr 9 1 (x5_2.map en_str)] (F (fun e σ' => match e with | .normal => ∃ (y : Nat × (List ByteArray)) (rn : List (Option Nat)), (spec_l45Fore.l1 y.1 l1 y.2 t419 = some r ∧ y.1 < k + 1) ∧ y.1 < k0 ∧ Fits σ σ' [25] [(5, .own 0 y.2.length)] [] [.arr 9 1 (y.2.map en_str)] rn | e => Q e σ'))) : Lp F hv Q σ := by
  unfold Lp
  refine ⟨Nat × (List ByteArray), fun x => spec_l45Fore.l1 x.1 l1 x.2 t419 = some r ∧ x.1 < k + 1, fun x => x.1, [25], fun x => [(5, .own 0 x.2.length)], fun x => [], fun x => [.arr 9 1 (x.2.map en_str)], ⟨(k, x5_2), rn, ⟨H, Nat.lt_succ_self _⟩, h1⟩, ?_⟩
  rintro ⟨k, x5_2⟩ ⟨H, hk⟩
  exact h2 k x5_2 hk H
theorem spec_l45Fore.ac {k : Nat} {a0_0 : List Int} {a0_1 : Int} {l1 : List ByteArray} {r : (List ByteArray) × (List Int) × Int} (H : spec_l45Fore.f k a0_0 a0_1 l1 = some r) : ACalls Tryd.prog G 76 [.box [(sv_u8 a0_0), .int .i64 a0_1]] [.bp 0 0, (sv_str l1)] [.box [(sv_u8 r.2.1), .int .i64 r.2.2]] ((sv_str r.1)) := by
  refine acalls_of tok hP Tryd.func76 rfl (by kernel_rfl) [.tmp 4] rfl (by kernel_rfl) (Nat.le_of_ble_eq_true rfl) (.l .n (.l .n (.l (.l .n (.l (.c .n .n) .n)) (.c .n (.j (.l .n (.l .n (.l .n (.l .n (.f 1 .n (.l .n (.l .n (.l .n (.l .n (.l .n (.l (.l .n (.l .n (.c .n .n))) (.l .n (.l (.c .n .n) (.c .n .n)))))))))))))) (.c .n .n)))))) rfl ?_
  unfold spec_l45Fore.f at H
  conv => whnf
  refine Or.inl ?_
  conv => whnf
  refine nd_ H (fun c H => ?_)
  conv => whnf
  refine br_d H (fun c H => ?_) (fun c H => ?_)
  conv => whnf
  refine Or.inl ?_
  conv => whnf
  refine cut_ 81 [(4, .own 65 1)] [(0, .box [(sv_u8 a0_0), .int .i64 a0_1]), (65, .arr 9 1 (([(⟨#[119, 104, 97, 116]⟩ : ByteArray)] : List ByteArray).map en_str))] rfl ⟨.inl rfl, trivial⟩ ⟨rfl, ⟨fm_, trivial⟩⟩ ?_
  conv => whnf
  injection H with H; subst H
  exact ret_gen [some 0] [65] ((rtA_fzD rfl lm_ lm_ rfl)) ⟨rfl, trivial⟩ rfl
  conv => whnf
  revert H; refine bind_elim (fun t396 A H => ?_)
  refine call_mk2 [0] (spec_l41Rd_pick.ac A) ⟨rfl, trivial⟩ rfl rfl rfl rfl rfl rfl rfl rfl ?_
  conv => whnf
  refine cut_ 105 [(0, .bp 0 0), (5, .own 25 (0 + l1.length)), (6, .int .i64 t396.1)] [(0, .box [(sv_u8 t396.2.1), .int .i64 t396.2.2]), (25, .arr 9 1 ((([] : List ByteArray) ++ l1).map en_str))] rfl ⟨.inl rfl, ⟨.inl rfl, ⟨.inl rfl, trivial⟩⟩⟩ ⟨rfl, ⟨fm_, trivial⟩⟩ ?_
  conv => whnf
  refine spec_l45Fore.j0_sq (KK := k + 1) (r := r) ?_ ?_
  conv => whnf
  revert H; refine bind_elim (fun t415 A H => ?_)
  refine call_mk2 [0] (spec_l41Rd_pick.ac A) ⟨rfl, trivial⟩ rfl rfl rfl rfl rfl rfl rfl rfl ?_
  conv => whnf
  refine br_d H (fun c H => ?_) (fun c H => ?_)
  conv => whnf
  refine nd_ H (fun c H => ?_)
  conv => whnf
  refine nd_ H (fun c H => ?_)
  conv => whnf
  refine El.mk (rdm_en_str _ _ nf_ nf_) ?_
  conv => whnf
  refine Or.inr ?_
  conv => whnf
  revert H; refine bind_elim (fun t416 A H => ?_)
  refine call_mk2 [0] (spec_l41Rd_of.ac A) ⟨rfl, trivial⟩ rfl rfl rfl rfl rfl (le_eq ⟨rfl, ⟨sl_e rfl lm_ lm_, trivial⟩⟩) rfl rfl ?_
  conv => whnf
  refine nd_ H (fun c H => ?_)
  conv => whnf
  refine Nd.mk nf_ ?_
  conv => whnf
  refine Nd.mk nf_ ?_
  conv => whnf
  refine El.mk (rdm_en_str _ _ nf_ nf_) ?_
  conv => whnf
  exact ⟨(k, t416.2.1, t416.2.2, ((([] : List ByteArray) ++ l1).set (t396.1).toNat ((rdOf ByteArray.empty (([] : List ByteArray) ++ l1) t396.1) ++ t416.1))), [some 25], ⟨H, lt_⟩, (fits_of ⟨mt_own lm_, trivial⟩ ⟨fm_, trivial⟩ fi_ ⟨⟨_, rfl⟩, ⟨_, rfl, ⟨.inl ⟨rfl, rfl⟩, ⟨.inl ⟨rfl, rfl⟩, trivial⟩⟩⟩, trivial⟩ rfl)⟩
  conv => whnf
  refine br_d H (fun c H => ?_) (fun c H => ?_)
  conv => whnf
  refine cutF_ 153 [25] [(5, (sv_str (([] : List ByteArray) ++ l1))), (6, .int .i64 t396.1)] [(0, .box [(sv_u8 t415.2.1), .int .i64 t415.2.2])] rfl rfl ⟨fz_own rfl rfl (.inr lm_) lm_, ⟨.inl rfl, trivial⟩⟩ ⟨rfl, trivial⟩ ?_
  conv => whnf
  refine Or.inl ?_
  conv => whnf
  refine nd_ H (fun c H => ?_)
  conv => whnf
  refine nd_ H (fun c H => ?_)
  conv => whnf
  refine nd_ H (fun c H => ?_)
  conv => whnf
  refine nd_ H (fun c H => ?_)
  conv => whnf
  refine nd_ H (fun c H => ?_)
  conv => whnf
  refine nd_ H (fun c H => ?_)
  conv => whnf
  exact ⟨(k, t415.2.1, t415.2.2, ((([] : List ByteArray) ++ ((([] : List ByteArray) ++ l1).take (t396.1).toNat)) ++ ((([] : List ByteArray) ++ l1).drop (wrap64 (t396.1 + 1)).toNat))), [some 225], ⟨H, lt_⟩, (fits_of ⟨mt_own lm_, trivial⟩ ⟨fm_, trivial⟩ fi_ ⟨⟨_, rfl⟩, ⟨_, rfl, ⟨.inl ⟨rfl, rfl⟩, ⟨.inl ⟨rfl, rfl⟩, trivial⟩⟩⟩, trivial⟩ rfl)⟩
  conv => whnf
  refine cutF_ 153 [] [(0, .bp 0 0), (5, .own 25 (0 + l1.length)), (6, .int .i64 t396.1), (22, .int .i64 t415.1)] [(0, .box [(sv_u8 t415.2.1), .int .i64 t415.2.2]), (25, .arr 9 1 ((([] : List ByteArray) ++ l1).map en_str))] rfl rfl ⟨.inl rfl, ⟨.inl rfl, ⟨.inl rfl, ⟨.inl rfl, trivial⟩⟩⟩⟩ ⟨rfl, ⟨rfl, trivial⟩⟩ ?_
  conv => whnf
  refine br_d H (fun c H => ?_) (fun c H => ?_)
  conv => whnf
  refine nd_ H (fun c H => ?_)
  conv => whnf
  refine nd_ H (fun c H => ?_)
  conv => whnf
  refine El.mk (rdm_en_str _ _ nf_ nf_) ?_
  conv => whnf
  refine Or.inl ?_
  conv => whnf
  refine nd_ H (fun c H => ?_)
  conv => whnf
  exact ⟨(k, t415.2.1, t415.2.2, ((([] : List ByteArray) ++ l1) ++ ([rdOf ByteArray.empty (([] : List ByteArray) ++ l1) t396.1] : List ByteArray))), [some 217], ⟨H, lt_⟩, (fits_of ⟨mt_own lm_, trivial⟩ ⟨fm_, trivial⟩ fi_ ⟨⟨_, rfl⟩, ⟨_, rfl, ⟨.inl ⟨rfl, rfl⟩, ⟨.inl ⟨rfl, rfl⟩, trivial⟩⟩⟩, trivial⟩ rfl)⟩
  conv => whnf
  refine br_d H (fun c H => ?_) (fun c H => ?_)
  conv => whnf
  refine Or.inr ?_
  conv => whnf
  revert H; refine bind_elim (fun t417 A H => ?_)
  refine call_mk2 [0] (spec_l41Rd_of.ac A) ⟨rfl, trivial⟩ rfl rfl rfl rfl rfl (le_eq ⟨rfl, ⟨sl_e rfl lm_ lm_, trivial⟩⟩) rfl rfl ?_
  conv => whnf
  refine nd_ H (fun c H => ?_)
  conv => whnf
  refine nd_ H (fun c H => ?_)
  conv => whnf
  refine El.mk (rdm_en_str _ _ nf_ nf_) ?_
  conv => whnf
  exact ⟨(k, t417.2.1, t417.2.2, ((([] : List ByteArray) ++ l1).set (t396.1).toNat t417.1)), [some 25], ⟨H, lt_⟩, (fits_of ⟨mt_own lm_, trivial⟩ ⟨fm_, trivial⟩ fi_ ⟨⟨_, rfl⟩, ⟨_, rfl, ⟨.inl ⟨rfl, rfl⟩, ⟨.inl ⟨rfl, rfl⟩, trivial⟩⟩⟩, trivial⟩ rfl)⟩
  conv => whnf
  refine br_d H (fun c H => ?_) (fun c H => ?_)
  conv => whnf
  refine spec_l45Fore.l0_lp (t415 := t415) (k := k) H [some 25] (fits_of ⟨mt_own lm_, ⟨.inl ⟨rfl, rfl⟩, trivial⟩⟩ ⟨rfl, trivial⟩ fi_ trivial rfl) ?_
  intro k x5_1 x7 hk H; rcases k with _ | k; exact none_elim H; rw [spec_l45Fore.l0] at H; conv => whnf
  refine br_d H (fun c H => ?_) (fun c H => ?_)
  conv => whnf
  revert H; refine bind_elim (fun t418 A H => ?_)
  refine call_mk (spec_l43Dec.ac A) (avAL_cons (avA_shut' rfl) (avAL_nil)) (Or.inl rfl) rfl rfl (Nat.le_of_ble_eq_true rfl) ?_
  conv => whnf
  refine nd_ H (fun c H => ?_)
  conv => whnf
  refine nd_ H (fun c H => ?_)
  conv => whnf
  refine Or.inl ?_
  conv => whnf
  refine nd_ H (fun c H => ?_)
  conv => whnf
  refine cut_ 290 [(5, .own 274 (x5_1.length + 1)), (7, .int .i64 x7)] [(0, .box [(sv_u8 t415.2.1), .int .i64 t415.2.2]), (274, .arr 9 1 ((x5_1 ++ ([((⟨#[121]⟩ : ByteArray) ++ t418) ++ (⟨#[32, 116, 101, 115, 116, 32, 115, 49, 32, 119, 105, 116, 104, 105, 110, 32, 50, 32, 116, 104, 101, 110, 32, 103, 111, 111, 100, 32, 101, 108, 115, 101, 32, 103, 111, 111, 100]⟩ : ByteArray)] : List ByteArray)).map en_str))] rfl ⟨.inl rfl, ⟨.inl rfl, trivial⟩⟩ ⟨rfl, ⟨fm_, trivial⟩⟩ ?_
  conv => whnf
  exact ⟨(k, (x5_1 ++ ([((⟨#[121]⟩ : ByteArray) ++ t418) ++ (⟨#[32, 116, 101, 115, 116, 32, 115, 49, 32, 119, 105, 116, 104, 105, 110, 32, 50, 32, 116, 104, 101, 110, 32, 103, 111, 111, 100, 32, 101, 108, 115, 101, 32, 103, 111, 111, 100]⟩ : ByteArray)] : List ByteArray)), wrap64 (x7 + 1)), [some 274], ⟨H, lt_⟩, lt_, (fits_of ⟨mt_own lm_, ⟨.inl ⟨rfl, rfl⟩, trivial⟩⟩ ⟨rfl, trivial⟩ fi_ trivial rfl)⟩
  conv => whnf
  exact ⟨(k, t415.2.1, t415.2.2, x5_1), [some 209], ⟨H, lt_⟩, (fits_of ⟨rfl, trivial⟩ ⟨rfl, trivial⟩ fi_ ⟨⟨_, rfl⟩, ⟨_, rfl, ⟨.inl ⟨rfl, rfl⟩, ⟨.inl ⟨rfl, rfl⟩, trivial⟩⟩⟩, trivial⟩ rfl)⟩
  conv => whnf
  refine br_d H (fun c H => ?_) (fun c H => ?_)
  conv => whnf
  revert H; refine bind_elim (fun t419 A H => ?_)
  refine call_mk2 [0] (spec_l41Rd_pick.ac A) ⟨rfl, trivial⟩ rfl rfl rfl rfl rfl rfl rfl rfl ?_
  conv => whnf
  refine cut_ 249 [(5, .own 25 (0 + l1.length)), (8, .int .i64 (wrap64 (60 + t419.1)))] [(0, .box [(sv_u8 t419.2.1), .int .i64 t419.2.2]), (25, .arr 9 1 ((([] : List ByteArray) ++ l1).map en_str))] rfl ⟨.inl rfl, ⟨.inl rfl, trivial⟩⟩ ⟨rfl, ⟨rfl, trivial⟩⟩ ?_
  conv => whnf
  refine spec_l45Fore.l1_lp (l1 := l1) (t419 := t419) (k := k) H [some 25] (fits_of ⟨mt_own lm_, trivial⟩ ⟨rfl, trivial⟩ fi_ trivial rfl) ?_
  intro k x5_2 hk H; rcases k with _ | k; exact none_elim H; rw [spec_l45Fore.l1] at H; conv => whnf
  refine br_d H (fun c H => ?_) (fun c H => ?_)
  conv => whnf
  refine Or.inl ?_
  conv => whnf
  refine nd_ H (fun c H => ?_)
  conv => whnf
  exact ⟨(k, (x5_2 ++ ([(⟨#[35]⟩ : ByteArray)] : List ByteArray))), [some 298], ⟨H, lt_⟩, lt_, (fits_of ⟨mt_own lm_, trivial⟩ ⟨fm_, trivial⟩ fi_ trivial rfl)⟩
  conv => whnf
  exact ⟨(k, t419.2.1, t419.2.2, x5_2), [some 249], ⟨H, lt_⟩, (fits_of ⟨rfl, trivial⟩ ⟨rfl, trivial⟩ fi_ ⟨⟨_, rfl⟩, ⟨_, rfl, ⟨.inl ⟨rfl, rfl⟩, ⟨.inl ⟨rfl, rfl⟩, trivial⟩⟩⟩, trivial⟩ rfl)⟩
  conv => whnf
  refine nd_ H (fun c H => ?_)
  conv => whnf
  refine nd_ H (fun c H => ?_)
  conv => whnf
  refine El.mk (rdm_en_str _ _ nf_ nf_) ?_
  conv => whnf
  revert H; refine bind_elim (fun t420 A H => ?_)
  refine call_mk2 [0] (spec_l41Rd_pick.ac A) ⟨rfl, trivial⟩ rfl rfl rfl rfl rfl rfl rfl rfl ?_
  conv => whnf
  refine cut_ 289 [(0, .bp 0 0), (5, .own 25 (0 + l1.length)), (6, .int .i64 t396.1), (9, .int .i64 t420.1)] [(0, .box [(sv_u8 t420.2.1), .int .i64 t420.2.2]), (25, .arr 9 1 ((([] : List ByteArray) ++ l1).map en_str))] rfl ⟨.inl rfl, ⟨.inl rfl, ⟨.inl rfl, ⟨.inl rfl, trivial⟩⟩⟩⟩ ⟨rfl, ⟨rfl, trivial⟩⟩ ?_
  conv => whnf
  refine Nd.mk nf_ ?_
  conv => whnf
  refine Nd.mk nf_ ?_
  conv => whnf
  refine El.mk (rdm_en_str _ _ nf_ nf_) ?_
  conv => whnf
  refine nd_ H (fun c H => ?_)
  conv => whnf
  refine nd_ H (fun c H => ?_)
  conv => whnf
  refine Or.inr ?_
  conv => whnf
  revert H; refine bind_elim (fun t421 A H => ?_)
  refine call_mk2 [0] (spec_l41Rd_of.ac A) ⟨rfl, trivial⟩ rfl rfl rfl rfl rfl (le_eq ⟨rfl, ⟨sl_e rfl lm_ lm_, trivial⟩⟩) rfl rfl ?_
  conv => whnf
  refine nd_ H (fun c H => ?_)
  conv => whnf
  refine Nd.mk nf_ ?_
  conv => whnf
  refine Nd.mk nf_ ?_
  conv => whnf
  refine El.mk (rdm_en_str _ _ nf_ nf_) ?_
  conv => whnf
  refine Nd.mk nf_ ?_
  conv => whnf
  refine Nd.mk nf_ ?_
  conv => whnf
  refine nd_ H (fun c H => ?_)
  conv => whnf
  refine Nd.mk nf_ ?_
  conv => whnf
  refine Nd.mk nf_ ?_
  conv => whnf
  refine El.mk (rdm_en_str _ _ nf_ nf_) ?_
  conv => whnf
  exact ⟨(k, t421.2.1, t421.2.2, ((([] : List ByteArray) ++ l1).set (t396.1).toNat ((((rdOf ByteArray.empty (([] : List ByteArray) ++ l1) t396.1).extract 0 (t420.1).toNat) ++ t421.1) ++ ((rdOf ByteArray.empty (([] : List ByteArray) ++ l1) t396.1).extract (t420.1).toNat (rdOf ByteArray.empty (([] : List ByteArray) ++ l1) t396.1).size)))), [some 25], ⟨H, lt_⟩, (fits_of ⟨mt_own lm_, trivial⟩ ⟨fm_, trivial⟩ fi_ ⟨⟨_, rfl⟩, ⟨_, rfl, ⟨.inl ⟨rfl, rfl⟩, ⟨.inl ⟨rfl, rfl⟩, trivial⟩⟩⟩, trivial⟩ rfl)⟩
  intro k x1000000 x1000001 x5 hk H; rcases k with _ | k; exact none_elim H; rw [spec_l45Fore.j0] at H; conv => whnf
  refine cut_ 122 [(4, .own 105 x5.length)] [(0, .box [(sv_u8 x1000000), .int .i64 x1000001]), (105, .arr 9 1 (x5.map en_str))] rfl ⟨.inl rfl, trivial⟩ ⟨rfl, ⟨rfl, trivial⟩⟩ ?_
  conv => whnf
  injection H with H; subst H
  exact ret_gen [some 0] [105] ((rtA_fz' rfl rfl)) ⟨rfl, trivial⟩ rfl
theorem spec_l45Lines.l0_lp {F : (Exit → St → Prop) → St → Prop} {hv : List Tmp} {Q : Exit → St → Prop} {σ : St} {r : ByteArray} {k : Nat} {l0 : List ByteArray} {x3 : ByteArray} {x4 : Int} (H : spec_l45Lines.l0 k l0 x3 x4 = some r) (rn : List (Option Nat)) (h1 : Fits σ σ [] [(3, .str x3), (4, .int .i64 x4)] [] [] rn)
    (h2 : ∀ (k0 : Nat) (x3 : ByteArray) (x4 : Int), k0 < k + 1 → spec_l45Lines.l0 k0 l0 x3 x4 = some r → headN σ hv [] [(3, .str x3), (4, .int .i64 x4)] [] [] (F (fun e σ' => match e with | .normal => ∃ (y : Nat × ByteArray × Int) (rn : List (Option Nat)), (spec_l45Lines.l0 y.1 l0 y.2.1 y.2.2 = some r ∧ y.1 < k + 1) ∧ y.1 < k0 ∧ Fits σ σ' [] [(3, .str y.2.1), (4, .int .i64 y.2.2)] [] [] rn | e => Q e σ'))) : Lp F hv Q σ := by
  unfold Lp
  refine ⟨Nat × ByteArray × Int, fun x => spec_l45Lines.l0 x.1 l0 x.2.1 x.2.2 = some r ∧ x.1 < k + 1, fun x => x.1, [], fun x => [(3, .str x.2.1), (4, .int .i64 x.2.2)], fun x => [], fun x => [], ⟨(k, x3, x4), rn, ⟨H, Nat.lt_succ_self _⟩, h1⟩, ?_⟩
  rintro ⟨k, x3, x4⟩ ⟨H, hk⟩
  exact h2 k x3 x4 hk H
theorem spec_l45Lines.ac {k : Nat} {l0 : List ByteArray} {r : ByteArray} (H : spec_l45Lines.f k l0 = some r) : ACalls Tryd.prog G 77 [] [(sv_str l0)] [] (.str r) := by
  refine acalls_of tok hP Tryd.func77 rfl (by kernel_rfl) [.tmp 2] rfl (by kernel_rfl) (Nat.le_of_ble_eq_true rfl) (.l .n (.l .n (.l (.l .n (.l .n (.c .n .n))) .n))) rfl ?_
  unfold spec_l45Lines.f at H
  conv => whnf
  refine spec_l45Lines.l0_lp (l0 := l0) (k := k) H [] (fits_of ⟨.inl ⟨rfl, rfl⟩, ⟨.inl ⟨rfl, rfl⟩, trivial⟩⟩ trivial fi_ trivial rfl) ?_
  intro k x3 x4 hk H; rcases k with _ | k; exact none_elim H; rw [spec_l45Lines.l0] at H; conv => whnf
  refine br_d H (fun c H => ?_) (fun c H => ?_)
  conv => whnf
  refine nd_ H (fun c H => ?_)
  conv => whnf
  refine Nd.mk nf_ ?_
  conv => whnf
  refine El.mk (rdm_en_str _ _ nf_ nf_) ?_
  conv => whnf
  refine nd_ H (fun c H => ?_)
  conv => whnf
  refine nd_ H (fun c H => ?_)
  conv => whnf
  refine cut_ 120 [(0, (sv_str l0)), (3, .str ((x3 ++ (rdOf ByteArray.empty l0 x4)) ++ (⟨#[10]⟩ : ByteArray))), (4, .int .i64 x4)] [] rfl ⟨.inl rfl, ⟨.inl rfl, ⟨.inl rfl, trivial⟩⟩⟩ trivial ?_
  conv => whnf
  exact ⟨(k, (x3 ++ (rdOf ByteArray.empty l0 x4)) ++ (⟨#[10]⟩ : ByteArray), wrap64 (x4 + 1)), [], ⟨H, lt_⟩, lt_, (fits_of ⟨.inl ⟨rfl, rfl⟩, ⟨.inl ⟨rfl, rfl⟩, trivial⟩⟩ trivial fi_ trivial rfl)⟩
  conv => whnf
  injection H with H; subst H
  exact ret_fz [] (rtA_eq rfl)
theorem spec_l41Many.l0_lp {F : (Exit → St → Prop) → St → Prop} {hv : List Tmp} {Q : Exit → St → Prop} {σ : St} {r : ByteArray} {k : Nat} {x0 : ByteArray} {x1 : Int} {x5 : ByteArray} (H : spec_l41Many.l0 k x0 x1 x5 = some r) (rn : List (Option Nat)) (h1 : Fits σ σ [] [(0, .str x0), (1, .int .i64 x1), (5, .str x5)] [] [] rn)
    (h2 : ∀ (k0 : Nat) (x0 : ByteArray) (x1 : Int) (x5 : ByteArray), k0 < k + 1 → spec_l41Many.l0 k0 x0 x1 x5 = some r → headN σ hv [] [(0, .str x0), (1, .int .i64 x1), (5, .str x5)] [] [] (F (fun e σ' => match e with | .normal => ∃ (y : Nat × ByteArray × Int × ByteArray) (rn : List (Option Nat)), (spec_l41Many.l0 y.1 y.2.1 y.2.2.1 y.2.2.2 = some r ∧ y.1 < k + 1) ∧ y.1 < k0 ∧ Fits σ σ' [] [(0, .str y.2.1), (1, .int .i64 y.2.2.1), (5, .str y.2.2.2)] [] [] rn | e => Q e σ'))) : Lp F hv Q σ := by
  unfold Lp
  refine ⟨Nat × ByteArray × Int × ByteArray, fun x => spec_l41Many.l0 x.1 x.2.1 x.2.2.1 x.2.2.2 = some r ∧ x.1 < k + 1, fun x => x.1, [], fun x => [(0, .str x.2.1), (1, .int .i64 x.2.2.1), (5, .str x.2.2.2)], fun x => [], fun x => [], ⟨(k, x0, x1, x5), rn, ⟨H, Nat.lt_succ_self _⟩, h1⟩, ?_⟩
  rintro ⟨k, x0, x1, x5⟩ ⟨H, hk⟩
  exact h2 k x0 x1 x5 hk H
theorem spec_l41Many.ac {k : Nat} {a0 : ByteArray} {a1 : Int} {r : ByteArray} (H : spec_l41Many.f k a0 a1 = some r) : ACalls Tryd.prog G 78 [] [.str a0, .int .i64 a1] [] (.str r) := by
  refine acalls_of tok hP Tryd.func78 rfl (by kernel_rfl) [.tmp 4] rfl (by kernel_rfl) (Nat.le_of_ble_eq_true rfl) (.l .n (.l .n (.l (.l .n (.c .n (.c .n .n))) .n))) rfl ?_
  unfold spec_l41Many.f at H
  conv => whnf
  refine spec_l41Many.l0_lp (k := k) H [] (fits_of ⟨.inl ⟨rfl, rfl⟩, ⟨.inl ⟨rfl, rfl⟩, ⟨.inl ⟨rfl, rfl⟩, trivial⟩⟩⟩ trivial fi_ trivial rfl) ?_
  intro k x0 x1 x5 hk H; rcases k with _ | k; exact none_elim H; rw [spec_l41Many.l0] at H; conv => whnf
  refine br_d H (fun c H => ?_) (fun c H => ?_)
  conv => whnf
  refine Nd.mk (by decide) ?_
  conv => whnf
  refine br_d H (fun c H => ?_) (fun c H => ?_)
  conv => whnf
  refine nd_ H (fun c H => ?_)
  conv => whnf
  refine cut_ 88 [(0, .str x0), (1, .int .i64 x1), (5, .str (x5 ++ x0))] [] rfl ⟨.inl rfl, ⟨.inl rfl, ⟨.inl rfl, trivial⟩⟩⟩ trivial ?_
  conv => whnf
  refine nd_ H (fun c H => ?_)
  conv => whnf
  refine cut_ 120 [(0, .str (x0 ++ x0)), (1, .int .i64 x1), (5, .str (x5 ++ x0))] [] rfl ⟨.inl rfl, ⟨.inl rfl, ⟨.inl rfl, trivial⟩⟩⟩ trivial ?_
  conv => whnf
  refine Nd.mk (by decide) ?_
  conv => whnf
  exact ⟨(k, x0 ++ x0, wrap64 (Int.tdiv x1 2), x5 ++ x0), [], ⟨H, lt_⟩, lt_, (fits_of ⟨.inl ⟨rfl, rfl⟩, ⟨.inl ⟨rfl, rfl⟩, ⟨.inl ⟨rfl, rfl⟩, trivial⟩⟩⟩ trivial fi_ trivial rfl)⟩
  conv => whnf
  refine cut_ 56 [(0, .str x0), (1, .int .i64 x1), (5, .str x5)] [] rfl ⟨.inl rfl, ⟨.inl rfl, ⟨.inl rfl, trivial⟩⟩⟩ trivial ?_
  conv => whnf
  refine nd_ H (fun c H => ?_)
  conv => whnf
  refine cut_ 88 [(0, .str (x0 ++ x0)), (1, .int .i64 x1), (5, .str x5)] [] rfl ⟨.inl rfl, ⟨.inl rfl, ⟨.inl rfl, trivial⟩⟩⟩ trivial ?_
  conv => whnf
  refine Nd.mk (by decide) ?_
  conv => whnf
  exact ⟨(k, x0 ++ x0, wrap64 (Int.tdiv x1 2), _), [], ⟨H, lt_⟩, lt_, (fits_of ⟨.inl ⟨rfl, rfl⟩, ⟨.inl ⟨rfl, rfl⟩, ⟨.inl ⟨rfl, rfl⟩, trivial⟩⟩⟩ trivial fi_ trivial rfl)⟩
  conv => whnf
  injection H with H; subst H
  exact ret_fz [] (rtA_eq rfl)
theorem spec_DrawRecParse.j0_sq {F : (Exit → St → Prop) → St → Prop} {hv : List Tmp} {K : St → Prop} {Q : Exit → St → Prop} {σ : St} {r : ByteArray} {KK : Nat}
    (h1 : F (fun e σ' => match e with | .normal => ∃ (y : Nat × (List Int) × Int × (List ByteArray)) (rn : List (Option Nat)), (spec_DrawRecParse.j0 y.1 y.2.2.2 y.2.1 y.2.2.1 = some r ∧ y.1 < KK) ∧ Fits σ σ' [16] [(4, (sv_str y.2.2.2))] [(16, .box [(sv_u8 y.2.1), .int .i64 y.2.2.1])] [] rn | e => Q e σ') σ)
    (h2 : ∀ (k : Nat) (x1016000 : List Int) (x1016001 : Int) (x4 : List ByteArray), k < KK → spec_DrawRecParse.j0 k x4 x1016000 x1016001 = some r → headN σ hv [16] [(4, (sv_str x4))] [(16, .box [(sv_u8 x1016000), .int .i64 x1016001])] [] K) : Sq F hv K Q σ := by
  unfold Sq
  refine ⟨Nat × (List Int) × Int × (List ByteArray), fun x => spec_DrawRecParse.j0 x.1 x.2.2.2 x.2.1 x.2.2.1 = some r ∧ x.1 < KK, [16], fun x => [(4, (sv_str x.2.2.2))], fun x => [(16, .box [(sv_u8 x.2.1), .int .i64 x.2.2.1])], fun x => [], h1, ?_⟩
  rintro ⟨k, x1016000, x1016001, x4⟩ ⟨H, hk⟩
  exact h2 k x1016000 x1016001 x4 hk H
theorem spec_DrawRecParse.ac {k : Nat} {l0 : List Int} {r : ByteArray} (H : spec_DrawRecParse.f k l0 = some r) : ACalls Tryd.prog G 31 [] [(sv_u8 l0)] [] (.str r) := by
  refine acalls_of tok hP Tryd.func31 rfl (by kernel_rfl) [.tmp 2] rfl (by kernel_rfl) (Nat.le_of_ble_eq_true rfl) (.l .n (.l .n (.l .n (.j (.c .n .n) (.l .n (.l (.c .n (.l (.c .n .n) .n)) (.l (.c .n (.l (.c .n .n) .n)) (.c .n .n)))))))) rfl ?_
  unfold spec_DrawRecParse.f at H
  conv => whnf
  revert H; refine bind_elim (fun t441 A H => ?_)
  refine call_mk (spec_l41Open.ac A) (avAL_cons (avA_shut' rfl) (avAL_nil)) (Or.inl rfl) rfl rfl (Nat.le_of_ble_eq_true rfl) ?_
  conv => whnf
  revert H; refine bind_elim (fun t443 A H => ?_)
  refine call_mk2 [16] (spec_l45Text.ac A) ⟨rfl, trivial⟩ rfl rfl rfl rfl rfl rfl rfl rfl ?_
  conv => whnf
  refine spec_DrawRecParse.j0_sq (KK := k + 1) (r := r) ?_ ?_
  conv => whnf
  revert H; refine bind_elim (fun t473 A H => ?_)
  refine call_mk2 [16] (spec_l41Rd_pick.ac A) ⟨rfl, trivial⟩ rfl rfl rfl rfl rfl rfl rfl rfl ?_
  conv => whnf
  refine cut_ 80 [(3, .bp 16 0), (4, (sv_str t443.1)), (12, .bool (decide (t473.1 = 0)))] [(16, .box [(sv_u8 t473.2.1), .int .i64 t473.2.2])] rfl ⟨.inl rfl, ⟨.inl rfl, ⟨.inl rfl, trivial⟩⟩⟩ ⟨rfl, trivial⟩ ?_
  conv => whnf
  refine br_d H (fun c H => ?_) (fun c H => ?_)
  conv => whnf
  revert H; refine bind_elim (fun t474 A H => ?_)
  refine call_mk2 [16] (spec_l45Fore.ac A) ⟨rfl, trivial⟩ rfl rfl rfl rfl rfl rfl rfl rfl ?_
  conv => whnf
  exact ⟨(k, t474.2.1, t474.2.2, t474.1), [], ⟨H, lt_⟩, (fits_of ⟨.inl ⟨rfl, rfl⟩, trivial⟩ trivial fi_ ⟨⟨_, rfl⟩, ⟨_, rfl, ⟨.inl ⟨rfl, rfl⟩, ⟨.inl ⟨rfl, rfl⟩, trivial⟩⟩⟩, trivial⟩ rfl)⟩
  conv => whnf
  exact ⟨(k, t473.2.1, t473.2.2, t443.1), [], ⟨H, lt_⟩, (fits_of ⟨.inl ⟨rfl, rfl⟩, trivial⟩ trivial fi_ ⟨⟨_, rfl⟩, ⟨_, rfl, ⟨.inl ⟨rfl, rfl⟩, ⟨.inl ⟨rfl, rfl⟩, trivial⟩⟩⟩, trivial⟩ rfl)⟩
  intro k x1016000 x1016001 x4 hk H; rcases k with _ | k; exact none_elim H; rw [spec_DrawRecParse.j0] at H; conv => whnf
  revert H; refine bind_elim (fun t467 A H => ?_)
  refine call_mk (spec_l45Lines.ac A) (avAL_cons (avA_shut' rfl) (avAL_nil)) (Or.inl rfl) rfl rfl (Nat.le_of_ble_eq_true rfl) ?_
  conv => whnf
  revert H; refine bind_elim (fun t468 A H => ?_)
  refine call_mk2 [16] (spec_l41Rd_pick.ac A) ⟨rfl, trivial⟩ rfl rfl rfl rfl rfl rfl rfl rfl ?_
  conv => whnf
  refine br_d H (fun c H => ?_) (fun c H => ?_)
  conv => whnf
  refine Br.t ft_ ?_
  conv => whnf
  refine Br.t ft_ ?_
  conv => whnf
  refine Br.t ft_ ?_
  conv => whnf
  refine cut_ 144 [(3, .bp 16 0), (5, .str t467), (25, .bool (decide ((t467.size : Int) < 4000)))] [(16, .box [(sv_u8 t468.2.1), .int .i64 t468.2.2])] rfl ⟨.inl rfl, ⟨.inl rfl, ⟨.inl rfl, trivial⟩⟩⟩ ⟨rfl, trivial⟩ ?_
  conv => whnf
  refine br_d H (fun c H => ?_) (fun c H => ?_)
  conv => whnf
  refine nd_ H (fun c H => ?_)
  conv => whnf
  revert H; refine bind_elim (fun t469 A H => ?_)
  refine call_mk2 [16] (spec_l41Rd_pick.ac A) ⟨rfl, trivial⟩ rfl rfl rfl rfl rfl rfl rfl rfl ?_
  conv => whnf
  revert H; refine bind_elim (fun t470 A H => ?_)
  refine call_mk (spec_l41Many.ac A) (avAL_cons (avA_shut' rfl) (avAL_cons (avA_shut' rfl) (avAL_nil))) (Or.inl rfl) rfl rfl (Nat.le_of_ble_eq_true rfl) ?_
  conv => whnf
  refine nd_ H (fun c H => ?_)
  conv => whnf
  refine cut_ 240 [(2, .str ((t467 ++ (⟨#[35]⟩ : ByteArray)) ++ t470))] [] rfl ⟨.inl rfl, trivial⟩ trivial ?_
  conv => whnf
  injection H with H; subst H
  exact ret_fz [] (rtA_eq rfl)
  conv => whnf
  revert H; refine bind_elim (fun t471 A H => ?_)
  refine call_mk2 [16] (spec_l41Rd_pick.ac A) ⟨rfl, trivial⟩ rfl rfl rfl rfl rfl rfl rfl rfl ?_
  conv => whnf
  refine br_d H (fun c H => ?_) (fun c H => ?_)
  conv => whnf
  refine Br.t ft_ ?_
  conv => whnf
  refine Br.t ft_ ?_
  conv => whnf
  refine Br.t ft_ ?_
  conv => whnf
  refine cut_ 208 [(5, .str t467), (44, .bool (decide ((t467.size : Int) > 0)))] [] rfl ⟨.inl rfl, ⟨.inl rfl, trivial⟩⟩ trivial ?_
  conv => whnf
  refine br_d H (fun c H => ?_) (fun c H => ?_)
  conv => whnf
  refine nd_ H (fun c H => ?_)
  conv => whnf
  refine nd_ H (fun c H => ?_)
  conv => whnf
  refine cut_ 256 [(2, .str (t467.extract 0 (wrap64 ((t467.size : Int) - 1)).toNat))] [] rfl ⟨.inl rfl, trivial⟩ trivial ?_
  conv => whnf
  injection H with H; subst H
  exact ret_fz [] (rtA_eq rfl)
  conv => whnf
  refine cut_ 224 [(2, .str t467)] [] rfl ⟨.inl rfl, trivial⟩ trivial ?_
  conv => whnf
  injection H with H; subst H
  exact ret_fz [] (rtA_eq rfl)
  conv => whnf
  refine Br.f ff_ ?_
  conv => whnf
  refine Br.f ff_ ?_
  conv => whnf
  refine Br.f ff_ ?_
  conv => whnf
  refine cut_ 208 [(5, .str t467), (44, .bool false)] [] rfl ⟨.inl rfl, ⟨.inl rfl, trivial⟩⟩ trivial ?_
  conv => whnf
  refine Br.f rfl ?_
  conv => whnf
  refine cut_ 224 [(2, .str t467)] [] rfl ⟨.inl rfl, trivial⟩ trivial ?_
  conv => whnf
  injection H with H; subst H
  exact ret_fz [] (rtA_eq rfl)
  conv => whnf
  refine Br.f ff_ ?_
  conv => whnf
  refine Br.f ff_ ?_
  conv => whnf
  refine Br.f ff_ ?_
  conv => whnf
  refine cut_ 144 [(3, .bp 16 0), (5, .str t467), (25, .bool false)] [(16, .box [(sv_u8 t468.2.1), .int .i64 t468.2.2])] rfl ⟨.inl rfl, ⟨.inl rfl, ⟨.inl rfl, trivial⟩⟩⟩ ⟨rfl, trivial⟩ ?_
  conv => whnf
  refine Br.f rfl ?_
  conv => whnf
  revert H; refine bind_elim (fun t472 A H => ?_)
  refine call_mk2 [16] (spec_l41Rd_pick.ac A) ⟨rfl, trivial⟩ rfl rfl rfl rfl rfl rfl rfl rfl ?_
  conv => whnf
  refine br_d H (fun c H => ?_) (fun c H => ?_)
  conv => whnf
  refine Br.t ft_ ?_
  conv => whnf
  refine Br.t ft_ ?_
  conv => whnf
  refine Br.t ft_ ?_
  conv => whnf
  refine cut_ 208 [(5, .str t467), (44, .bool (decide ((t467.size : Int) > 0)))] [] rfl ⟨.inl rfl, ⟨.inl rfl, trivial⟩⟩ trivial ?_
  conv => whnf
  refine br_d H (fun c H => ?_) (fun c H => ?_)
  conv => whnf
  refine nd_ H (fun c H => ?_)
  conv => whnf
  refine nd_ H (fun c H => ?_)
  conv => whnf
  refine cut_ 256 [(2, .str (t467.extract 0 (wrap64 ((t467.size : Int) - 1)).toNat))] [] rfl ⟨.inl rfl, trivial⟩ trivial ?_
  conv => whnf
  injection H with H; subst H
  exact ret_fz [] (rtA_eq rfl)
  conv => whnf
  refine cut_ 224 [(2, .str t467)] [] rfl ⟨.inl rfl, trivial⟩ trivial ?_
  conv => whnf
  injection H with H; subst H
  exact ret_fz [] (rtA_eq rfl)
  conv => whnf
  refine Br.f ff_ ?_
  conv => whnf
  refine Br.f ff_ ?_
  conv => whnf
  refine Br.f ff_ ?_
  conv => whnf
  refine cut_ 208 [(5, .str t467), (44, .bool false)] [] rfl ⟨.inl rfl, ⟨.inl rfl, trivial⟩⟩ trivial ?_
  conv => whnf
  refine Br.f rfl ?_
  conv => whnf
  refine cut_ 224 [(2, .str t467)] [] rfl ⟨.inl rfl, trivial⟩ trivial ?_
  conv => whnf
  injection H with H; subst H
  exact ret_fz [] (rtA_eq rfl)
end Go.Proofs.YteflhnpcgoijfaaDoor.RT
namespace Go.Proofs
open Go.Shelf Go.Sort Go.RowKit in
shelf_lay LaysM.n146 Nm 146 at Tryd as Tryd.gx146
end Go.Proofs
namespace Go.Proofs.YteflhnpcgoijfaaDoor.RT
open Go Go.Aw Go.RowKit Go.Proofs
set_option maxRecDepth 100000
set_option maxHeartbeats 40000000
variable {G : Nat → Option Obj}
attribute [local irreducible] callE Lp Sq Cut RetOk Fits
/-- what the package variables hold -/
class GvOk (G : Nat → Option Obj) : Prop where
  i : GInt G 0
  t : GArr G 1 (Lib.pow10Tab.map fun z => Value.int .u64 z).toArray
theorem strings_Split.ac [GvOk G] {s0 s1 : ByteArray} {r : List ByteArray} (H : strings_Split.f s0 s1 = some r) : ACalls Tryd.prog G 85 [] [.str s0, .str s1] [] (.sl 1 r.length (r.map en_str)) := by
  exact splitS_ac Tryd.gx146 ⟨_, Tryd.func85, by kernel_rfl, by kernel_rfl⟩ GvOk.i rfl rfl H (fun _ => rfl)
theorem impl_cutLines.ac [GvOk G] {a0 : ByteArray} {r : List ByteArray} (H : impl_cutLines.f a0 = some r) : ACalls Tryd.prog G 69 [] [.str a0] [] ((sv_str r)) := by
  refine acalls_of tok hP Tryd.func69 rfl (by kernel_rfl) [.tmp 2] rfl (by kernel_rfl) (Nat.le_of_ble_eq_true rfl) (.l .n (.l .n (.l (.c .n .n) .n))) rfl ?_
  unfold impl_cutLines.f at H
  conv => whnf
  revert H; refine bind_elim (fun t480 A H => ?_)
  refine call_mk (strings_Split.ac A) (avAL_cons (avA_shut' rfl) (avAL_cons (avA_shut' rfl) (avAL_nil))) (Or.inl rfl) rfl rfl (Nat.le_of_ble_eq_true rfl) ?_
  conv => whnf
  refine nd_ H (fun c H => ?_)
  conv => whnf
  refine nd_ H (fun c H => ?_)
  conv => whnf
  refine El.mk (rdm_en_str _ _ nf_ nf_) ?_
  conv => whnf
  refine cut_ 88 [(3, (sv_str t480)), (12, .bool (decide ((rdOf ByteArray.empty t480 (wrap64 ((t480.length : Int) - 1))).toList = (⟨#[]⟩ : ByteArray).toList)))] [] rfl ⟨.inl rfl, ⟨.inl rfl, trivial⟩⟩ trivial ?_
  conv => whnf
  refine br_d H (fun c H => ?_) (fun c H => ?_)
  conv => whnf
  refine Nd.mk nf_ ?_
  conv => whnf
  refine nd_ H (fun c H => ?_)
  conv => whnf
  injection H with H; subst H
  exact ret_fz [] (rtA_slD lm_ lm_)
  conv => whnf
  injection H with H; subst H
  exact ret_fz [] (rtA_eq rfl)
end Go.Proofs.YteflhnpcgoijfaaDoor.RT
namespace Go.Proofs
open Go.Shelf Go.Sort Go.RowKit in
shelf_lay LaysM.n145 Nm 145 at Tryd as Tryd.gx145
end Go.Proofs
namespace Go.Proofs.YteflhnpcgoijfaaDoor.RT
open Go Go.Aw Go.RowKit Go.Proofs
set_option maxRecDepth 100000
set_option maxHeartbeats 40000000
variable {G : Nat → Option Obj}
attribute [local irreducible] callE Lp Sq Cut RetOk Fits
theorem strings_Cut.ac [GvOk G] {s0 s1 : ByteArray} {r : ByteArray × ByteArray × Bool} (H : strings_Cut.f s0 s1 = some r) : ACalls Tryd.prog G 84 [] [.str s0, .str s1] [] (.tup [.str r.1, .str r.2.1, .bool r.2.2]) := by
  exact cutS_ac Tryd.gx145 ⟨_, Tryd.func84, by kernel_rfl, by kernel_rfl⟩ GvOk.i rfl rfl H
theorem impl_cutWords.l1_lp {F : (Exit → St → Prop) → St → Prop} {hv : List Tmp} {Q : Exit → St → Prop} {σ : St} {r : (List ByteArray) × Bool} {k : Nat} {t489 : List ByteArray} {x5 : List ByteArray} {x33 : Int} (H : impl_cutWords.l1 k x5 x33 t489 = some r) (rn : List (Option Nat)) (h1 : Fits σ σ [] [(5, .own 0 x5.length), (33, .int .i64 x33)] [] [.arr 9 1 (x5.map en_str)] rn)
    (h2 : ∀ (k0 : Nat) (x5 : List ByteArray) (x33 : Int), k0 < k + 1 → impl_cutWords.l1 k0 x5 x33 t489 = some r → headN σ hv [] [(5, .own 0 x5.length), (33, .int .i64 x33)] [] [.arr 9 1 (x5.map en_str)] (F (fun e σ' => match e with | .normal => ∃ (y : Nat × (List ByteArray) × Int) (rn : List (Option Nat)), (impl_cutWords.l1 y.1 y.2.1 y.2.2 t489 = some r ∧ y.1 < k + 1) ∧ y.1 < k0 ∧ Fits σ σ' [] [(5, .own 0 y.2.1.length), (33, .int .i64 y.2.2)] [] [.arr 9 1 (y.2.1.map en_str)] rn | e => Q e σ'))) : Lp F hv Q σ := by
  unfold Lp
  refine ⟨Nat × (List ByteArray) × Int, fun x => impl_cutWords.l1 x.1 x.2.1 x.2.2 t489 = some r ∧ x.1 < k + 1, fun x => x.1, [], fun x => [(5, .own 0 x.2.1.length), (33, .int .i64 x.2.2)], fun x => [], fun x => [.arr 9 1 (x.2.1.map en_str)], ⟨(k, x5, x33), rn, ⟨H, Nat.lt_succ_self _⟩, h1⟩, ?_⟩
  rintro ⟨k, x5, x33⟩ ⟨H, hk⟩
  exact h2 k x5 x33 hk H
theorem impl_cutWords.l0_lp {F : (Exit → St → Prop) → St → Prop} {hv : List Tmp} {Q : Exit → St → Prop} {σ : St} {r : (List ByteArray) × Bool} {k : Nat} {t486 : ByteArray × ByteArray × Bool} {x16 : Int} (H : impl_cutWords.l0 k x16 t486 = some r) (rn : List (Option Nat)) (h1 : Fits σ σ [] [(16, .int .i64 x16)] [] [] rn)
    (h2 : ∀ (k0 : Nat) (x16 : Int), k0 < k + 1 → impl_cutWords.l0 k0 x16 t486 = some r → headN σ hv [] [(16, .int .i64 x16)] [] [] (F (fun e σ' => match e with | .normal => ∃ (y : Nat × Int) (rn : List (Option Nat)), (impl_cutWords.l0 y.1 y.2 t486 = some r ∧ y.1 < k + 1) ∧ y.1 < k0 ∧ Fits σ σ' [] [(16, .int .i64 y.2)] [] [] rn | e => Q e σ'))) : Lp F hv Q σ := by
  unfold Lp
  refine ⟨Nat × Int, fun x => impl_cutWords.l0 x.1 x.2 t486 = some r ∧ x.1 < k + 1, fun x => x.1, [], fun x => [(16, .int .i64 x.2)], fun x => [], fun x => [], ⟨(k, x16), rn, ⟨H, Nat.lt_succ_self _⟩, h1⟩, ?_⟩
  rintro ⟨k, x16⟩ ⟨H, hk⟩
  exact h2 k x16 hk H
theorem impl_cutWords.ac [GvOk G] {k : Nat} {a0 : ByteArray} {r : (List ByteArray) × Bool} (H : impl_cutWords.f k a0 = some r) : ACalls Tryd.prog G 38 [] [.str a0] [] (.tup [(sv_str r.1), .bool r.2]) := by
  refine acalls_of tok hP Tryd.func38 rfl (by kernel_rfl) [.tmp 2, .tmp 3] rfl (by kernel_rfl) (Nat.le_of_ble_eq_true rfl) (.l .n (.l .n (.l (.c .n (.l .n (.l .n (.l (.l .n (.c .n (.l (.c .n .n) .n))) .n)))) (.l .n (.l (.l .n (.l .n (.l .n (.l (.c .n .n) .n)))) (.c .n .n)))))) rfl ?_
  unfold impl_cutWords.f at H
  conv => whnf
  revert H; refine bind_elim (fun t486 A H => ?_)
  refine call_mk (strings_Cut.ac A) (avAL_cons (avA_shut' rfl) (avAL_cons (avA_shut' rfl) (avAL_nil))) (Or.inl rfl) rfl rfl (Nat.le_of_ble_eq_true rfl) ?_
  conv => whnf
  refine cut_ 96 [(0, .str t486.1), (15, .int .i64 (t486.1.size : Int)), (16, .int .i64 0)] [] rfl ⟨.inl rfl, ⟨.inl rfl, ⟨.inl rfl, trivial⟩⟩⟩ trivial ?_
  conv => whnf
  refine impl_cutWords.l0_lp (t486 := t486) (k := k) H [] (fits_of ⟨.inl ⟨rfl, rfl⟩, trivial⟩ trivial fi_ trivial rfl) ?_
  intro k x16 hk H; rcases k with _ | k; exact none_elim H; rw [impl_cutWords.l0] at H; conv => whnf
  refine br_d H (fun c H => ?_) (fun c H => ?_)
  conv => whnf
  refine nd_ H (fun c H => ?_)
  conv => whnf
  refine Nd.mk nf_ ?_
  conv => whnf
  refine br_d H (fun c H => ?_) (fun c H => ?_)
  conv => whnf
  refine Br.t ft_ ?_
  conv => whnf
  refine Br.t ft_ ?_
  conv => whnf
  refine Br.t ft_ ?_
  conv => whnf
  refine Br.t ft_ ?_
  conv => whnf
  refine cut_ 200 [(0, .str t486.1), (15, .int .i64 (t486.1.size : Int)), (16, .int .i64 x16), (28, .bool true)] [] rfl ⟨.inl rfl, ⟨.inl rfl, ⟨.inl rfl, ⟨.inl rfl, trivial⟩⟩⟩⟩ trivial ?_
  conv => whnf
  refine Br.t rfl ?_
  conv => whnf
  refine cut_ 216 [(2, .nil), (3, .bool false)] [] rfl ⟨.inl rfl, ⟨.inl rfl, trivial⟩⟩ trivial ?_
  conv => whnf
  injection H with H; subst H
  exact ret_tup [] (rtAL_cons (rtA_nil) (rtAL_cons (rtA_eq rfl) (rtAL_nil)))
  conv => whnf
  refine Br.f ff_ ?_
  conv => whnf
  refine Br.f ff_ ?_
  conv => whnf
  refine Nd.mk nf_ ?_
  conv => whnf
  refine Nd.mk nf_ ?_
  conv => whnf
  refine Br.f ff_ ?_
  conv => whnf
  refine Br.f ff_ ?_
  conv => whnf
  refine cut_ 200 [(0, .str t486.1), (15, .int .i64 (t486.1.size : Int)), (16, .int .i64 x16), (28, .bool (decide ((bt t486.1 x16) > 126)))] [] rfl ⟨.inl rfl, ⟨.inl rfl, ⟨.inl rfl, ⟨.inl rfl, trivial⟩⟩⟩⟩ trivial ?_
  conv => whnf
  refine br_d H (fun c H => ?_) (fun c H => ?_)
  conv => whnf
  refine cut_ 216 [(2, .nil), (3, .bool false)] [] rfl ⟨.inl rfl, ⟨.inl rfl, trivial⟩⟩ trivial ?_
  conv => whnf
  injection H with H; subst H
  exact ret_tup [] (rtAL_cons (rtA_nil) (rtAL_cons (rtA_eq rfl) (rtAL_nil)))
  conv => whnf
  exact ⟨(k, wrap64 (x16 + 1)), [], ⟨H, lt_⟩, lt_, (fits_of ⟨.inl ⟨rfl, rfl⟩, trivial⟩ trivial fi_ trivial rfl)⟩
  conv => whnf
  revert H; refine bind_elim (fun t489 A H => ?_)
  refine call_mk (strings_Split.ac A) (avAL_cons (avA_shut' rfl) (avAL_cons (avA_shut' rfl) (avAL_nil))) (Or.inl rfl) rfl rfl (Nat.le_of_ble_eq_true rfl) ?_
  conv => whnf
  refine impl_cutWords.l1_lp (t489 := t489) (k := k) H [none] (fits_of ⟨⟨rfl, rfl⟩, ⟨.inl ⟨rfl, rfl⟩, trivial⟩⟩ ⟨⟨_, _, rfl⟩, trivial⟩ fi_ trivial rfl) ?_
  intro k x5 x33 hk H; rcases k with _ | k; exact none_elim H; rw [impl_cutWords.l1] at H; conv => whnf
  refine br_d H (fun c H => ?_) (fun c H => ?_)
  conv => whnf
  refine nd_ H (fun c H => ?_)
  conv => whnf
  refine Nd.mk nf_ ?_
  conv => whnf
  refine El.mk (rdm_en_str _ _ nf_ nf_) ?_
  conv => whnf
  refine cut_ 177 [(5, .own 144 x5.length), (7, .str (rdOf ByteArray.empty t489 x33)), (31, (sv_str t489)), (32, .int .i64 (t489.length : Int)), (33, .int .i64 x33)] [(144, .arr 9 1 (x5.map en_str))] rfl ⟨.inl rfl, ⟨.inl rfl, ⟨.inl rfl, ⟨.inl rfl, ⟨.inl rfl, trivial⟩⟩⟩⟩⟩ ⟨rfl, trivial⟩ ?_
  conv => whnf
  refine br_d H (fun c H => ?_) (fun c H => ?_)
  conv => whnf
  exact ⟨(k, x5, wrap64 (x33 + 1)), [some 144], ⟨H, lt_⟩, lt_, (fits_of ⟨rfl, ⟨.inl ⟨rfl, rfl⟩, trivial⟩⟩ ⟨rfl, trivial⟩ fi_ trivial rfl)⟩
  conv => whnf
  refine br_d H (fun c H => ?_) (fun c H => ?_)
  conv => whnf
  injection H with H; subst H
  exact ret_tup [] (rtAL_cons (rtA_nil) (rtAL_cons (rtA_eq rfl) (rtAL_nil)))
  conv => whnf
  refine Or.inl ?_
  conv => whnf
  refine nd_ H (fun c H => ?_)
  conv => whnf
  exact ⟨(k, (x5 ++ ([rdOf ByteArray.empty t489 x33] : List ByteArray)), wrap64 (x33 + 1)), [some 241], ⟨H, lt_⟩, lt_, (fits_of ⟨mt_own lm_, ⟨.inl ⟨rfl, rfl⟩, trivial⟩⟩ ⟨fm_, trivial⟩ fi_ trivial rfl)⟩
  conv => whnf
  refine cut_ 177 [(2, .own 144 x5.length), (3, .bool true)] [(144, .arr 9 1 (x5.map en_str))] rfl ⟨.inl rfl, ⟨.inl rfl, trivial⟩⟩ ⟨rfl, trivial⟩ ?_
  conv => whnf
  injection H with H; subst H
  exact ret_tup [144] (rtAL_cons (rtA_fz' rfl rfl) (rtAL_cons (rtA_eq rfl) (rtAL_nil)))
theorem impl_phaseOf_1.ac {a0_0 : List ByteArray} {r : ByteArray × (List ByteArray)} (H : impl_phaseOf_1.f a0_0 = some r) : ACalls Tryd.prog G 107 [.box [(sv_str a0_0)]] [.bp 0 0] [.box [(sv_str r.2)]] (.str r.1) := by
  refine acalls_of tok hP Tryd.func107 rfl (by kernel_rfl) [.tmp 1] rfl (by kernel_rfl) (Nat.le_of_ble_eq_true rfl) (.l .n (.l .n (.l .n (.c .n .n)))) rfl ?_
  unfold impl_phaseOf_1.f at H
  conv => whnf
  refine br_d H (fun c H => ?_) (fun c H => ?_)
  conv => whnf
  injection H with H; subst H
  exact ret_gen [some 0] [] ((rtA_eq rfl)) ⟨rfl, trivial⟩ rfl
  conv => whnf
  refine Nd.mk (by decide) ?_
  conv => whnf
  refine nd_ H (fun c H => ?_)
  conv => whnf
  refine El.mk (rdm_en_str _ _ nf_ nf_) ?_
  conv => whnf
  refine Nd.mk (by decide) ?_
  conv => whnf
  refine nd_ H (fun c H => ?_)
  conv => whnf
  refine cut_ 89 [(2, .str (rdOf ByteArray.empty a0_0 0))] [(0, .box [.sl 1 (a0_0.length - (1 : Int).toNat) ((a0_0.drop (1 : Int).toNat).map en_str)])] rfl ⟨.inl rfl, trivial⟩ ⟨bx_eq rfl ⟨sl_e rfl lm_ lm_, trivial⟩, trivial⟩ ?_
  conv => whnf
  injection H with H; subst H
  exact ret_gen [some 0] [] ((rtA_eq rfl)) ⟨bx_eq rfl ⟨sl_e rfl lm_ lm_, trivial⟩, trivial⟩ rfl
theorem impl_decimal.l0_lp {F : (Exit → St → Prop) → St → Prop} {hv : List Tmp} {Q : Exit → St → Prop} {σ : St} {r : Int × Bool} {k : Nat} {a0 : ByteArray} {x4 : Int} {x26 : Int} (H : impl_decimal.l0 k a0 x4 x26 = some r) (rn : List (Option Nat)) (h1 : Fits σ σ [] [(4, .int .i64 x4), (26, .int .i64 x26)] [] [] rn)
    (h2 : ∀ (k0 : Nat) (x4 : Int) (x26 : Int), k0 < k + 1 → impl_decimal.l0 k0 a0 x4 x26 = some r → headN σ hv [] [(4, .int .i64 x4), (26, .int .i64 x26)] [] [] (F (fun e σ' => match e with | .normal => ∃ (y : Nat × Int × Int) (rn : List (Option Nat)), (impl_decimal.l0 y.1 a0 y.2.1 y.2.2 = some r ∧ y.1 < k + 1) ∧ y.1 < k0 ∧ Fits σ σ' [] [(4, .int .i64 y.2.1), (26, .int .i64 y.2.2)] [] [] rn | e => Q e σ'))) : Lp F hv Q σ := by
  unfold Lp
  refine ⟨Nat × Int × Int, fun x => impl_decimal.l0 x.1 a0 x.2.1 x.2.2 = some r ∧ x.1 < k + 1, fun x => x.1, [], fun x => [(4, .int .i64 x.2.1), (26, .int .i64 x.2.2)], fun x => [], fun x => [], ⟨(k, x4, x26), rn, ⟨H, Nat.lt_succ_self _⟩, h1⟩, ?_⟩
  rintro ⟨k, x4, x26⟩ ⟨H, hk⟩
  exact h2 k x4 x26 hk H
theorem impl_decimal.l1_lp {F : (Exit → St → Prop) → St → Prop} {hv : List Tmp} {Q : Exit → St → Prop} {σ : St} {r : Int × Bool} {k : Nat} {a0 : ByteArray} {x4_1 : Int} {x26_1 : Int} (H : impl_decimal.l1 k a0 x4_1 x26_1 = some r) (rn : List (Option Nat)) (h1 : Fits σ σ [] [(4, .int .i64 x4_1), (26, .int .i64 x26_1)] [] [] rn)
    (h2 : ∀ (k0 : Nat) (x4_1 : Int) (x26_1 : Int), k0 < k + 1 → impl_decimal.l1 k0 a0 x4_1 x26_1 = some r → headN σ hv [] [(4, .int .i64 x4_1), (26, .int .i64 x26_1)] [] [] (F (fun e σ' => match e with | .normal => ∃ (y : Nat × Int × Int) (rn : List (Option Nat)), (impl_decimal.l1 y.1 a0 y.2.1 y.2.2 = some r ∧ y.1 < k + 1) ∧ y.1 < k0 ∧ Fits σ σ' [] [(4, .int .i64 y.2.1), (26, .int .i64 y.2.2)] [] [] rn | e => Q e σ'))) : Lp F hv Q σ := by
  unfold Lp
  refine ⟨Nat × Int × Int, fun x => impl_decimal.l1 x.1 a0 x.2.1 x.2.2 = some r ∧ x.1 < k + 1, fun x => x.1, [], fun x => [(4, .int .i64 x.2.1), (26, .int .i64 x.2.2)], fun x => [], fun x => [], ⟨(k, x4_1, x26_1), rn, ⟨H, Nat.lt_succ_self _⟩, h1⟩, ?_⟩
  rintro ⟨k, x4_1, x26_1⟩ ⟨H, hk⟩
  exact h2 k x4_1 x26_1 hk H
theorem impl_decimal.ac {k : Nat} {a0 : ByteArray} {r : Int × Bool} (H : impl_decimal.f k a0 = some r) : ACalls Tryd.prog G 108 [] [.str a0] [] (.tup [.int .i64 r.1, .bool r.2]) := by
  refine acalls_of tok hP Tryd.func108 rfl (by kernel_rfl) [.tmp 2, .tmp 3] rfl (by kernel_rfl) (Nat.le_of_ble_eq_true rfl) (.l .n (.l (.c .n (.l (.c .n .n) .n)) (.l .n (.l (.l .n (.l .n (.l .n (.l (.l .n (.l (.c .n (.l (.c .n .n) .n)) .n)) .n)))) .n)))) rfl ?_
  unfold impl_decimal.f at H
  conv => whnf
  refine br_d H (fun c H => ?_) (fun c H => ?_)
  conv => whnf
  refine Br.t ft_ ?_
  conv => whnf
  refine Br.t ft_ ?_
  conv => whnf
  refine Br.t ft_ ?_
  conv => whnf
  refine Br.t rfl ?_
  conv => whnf
  refine Br.t rfl ?_
  conv => whnf
  refine Br.t rfl ?_
  conv => whnf
  refine Br.t rfl ?_
  conv => whnf
  refine Br.t rfl ?_
  conv => whnf
  refine Br.t rfl ?_
  conv => whnf
  refine cut_ 160 [(0, .str a0), (23, .bool true)] [] rfl ⟨.inl rfl, ⟨.inl rfl, trivial⟩⟩ trivial ?_
  conv => whnf
  refine Br.t rfl ?_
  conv => whnf
  refine cut_ 176 [(2, .int .i64 0), (3, .bool false)] [] rfl ⟨.inl rfl, ⟨.inl rfl, trivial⟩⟩ trivial ?_
  conv => whnf
  injection H with H; subst H
  exact ret_tup [] (rtAL_cons (rtA_eq rfl) (rtAL_cons (rtA_eq rfl) (rtAL_nil)))
  conv => whnf
  refine Br.f ff_ ?_
  conv => whnf
  refine Br.f ff_ ?_
  conv => whnf
  refine Br.f ff_ ?_
  conv => whnf
  refine br_d H (fun c H => ?_) (fun c H => ?_)
  conv => whnf
  refine Br.t ft_ ?_
  conv => whnf
  refine Br.t ft_ ?_
  conv => whnf
  refine Br.t ft_ ?_
  conv => whnf
  refine Br.t ft_ ?_
  conv => whnf
  refine Br.t ft_ ?_
  conv => whnf
  refine cut_ 160 [(0, .str a0), (23, .bool true)] [] rfl ⟨.inl rfl, ⟨.inl rfl, trivial⟩⟩ trivial ?_
  conv => whnf
  refine Br.t rfl ?_
  conv => whnf
  refine cut_ 176 [(2, .int .i64 0), (3, .bool false)] [] rfl ⟨.inl rfl, ⟨.inl rfl, trivial⟩⟩ trivial ?_
  conv => whnf
  injection H with H; subst H
  exact ret_tup [] (rtAL_cons (rtA_eq rfl) (rtAL_cons (rtA_eq rfl) (rtAL_nil)))
  conv => whnf
  refine Br.f ff_ ?_
  conv => whnf
  refine Br.f ff_ ?_
  conv => whnf
  refine Br.f ff_ ?_
  conv => whnf
  refine br_d H (fun c H => ?_) (fun c H => ?_)
  conv => whnf
  refine Br.t ft_ ?_
  conv => whnf
  refine Nd.mk (by decide) ?_
  conv => whnf
  refine nd_ H (fun c H => ?_)
  conv => whnf
  refine Br.t ft_ ?_
  conv => whnf
  refine Br.f ff_ ?_
  conv => whnf
  refine Br.t ft_ ?_
  conv => whnf
  refine Br.f ff_ ?_
  conv => whnf
  refine cut_ 160 [(0, .str a0), (23, .bool (decide ((bt a0 0) = 48)))] [] rfl ⟨.inl rfl, ⟨.inl rfl, trivial⟩⟩ trivial ?_
  conv => whnf
  refine br_d H (fun c H => ?_) (fun c H => ?_)
  conv => whnf
  refine cut_ 176 [(2, .int .i64 0), (3, .bool false)] [] rfl ⟨.inl rfl, ⟨.inl rfl, trivial⟩⟩ trivial ?_
  conv => whnf
  injection H with H; subst H
  exact ret_tup [] (rtAL_cons (rtA_eq rfl) (rtAL_cons (rtA_eq rfl) (rtAL_nil)))
  conv => whnf
  refine impl_decimal.l0_lp (a0 := a0) (k := k) H [] (fits_of ⟨.inl ⟨rfl, rfl⟩, ⟨.inl ⟨rfl, rfl⟩, trivial⟩⟩ trivial fi_ trivial rfl) ?_
  intro k x4 x26 hk H; rcases k with _ | k; exact none_elim H; rw [impl_decimal.l0] at H; conv => whnf
  refine br_d H (fun c H => ?_) (fun c H => ?_)
  conv => whnf
  refine nd_ H (fun c H => ?_)
  conv => whnf
  refine Nd.mk nf_ ?_
  conv => whnf
  refine br_d H (fun c H => ?_) (fun c H => ?_)
  conv => whnf
  refine Br.t ft_ ?_
  conv => whnf
  refine Br.t ft_ ?_
  conv => whnf
  refine Br.t ft_ ?_
  conv => whnf
  refine Br.t ft_ ?_
  conv => whnf
  refine cut_ 296 [(0, .str a0), (4, .int .i64 x4), (5, .int .i64 x26), (25, .int .i64 (a0.size : Int)), (26, .int .i64 x26), (38, .bool true)] [] rfl ⟨.inl rfl, ⟨.inl rfl, ⟨.inl rfl, ⟨.inl rfl, ⟨.inl rfl, ⟨.inl rfl, trivial⟩⟩⟩⟩⟩⟩ trivial ?_
  conv => whnf
  refine Br.t rfl ?_
  conv => whnf
  refine cut_ 312 [(2, .int .i64 0), (3, .bool false)] [] rfl ⟨.inl rfl, ⟨.inl rfl, trivial⟩⟩ trivial ?_
  conv => whnf
  injection H with H; subst H
  exact ret_tup [] (rtAL_cons (rtA_eq rfl) (rtAL_cons (rtA_eq rfl) (rtAL_nil)))
  conv => whnf
  refine Br.f ff_ ?_
  conv => whnf
  refine Br.f ff_ ?_
  conv => whnf
  refine Nd.mk nf_ ?_
  conv => whnf
  refine Nd.mk nf_ ?_
  conv => whnf
  refine Br.f ff_ ?_
  conv => whnf
  refine Br.f ff_ ?_
  conv => whnf
  refine cut_ 296 [(0, .str a0), (4, .int .i64 x4), (5, .int .i64 x26), (25, .int .i64 (a0.size : Int)), (26, .int .i64 x26), (38, .bool (decide ((bt a0 x26) > 57)))] [] rfl ⟨.inl rfl, ⟨.inl rfl, ⟨.inl rfl, ⟨.inl rfl, ⟨.inl rfl, ⟨.inl rfl, trivial⟩⟩⟩⟩⟩⟩ trivial ?_
  conv => whnf
  refine br_d H (fun c H => ?_) (fun c H => ?_)
  conv => whnf
  refine cut_ 312 [(2, .int .i64 0), (3, .bool false)] [] rfl ⟨.inl rfl, ⟨.inl rfl, trivial⟩⟩ trivial ?_
  conv => whnf
  injection H with H; subst H
  exact ret_tup [] (rtAL_cons (rtA_eq rfl) (rtAL_cons (rtA_eq rfl) (rtAL_nil)))
  conv => whnf
  refine Nd.mk nf_ ?_
  conv => whnf
  refine Nd.mk nf_ ?_
  conv => whnf
  exact ⟨(k, wrap64 ((wrap64 (10 * x4)) + (wrap64 (IntKind.wrap .u8 ((bt a0 x26) - 48)))), wrap64 (x26 + 1)), [], ⟨H, lt_⟩, lt_, (fits_of ⟨.inl ⟨rfl, rfl⟩, ⟨.inl ⟨rfl, rfl⟩, trivial⟩⟩ trivial fi_ trivial rfl)⟩
  conv => whnf
  injection H with H; subst H
  exact ret_tup [] (rtAL_cons (rtA_eq rfl) (rtAL_cons (rtA_eq rfl) (rtAL_nil)))
  conv => whnf
  refine Br.f ff_ ?_
  conv => whnf
  refine Br.f ff_ ?_
  conv => whnf
  refine Br.f ff_ ?_
  conv => whnf
  refine Br.f ff_ ?_
  conv => whnf
  refine Br.f ff_ ?_
  conv => whnf
  refine cut_ 160 [(0, .str a0), (23, .bool false)] [] rfl ⟨.inl rfl, ⟨.inl rfl, trivial⟩⟩ trivial ?_
  conv => whnf
  refine Br.f rfl ?_
  conv => whnf
  refine impl_decimal.l1_lp (a0 := a0) (k := k) H [] (fits_of ⟨.inl ⟨rfl, rfl⟩, ⟨.inl ⟨rfl, rfl⟩, trivial⟩⟩ trivial fi_ trivial rfl) ?_
  intro k x4_1 x26_1 hk H; rcases k with _ | k; exact none_elim H; rw [impl_decimal.l1] at H; conv => whnf
  refine br_d H (fun c H => ?_) (fun c H => ?_)
  conv => whnf
  refine nd_ H (fun c H => ?_)
  conv => whnf
  refine Nd.mk nf_ ?_
  conv => whnf
  refine br_d H (fun c H => ?_) (fun c H => ?_)
  conv => whnf
  refine Br.t ft_ ?_
  conv => whnf
  refine Br.t ft_ ?_
  conv => whnf
  refine Br.t ft_ ?_
  conv => whnf
  refine Br.t ft_ ?_
  conv => whnf
  refine cut_ 296 [(0, .str a0), (4, .int .i64 x4_1), (5, .int .i64 x26_1), (25, .int .i64 (a0.size : Int)), (26, .int .i64 x26_1), (38, .bool true)] [] rfl ⟨.inl rfl, ⟨.inl rfl, ⟨.inl rfl, ⟨.inl rfl, ⟨.inl rfl, ⟨.inl rfl, trivial⟩⟩⟩⟩⟩⟩ trivial ?_
  conv => whnf
  refine Br.t rfl ?_
  conv => whnf
  refine cut_ 312 [(2, .int .i64 0), (3, .bool false)] [] rfl ⟨.inl rfl, ⟨.inl rfl, trivial⟩⟩ trivial ?_
  conv => whnf
  injection H with H; subst H
  exact ret_tup [] (rtAL_cons (rtA_eq rfl) (rtAL_cons (rtA_eq rfl) (rtAL_nil)))
  conv => whnf
  refine Br.f ff_ ?_
  conv => whnf
  refine Br.f ff_ ?_
  conv => whnf
  refine Nd.mk nf_ ?_
  conv => whnf
  refine Nd.mk nf_ ?_
  conv => whnf
  refine Br.f ff_ ?_
  conv => whnf
  refine Br.f ff_ ?_
  conv => whnf
  refine cut_ 296 [(0, .str a0), (4, .int .i64 x4_1), (5, .int .i64 x26_1), (25, .int .i64 (a0.size : Int)), (26, .int .i64 x26_1), (38, .bool (decide ((bt a0 x26_1) > 57)))] [] rfl ⟨.inl rfl, ⟨.inl rfl, ⟨.inl rfl, ⟨.inl rfl, ⟨.inl rfl, ⟨.inl rfl, trivial⟩⟩⟩⟩⟩⟩ trivial ?_
  conv => whnf
  refine br_d H (fun c H => ?_) (fun c H => ?_)
  conv => whnf
  refine cut_ 312 [(2, .int .i64 0), (3, .bool false)] [] rfl ⟨.inl rfl, ⟨.inl rfl, trivial⟩⟩ trivial ?_
  conv => whnf
  injection H with H; subst H
  exact ret_tup [] (rtAL_cons (rtA_eq rfl) (rtAL_cons (rtA_eq rfl) (rtAL_nil)))
  conv => whnf
  refine Nd.mk nf_ ?_
  conv => whnf
  refine Nd.mk nf_ ?_
  conv => whnf
  exact ⟨(k, wrap64 ((wrap64 (10 * x4_1)) + (wrap64 (IntKind.wrap .u8 ((bt a0 x26_1) - 48)))), wrap64 (x26_1 + 1)), [], ⟨H, lt_⟩, lt_, (fits_of ⟨.inl ⟨rfl, rfl⟩, ⟨.inl ⟨rfl, rfl⟩, trivial⟩⟩ trivial fi_ trivial rfl)⟩
  conv => whnf
  injection H with H; subst H
  exact ret_tup [] (rtAL_cons (rtA_eq rfl) (rtAL_cons (rtA_eq rfl) (rtAL_nil)))
theorem impl_isName.l0_lp {F : (Exit → St → Prop) → St → Prop} {hv : List Tmp} {Q : Exit → St → Prop} {σ : St} {r : Bool} {k : Nat} {a0 : ByteArray} {x7 : Int} (H : impl_isName.l0 k a0 x7 = some r) (rn : List (Option Nat)) (h1 : Fits σ σ [] [(7, .int .i64 x7)] [] [] rn)
    (h2 : ∀ (k0 : Nat) (x7 : Int), k0 < k + 1 → impl_isName.l0 k0 a0 x7 = some r → headN σ hv [] [(7, .int .i64 x7)] [] [] (F (fun e σ' => match e with | .normal => ∃ (y : Nat × Int) (rn : List (Option Nat)), (impl_isName.l0 y.1 a0 y.2 = some r ∧ y.1 < k + 1) ∧ y.1 < k0 ∧ Fits σ σ' [] [(7, .int .i64 y.2)] [] [] rn | e => Q e σ'))) : Lp F hv Q σ := by
  unfold Lp
  refine ⟨Nat × Int, fun x => impl_isName.l0 x.1 a0 x.2 = some r ∧ x.1 < k + 1, fun x => x.1, [], fun x => [(7, .int .i64 x.2)], fun x => [], fun x => [], ⟨(k, x7), rn, ⟨H, Nat.lt_succ_self _⟩, h1⟩, ?_⟩
  rintro ⟨k, x7⟩ ⟨H, hk⟩
  exact h2 k x7 hk H
theorem impl_isName.ac {k : Nat} {a0 : ByteArray} {r : Bool} (H : impl_isName.f k a0 = some r) : ACalls Tryd.prog G 100 [] [.str a0] [] (.bool r) := by
  refine acalls_of tok hP Tryd.func100 rfl (by kernel_rfl) [.tmp 2] rfl (by kernel_rfl) (Nat.le_of_ble_eq_true rfl) (.l .n (.l (.l .n (.l .n (.l .n (.l (.l .n (.c .n (.c .n (.l (.c .n .n) .n)))) .n)))) (.c .n .n))) rfl ?_
  unfold impl_isName.f at H
  conv => whnf
  refine impl_isName.l0_lp (a0 := a0) (k := k) H [] (fits_of ⟨.inl ⟨rfl, rfl⟩, trivial⟩ trivial fi_ trivial rfl) ?_
  intro k x7 hk H; rcases k with _ | k; exact none_elim H; rw [impl_isName.l0] at H; conv => whnf
  refine br_d H (fun c H => ?_) (fun c H => ?_)
  conv => whnf
  refine nd_ H (fun c H => ?_)
  conv => whnf
  refine Nd.mk nf_ ?_
  conv => whnf
  refine cut_ 88 [(0, .str a0), (4, .int .u8 (bt a0 x7)), (6, .int .i64 (a0.size : Int)), (7, .int .i64 x7)] [] rfl ⟨.inl rfl, ⟨.inl rfl, ⟨.inl rfl, ⟨.inl rfl, trivial⟩⟩⟩⟩ trivial ?_
  conv => whnf
  refine br_d H (fun c H => ?_) (fun c H => ?_)
  conv => whnf
  refine Br.t ft_ ?_
  conv => whnf
  refine Br.t ft_ ?_
  conv => whnf
  refine Br.t rfl ?_
  conv => whnf
  refine Br.t rfl ?_
  conv => whnf
  refine Br.t rfl ?_
  conv => whnf
  refine br_d H (fun c H => ?_) (fun c H => ?_)
  conv => whnf
  refine Br.t ft_ ?_
  conv => whnf
  refine Br.t rfl ?_
  conv => whnf
  refine Br.t ft_ ?_
  conv => whnf
  refine Br.t rfl ?_
  conv => whnf
  refine Br.t rfl ?_
  conv => whnf
  refine Br.t rfl ?_
  conv => whnf
  refine Br.t rfl ?_
  conv => whnf
  refine cut_ 232 [(0, .str a0), (6, .int .i64 (a0.size : Int)), (7, .int .i64 x7), (30, .bool (!(decide ((bt a0 x7) = 45))))] [] rfl ⟨.inl rfl, ⟨.inl rfl, ⟨.inl rfl, ⟨.inl rfl, trivial⟩⟩⟩⟩ trivial ?_
  conv => whnf
  refine br_nd H (fun c H => ?_) (fun c H => ?_)
  conv => whnf
  exact ⟨(k, wrap64 (x7 + 1)), [], ⟨H, lt_⟩, lt_, (fits_of ⟨.inl ⟨rfl, rfl⟩, trivial⟩ trivial fi_ trivial rfl)⟩
  conv => whnf
  refine cut_ 240 [(2, .bool false)] [] rfl ⟨.inl rfl, trivial⟩ trivial ?_
  conv => whnf
  injection H with H; subst H
  exact ret_fz [] (rtA_eq rfl)
  conv => whnf
  refine Br.f ff_ ?_
  conv => whnf
  refine Br.t rfl ?_
  conv => whnf
  refine Br.f ff_ ?_
  conv => whnf
  refine Br.t rfl ?_
  conv => whnf
  refine br_d H (fun c H => ?_) (fun c H => ?_)
  conv => whnf
  refine Br.t ft_ ?_
  conv => whnf
  refine Br.t ft_ ?_
  conv => whnf
  refine cut_ 232 [(0, .str a0), (6, .int .i64 (a0.size : Int)), (7, .int .i64 x7), (30, .bool (!(decide ((bt a0 x7) = 45))))] [] rfl ⟨.inl rfl, ⟨.inl rfl, ⟨.inl rfl, ⟨.inl rfl, trivial⟩⟩⟩⟩ trivial ?_
  conv => whnf
  refine br_nd H (fun c H => ?_) (fun c H => ?_)
  conv => whnf
  exact ⟨(k, wrap64 (x7 + 1)), [], ⟨H, lt_⟩, lt_, (fits_of ⟨.inl ⟨rfl, rfl⟩, trivial⟩ trivial fi_ trivial rfl)⟩
  conv => whnf
  refine cut_ 240 [(2, .bool false)] [] rfl ⟨.inl rfl, trivial⟩ trivial ?_
  conv => whnf
  injection H with H; subst H
  exact ret_fz [] (rtA_eq rfl)
  conv => whnf
  refine Br.f ff_ ?_
  conv => whnf
  refine Br.f ff_ ?_
  conv => whnf
  refine cut_ 232 [(0, .str a0), (6, .int .i64 (a0.size : Int)), (7, .int .i64 x7), (30, .bool false)] [] rfl ⟨.inl rfl, ⟨.inl rfl, ⟨.inl rfl, ⟨.inl rfl, trivial⟩⟩⟩⟩ trivial ?_
  conv => whnf
  refine Br.f rfl ?_
  conv => whnf
  exact ⟨(k, wrap64 (x7 + 1)), [], ⟨H, lt_⟩, lt_, (fits_of ⟨.inl ⟨rfl, rfl⟩, trivial⟩ trivial fi_ trivial rfl)⟩
  conv => whnf
  refine Br.f ff_ ?_
  conv => whnf
  refine Br.f ff_ ?_
  conv => whnf
  refine br_d H (fun c H => ?_) (fun c H => ?_)
  conv => whnf
  refine Br.t ft_ ?_
  conv => whnf
  refine Br.t ft_ ?_
  conv => whnf
  refine br_d H (fun c H => ?_) (fun c H => ?_)
  conv => whnf
  refine Br.t ft_ ?_
  conv => whnf
  refine Br.t ft_ ?_
  conv => whnf
  refine Br.t ft_ ?_
  conv => whnf
  refine Br.t ft_ ?_
  conv => whnf
  refine Br.t rfl ?_
  conv => whnf
  refine Br.t rfl ?_
  conv => whnf
  refine Br.t rfl ?_
  conv => whnf
  refine cut_ 232 [(0, .str a0), (6, .int .i64 (a0.size : Int)), (7, .int .i64 x7), (30, .bool (!(decide ((bt a0 x7) = 45))))] [] rfl ⟨.inl rfl, ⟨.inl rfl, ⟨.inl rfl, ⟨.inl rfl, trivial⟩⟩⟩⟩ trivial ?_
  conv => whnf
  refine br_nd H (fun c H => ?_) (fun c H => ?_)
  conv => whnf
  exact ⟨(k, wrap64 (x7 + 1)), [], ⟨H, lt_⟩, lt_, (fits_of ⟨.inl ⟨rfl, rfl⟩, trivial⟩ trivial fi_ trivial rfl)⟩
  conv => whnf
  refine cut_ 240 [(2, .bool false)] [] rfl ⟨.inl rfl, trivial⟩ trivial ?_
  conv => whnf
  injection H with H; subst H
  exact ret_fz [] (rtA_eq rfl)
  conv => whnf
  refine Br.f ff_ ?_
  conv => whnf
  refine Br.t ft_ ?_
  conv => whnf
  refine Br.f ff_ ?_
  conv => whnf
  refine Br.t ft_ ?_
  conv => whnf
  refine br_d H (fun c H => ?_) (fun c H => ?_)
  conv => whnf
  refine Br.t ft_ ?_
  conv => whnf
  refine Br.t ft_ ?_
  conv => whnf
  refine cut_ 232 [(0, .str a0), (6, .int .i64 (a0.size : Int)), (7, .int .i64 x7), (30, .bool (!(decide ((bt a0 x7) = 45))))] [] rfl ⟨.inl rfl, ⟨.inl rfl, ⟨.inl rfl, ⟨.inl rfl, trivial⟩⟩⟩⟩ trivial ?_
  conv => whnf
  refine br_nd H (fun c H => ?_) (fun c H => ?_)
  conv => whnf
  exact ⟨(k, wrap64 (x7 + 1)), [], ⟨H, lt_⟩, lt_, (fits_of ⟨.inl ⟨rfl, rfl⟩, trivial⟩ trivial fi_ trivial rfl)⟩
  conv => whnf
  refine cut_ 240 [(2, .bool false)] [] rfl ⟨.inl rfl, trivial⟩ trivial ?_
  conv => whnf
  injection H with H; subst H
  exact ret_fz [] (rtA_eq rfl)
  conv => whnf
  refine Br.f ff_ ?_
  conv => whnf
  refine Br.f ff_ ?_
  conv => whnf
  refine cut_ 232 [(0, .str a0), (6, .int .i64 (a0.size : Int)), (7, .int .i64 x7), (30, .bool false)] [] rfl ⟨.inl rfl, ⟨.inl rfl, ⟨.inl rfl, ⟨.inl rfl, trivial⟩⟩⟩⟩ trivial ?_
  conv => whnf
  refine Br.f rfl ?_
  conv => whnf
  exact ⟨(k, wrap64 (x7 + 1)), [], ⟨H, lt_⟩, lt_, (fits_of ⟨.inl ⟨rfl, rfl⟩, trivial⟩ trivial fi_ trivial rfl)⟩
  conv => whnf
  refine Br.f ff_ ?_
  conv => whnf
  refine Br.f ff_ ?_
  conv => whnf
  refine Br.f ff_ ?_
  conv => whnf
  refine Br.f ff_ ?_
  conv => whnf
  refine Br.f rfl ?_
  conv => whnf
  refine Br.f rfl ?_
  conv => whnf
  refine Br.f rfl ?_
  conv => whnf
  refine cut_ 232 [(0, .str a0), (6, .int .i64 (a0.size : Int)), (7, .int .i64 x7), (30, .bool false)] [] rfl ⟨.inl rfl, ⟨.inl rfl, ⟨.inl rfl, ⟨.inl rfl, trivial⟩⟩⟩⟩ trivial ?_
  conv => whnf
  refine Br.f rfl ?_
  conv => whnf
  exact ⟨(k, wrap64 (x7 + 1)), [], ⟨H, lt_⟩, lt_, (fits_of ⟨.inl ⟨rfl, rfl⟩, trivial⟩ trivial fi_ trivial rfl)⟩
  conv => whnf
  refine br_d H (fun c H => ?_) (fun c H => ?_)
  conv => whnf
  refine Br.t ft_ ?_
  conv => whnf
  refine Br.t ft_ ?_
  conv => whnf
  refine Br.t ft_ ?_
  conv => whnf
  refine cut_ 112 [(2, .bool (decide ((a0.size : Int) ≤ 8)))] [] rfl ⟨.inl rfl, trivial⟩ trivial ?_
  conv => whnf
  injection H with H; subst H
  exact ret_fz [] (rtA_eq rfl)
  conv => whnf
  refine Br.f ff_ ?_
  conv => whnf
  refine Br.f ff_ ?_
  conv => whnf
  refine Br.f ff_ ?_
  conv => whnf
  refine cut_ 112 [(2, .bool false)] [] rfl ⟨.inl rfl, trivial⟩ trivial ?_
  conv => whnf
  injection H with H; subst H
  exact ret_fz [] (rtA_eq rfl)
theorem impl_RecEnd.ac {a0 : ByteArray} {r : Int} (H : impl_RecEnd.f a0 = some r) : ACalls Tryd.prog G 72 [] [.str a0] [] (.int .i64 r) := by
  refine acalls_of tok hP Tryd.func72 rfl (by kernel_rfl) [.tmp 2] rfl (by kernel_rfl) (Nat.le_of_ble_eq_true rfl) .n rfl ?_
  unfold impl_RecEnd.f at H
  conv => whnf
  refine br_d H (fun c H => ?_) (fun c H => ?_)
  conv => whnf
  injection H with H; subst H
  exact ret_fz [] (rtA_eq rfl)
  conv => whnf
  refine br_d H (fun c H => ?_) (fun c H => ?_)
  conv => whnf
  injection H with H; subst H
  exact ret_fz [] (rtA_eq rfl)
  conv => whnf
  refine br_d H (fun c H => ?_) (fun c H => ?_)
  conv => whnf
  injection H with H; subst H
  exact ret_fz [] (rtA_eq rfl)
  conv => whnf
  injection H with H; subst H
  exact ret_fz [] (rtA_eq rfl)
theorem impl_RecPhaseOk.j0_sq {F : (Exit → St → Prop) → St → Prop} {hv : List Tmp} {K : St → Prop} {Q : Exit → St → Prop} {σ : St} {r : Bool} {KK : Nat} {a0_3 : ByteArray} {a0_4 : Int}
    (h1 : F (fun e σ' => match e with | .normal => ∃ (y : Nat × Bool × Int) (rn : List (Option Nat)), (impl_RecPhaseOk.j0 y.1 a0_3 a0_4 y.2.2 y.2.1 = some r ∧ y.1 < KK) ∧ Fits σ σ' [] [(3, .int .i64 y.2.2), (4, .bool y.2.1)] [] [] rn | e => Q e σ') σ)
    (h2 : ∀ (k : Nat) (x4 : Bool) (x3 : Int), k < KK → impl_RecPhaseOk.j0 k a0_3 a0_4 x3 x4 = some r → headN σ hv [] [(3, .int .i64 x3), (4, .bool x4)] [] [] K) : Sq F hv K Q σ := by
  unfold Sq
  refine ⟨Nat × Bool × Int, fun x => impl_RecPhaseOk.j0 x.1 a0_3 a0_4 x.2.2 x.2.1 = some r ∧ x.1 < KK, [], fun x => [(3, .int .i64 x.2.2), (4, .bool x.2.1)], fun x => [], fun x => [], h1, ?_⟩
  rintro ⟨k, x4, x3⟩ ⟨H, hk⟩
  exact h2 k x4 x3 hk H
theorem impl_RecPhaseOk.ac {k : Nat} {a0_0 : ByteArray} {a0_1 : Int} {a0_2 : ByteArray} {a0_3 : ByteArray} {a0_4 : Int} {a0_5 : Int} {a0_6 : ByteArray} {a0_7 : ByteArray} {r : Bool} (H : impl_RecPhaseOk.f k a0_0 a0_1 a0_2 a0_3 a0_4 a0_5 a0_6 a0_7 = some r) : ACalls Tryd.prog G 79 [] [.agg [.str a0_0, .int .i64 a0_1, .str a0_2, .str a0_3, .int .i64 a0_4, .int .i64 a0_5, .str a0_6, .str a0_7]] [] (.bool r) := by
  refine acalls_of tok hP Tryd.func79 rfl (by kernel_rfl) [.tmp 2] rfl (by kernel_rfl) (Nat.le_of_ble_eq_true rfl) (.l .n (.l (.c .n (.l (.c .n .n) .n)) (.l .n (.j (.l .n (.l .n (.l .n (.l .n (.l (.l .n (.c .n .n)) (.c .n .n)))))) (.l (.c .n .n) (.c .n .n)))))) rfl ?_
  unfold impl_RecPhaseOk.f at H
  conv => whnf
  revert H; refine bind_elim (fun t605 A H => ?_)
  refine call_mk (impl_isName.ac A) (avAL_cons (avA_shut' rfl) (avAL_nil)) (Or.inl rfl) rfl rfl (Nat.le_of_ble_eq_true rfl) ?_
  conv => whnf
  refine br_nt H (fun c H => ?_) (fun c H => ?_)
  conv => whnf
  refine Br.f ff_ ?_
  conv => whnf
  refine Br.f ff_ ?_
  conv => whnf
  revert H; refine bind_elim (fun t606 A H => ?_)
  refine call_mk (impl_RecEnd.ac A) (avAL_cons (avA_shut' rfl) (avAL_nil)) (Or.inl rfl) rfl rfl (Nat.le_of_ble_eq_true rfl) ?_
  conv => whnf
  refine Br.f ff_ ?_
  conv => whnf
  refine Br.f ff_ ?_
  conv => whnf
  refine br_nd H (fun c H => ?_) (fun c H => ?_)
  conv => whnf
  refine Br.f ff_ ?_
  conv => whnf
  refine Br.f ff_ ?_
  conv => whnf
  refine Br.f ff_ ?_
  conv => whnf
  refine br_d H (fun c H => ?_) (fun c H => ?_)
  conv => whnf
  refine Br.t ft_ ?_
  conv => whnf
  refine Br.t ft_ ?_
  conv => whnf
  refine Br.t ft_ ?_
  conv => whnf
  refine Br.t rfl ?_
  conv => whnf
  refine Br.t rfl ?_
  conv => whnf
  refine Br.t rfl ?_
  conv => whnf
  refine Br.t rfl ?_
  conv => whnf
  refine Br.t rfl ?_
  conv => whnf
  refine Br.t rfl ?_
  conv => whnf
  refine Br.t rfl ?_
  conv => whnf
  refine Br.t rfl ?_
  conv => whnf
  refine Br.t rfl ?_
  conv => whnf
  refine Br.t rfl ?_
  conv => whnf
  refine Br.t rfl ?_
  conv => whnf
  refine Br.t rfl ?_
  conv => whnf
  refine Br.t rfl ?_
  conv => whnf
  refine Br.t rfl ?_
  conv => whnf
  refine Br.t rfl ?_
  conv => whnf
  refine cut_ 320 [(1, .bp 0 0), (42, .bool true)] [(0, .box [.str a0_0, .int .i64 a0_1, .str a0_2, .str a0_3, .int .i64 a0_4, .int .i64 a0_5, .str a0_6, .str a0_7])] rfl ⟨.inl rfl, ⟨.inl rfl, trivial⟩⟩ ⟨rfl, trivial⟩ ?_
  conv => whnf
  refine Br.t rfl ?_
  conv => whnf
  refine cut_ 328 [(2, .bool false)] [] rfl ⟨.inl rfl, trivial⟩ trivial ?_
  conv => whnf
  injection H with H; subst H
  exact ret_fz [] (rtA_eq rfl)
  conv => whnf
  refine Br.f ff_ ?_
  conv => whnf
  refine Br.f ff_ ?_
  conv => whnf
  refine Br.f ff_ ?_
  conv => whnf
  refine br_d H (fun c H => ?_) (fun c H => ?_)
  conv => whnf
  refine Br.t ft_ ?_
  conv => whnf
  refine Br.t ft_ ?_
  conv => whnf
  refine Br.t ft_ ?_
  conv => whnf
  refine Br.t ft_ ?_
  conv => whnf
  refine Br.t rfl ?_
  conv => whnf
  refine Br.t rfl ?_
  conv => whnf
  refine Br.t rfl ?_
  conv => whnf
  refine Br.t rfl ?_
  conv => whnf
  refine Br.t rfl ?_
  conv => whnf
  refine Br.t rfl ?_
  conv => whnf
  refine Br.t rfl ?_
  conv => whnf
  refine Br.t rfl ?_
  conv => whnf
  refine Br.t rfl ?_
  conv => whnf
  refine Br.t rfl ?_
  conv => whnf
  refine cut_ 320 [(1, .bp 0 0), (42, .bool true)] [(0, .box [.str a0_0, .int .i64 a0_1, .str a0_2, .str a0_3, .int .i64 a0_4, .int .i64 a0_5, .str a0_6, .str a0_7])] rfl ⟨.inl rfl, ⟨.inl rfl, trivial⟩⟩ ⟨rfl, trivial⟩ ?_
  conv => whnf
  refine Br.t rfl ?_
  conv => whnf
  refine cut_ 328 [(2, .bool false)] [] rfl ⟨.inl rfl, trivial⟩ trivial ?_
  conv => whnf
  injection H with H; subst H
  exact ret_fz [] (rtA_eq rfl)
  conv => whnf
  refine Br.f ff_ ?_
  conv => whnf
  refine Br.f ff_ ?_
  conv => whnf
  revert H; refine bind_elim (fun t607 A H => ?_)
  refine call_mk (impl_isName.ac A) (avAL_cons (avA_shut' rfl) (avAL_nil)) (Or.inl rfl) rfl rfl (Nat.le_of_ble_eq_true rfl) ?_
  conv => whnf
  refine Br.f ff_ ?_
  conv => whnf
  refine Br.f ff_ ?_
  conv => whnf
  refine br_nt H (fun c H => ?_) (fun c H => ?_)
  conv => whnf
  refine Br.f ff_ ?_
  conv => whnf
  refine Br.f ff_ ?_
  conv => whnf
  revert H; refine bind_elim (fun t608 A H => ?_)
  refine call_mk (impl_isName.ac A) (avAL_cons (avA_shut' rfl) (avAL_nil)) (Or.inl rfl) rfl rfl (Nat.le_of_ble_eq_true rfl) ?_
  conv => whnf
  refine Br.f ff_ ?_
  conv => whnf
  refine Br.f ff_ ?_
  conv => whnf
  refine br_nt H (fun c H => ?_) (fun c H => ?_)
  conv => whnf
  refine Br.f ff_ ?_
  conv => whnf
  refine Br.f ff_ ?_
  conv => whnf
  revert H; refine bind_elim (fun t609 A H => ?_)
  refine call_mk (impl_isName.ac A) (avAL_cons (avA_shut' rfl) (avAL_nil)) (Or.inl rfl) rfl rfl (Nat.le_of_ble_eq_true rfl) ?_
  conv => whnf
  refine Br.f ff_ ?_
  conv => whnf
  refine Br.f ff_ ?_
  conv => whnf
  refine cut_ 320 [(1, .bp 0 0), (42, .bool (!t609))] [(0, .box [.str a0_0, .int .i64 a0_1, .str a0_2, .str a0_3, .int .i64 a0_4, .int .i64 a0_5, .str a0_6, .str a0_7])] rfl ⟨.inl rfl, ⟨.inl rfl, trivial⟩⟩ ⟨rfl, trivial⟩ ?_
  conv => whnf
  refine br_nt H (fun c H => ?_) (fun c H => ?_)
  conv => whnf
  refine impl_RecPhaseOk.j0_sq (a0_3 := a0_3) (a0_4 := a0_4) (KK := k + 1) (r := r) ?_ ?_
  conv => whnf
  refine br_d H (fun c H => ?_) (fun c H => ?_)
  conv => whnf
  exact ⟨(k, true, 1000), [], ⟨H, lt_⟩, (fits_of ⟨.inl ⟨rfl, rfl⟩, ⟨.inl ⟨rfl, rfl⟩, trivial⟩⟩ trivial fi_ trivial rfl)⟩
  conv => whnf
  refine br_d H (fun c H => ?_) (fun c H => ?_)
  conv => whnf
  refine cut_ 432 [(1, .bp 0 0), (3, .int .i64 1000), (4, .bool true), (53, .bool (decide (a0_2.toList = a0_3.toList)))] [(0, .box [.str a0_0, .int .i64 a0_1, .str a0_2, .str a0_3, .int .i64 a0_4, .int .i64 a0_5, .str a0_6, .str a0_7])] rfl ⟨.inl rfl, ⟨.inl rfl, ⟨.inl rfl, ⟨.inl rfl, trivial⟩⟩⟩⟩ ⟨rfl, trivial⟩ ?_
  conv => whnf
  refine br_d H (fun c H => ?_) (fun c H => ?_)
  conv => whnf
  injection H with H; subst H
  exact ret_fz [] (rtA_eq rfl)
  conv => whnf
  exact ⟨(k, true, 1000), [], ⟨H, lt_⟩, (fits_of ⟨.inl ⟨rfl, rfl⟩, ⟨.inl ⟨rfl, rfl⟩, trivial⟩⟩ trivial fi_ trivial rfl)⟩
  conv => whnf
  refine cut_ 400 [(1, .bp 0 0), (4, .bool false), (44, .int .i64 a0_1), (54, .bool (decide (a0_1 = 3)))] [(0, .box [.str a0_0, .int .i64 a0_1, .str a0_2, .str a0_3, .int .i64 a0_4, .int .i64 a0_5, .str a0_6, .str a0_7])] rfl ⟨.inl rfl, ⟨.inl rfl, ⟨.inl rfl, ⟨.inl rfl, trivial⟩⟩⟩⟩ ⟨rfl, trivial⟩ ?_
  conv => whnf
  refine br_d H (fun c H => ?_) (fun c H => ?_)
  conv => whnf
  exact ⟨(k, false, a0_5), [], ⟨H, lt_⟩, (fits_of ⟨.inl ⟨rfl, rfl⟩, ⟨.inl ⟨rfl, rfl⟩, trivial⟩⟩ trivial fi_ trivial rfl)⟩
  conv => whnf
  refine br_d H (fun c H => ?_) (fun c H => ?_)
  conv => whnf
  refine Br.t ft_ ?_
  conv => whnf
  exact ⟨(k, false, 0), [], ⟨H, lt_⟩, (fits_of ⟨.inl ⟨rfl, rfl⟩, ⟨.inl ⟨rfl, rfl⟩, trivial⟩⟩ trivial fi_ trivial rfl)⟩
  conv => whnf
  refine br_d H (fun c H => ?_) (fun c H => ?_)
  conv => whnf
  exact ⟨(k, false, 0), [], ⟨H, lt_⟩, (fits_of ⟨.inl ⟨rfl, rfl⟩, ⟨.inl ⟨rfl, rfl⟩, trivial⟩⟩ trivial fi_ trivial rfl)⟩
  conv => whnf
  injection H with H; subst H
  exact ret_fz [] (rtA_eq rfl)
  intro k x4 x3 hk H; rcases k with _ | k; exact none_elim H; rw [impl_RecPhaseOk.j0] at H; conv => whnf
  refine br_t H (fun c H => ?_) (fun c H => ?_)
  conv => whnf
  refine Br.t ft_ ?_
  conv => whnf
  refine Br.t ft_ ?_
  conv => whnf
  revert H; refine bind_elim (fun t614 A H => ?_)
  refine call_mk (impl_isName.ac A) (avAL_cons (avA_shut' rfl) (avAL_nil)) (Or.inl rfl) rfl rfl (Nat.le_of_ble_eq_true rfl) ?_
  conv => whnf
  refine Br.t ft_ ?_
  conv => whnf
  refine Br.t ft_ ?_
  conv => whnf
  refine br_nt H (fun c H => ?_) (fun c H => ?_)
  conv => whnf
  refine Br.f ff_ ?_
  conv => whnf
  refine Br.f ff_ ?_
  conv => whnf
  refine Br.f ff_ ?_
  conv => whnf
  refine Br.f ff_ ?_
  conv => whnf
  refine Br.f ff_ ?_
  conv => whnf
  refine Br.f ff_ ?_
  conv => whnf
  refine Br.f ff_ ?_
  conv => whnf
  refine Br.f ff_ ?_
  conv => whnf
  refine cut_ 464 [(1, .bp 0 0), (3, .int .i64 x3), (76, .bool false)] [(0, .box [.str a0_0, .int .i64 a0_1, .str a0_2, .str a0_3, .int .i64 a0_4, .int .i64 a0_5, .str a0_6, .str a0_7])] rfl ⟨.inl rfl, ⟨.inl rfl, ⟨.inl rfl, trivial⟩⟩⟩ ⟨rfl, trivial⟩ ?_
  conv => whnf
  refine Br.f rfl ?_
  conv => whnf
  refine br_d H (fun c H => ?_) (fun c H => ?_)
  conv => whnf
  refine Br.t ft_ ?_
  conv => whnf
  refine Br.t ft_ ?_
  conv => whnf
  refine Br.t ft_ ?_
  conv => whnf
  refine br_d H (fun c H => ?_) (fun c H => ?_)
  conv => whnf
  refine Br.t ft_ ?_
  conv => whnf
  refine Br.t ft_ ?_
  conv => whnf
  refine Br.t ft_ ?_
  conv => whnf
  refine Br.t ft_ ?_
  conv => whnf
  refine Br.t ft_ ?_
  conv => whnf
  refine Br.t ft_ ?_
  conv => whnf
  refine cut_ 616 [(2, .bool true)] [] rfl ⟨.inl rfl, trivial⟩ trivial ?_
  conv => whnf
  injection H with H; subst H
  exact ret_fz [] (rtA_eq rfl)
  conv => whnf
  refine Br.f ff_ ?_
  conv => whnf
  refine Br.f ff_ ?_
  conv => whnf
  refine br_d H (fun c H => ?_) (fun c H => ?_)
  conv => whnf
  refine Br.t ft_ ?_
  conv => whnf
  refine Br.t ft_ ?_
  conv => whnf
  refine Br.f ff_ ?_
  conv => whnf
  refine Br.t ft_ ?_
  conv => whnf
  refine Br.t ft_ ?_
  conv => whnf
  refine Br.f ff_ ?_
  conv => whnf
  refine Br.t ft_ ?_
  conv => whnf
  refine cut_ 616 [(2, .bool (decide (a0_4 = 0)))] [] rfl ⟨.inl rfl, trivial⟩ trivial ?_
  conv => whnf
  injection H with H; subst H
  exact ret_fz [] (rtA_eq rfl)
  conv => whnf
  refine Br.f ff_ ?_
  conv => whnf
  refine Br.f ff_ ?_
  conv => whnf
  refine Br.f ff_ ?_
  conv => whnf
  refine Br.f ff_ ?_
  conv => whnf
  refine Br.t ft_ ?_
  conv => whnf
  refine Br.f ff_ ?_
  conv => whnf
  refine Br.t ft_ ?_
  conv => whnf
  refine cut_ 616 [(2, .bool false)] [] rfl ⟨.inl rfl, trivial⟩ trivial ?_
  conv => whnf
  injection H with H; subst H
  exact ret_fz [] (rtA_eq rfl)
  conv => whnf
  refine Br.f ff_ ?_
  conv => whnf
  refine Br.f ff_ ?_
  conv => whnf
  refine Br.f ff_ ?_
  conv => whnf
  refine Br.f ff_ ?_
  conv => whnf
  refine Br.f ff_ ?_
  conv => whnf
  refine cut_ 616 [(2, .bool false)] [] rfl ⟨.inl rfl, trivial⟩ trivial ?_
  conv => whnf
  injection H with H; subst H
  exact ret_fz [] (rtA_eq rfl)
  conv => whnf
  refine Br.t ft_ ?_
  conv => whnf
  refine Br.t ft_ ?_
  conv => whnf
  refine Br.t ft_ ?_
  conv => whnf
  refine Br.t ft_ ?_
  conv => whnf
  refine cut_ 464 [(1, .bp 0 0), (3, .int .i64 x3), (76, .bool true)] [(0, .box [.str a0_0, .int .i64 a0_1, .str a0_2, .str a0_3, .int .i64 a0_4, .int .i64 a0_5, .str a0_6, .str a0_7])] rfl ⟨.inl rfl, ⟨.inl rfl, ⟨.inl rfl, trivial⟩⟩⟩ ⟨rfl, trivial⟩ ?_
  conv => whnf
  refine Br.t rfl ?_
  conv => whnf
  injection H with H; subst H
  exact ret_fz [] (rtA_eq rfl)
  conv => whnf
  refine Br.f ff_ ?_
  conv => whnf
  refine Br.f ff_ ?_
  conv => whnf
  refine Br.f ff_ ?_
  conv => whnf
  refine Br.f ff_ ?_
  conv => whnf
  refine Br.f rfl ?_
  conv => whnf
  refine Br.f rfl ?_
  conv => whnf
  refine Br.f rfl ?_
  conv => whnf
  refine Br.t ft_ ?_
  conv => whnf
  refine Br.t ft_ ?_
  conv => whnf
  refine Br.t ft_ ?_
  conv => whnf
  refine Br.f rfl ?_
  conv => whnf
  refine Br.t ft_ ?_
  conv => whnf
  refine Br.f rfl ?_
  conv => whnf
  refine cut_ 464 [(1, .bp 0 0), (3, .int .i64 x3), (76, .bool (!(decide (a0_3.toList = (⟨#[]⟩ : ByteArray).toList))))] [(0, .box [.str a0_0, .int .i64 a0_1, .str a0_2, .str a0_3, .int .i64 a0_4, .int .i64 a0_5, .str a0_6, .str a0_7])] rfl ⟨.inl rfl, ⟨.inl rfl, ⟨.inl rfl, trivial⟩⟩⟩ ⟨rfl, trivial⟩ ?_
  conv => whnf
  refine br_nd H (fun c H => ?_) (fun c H => ?_)
  conv => whnf
  refine br_d H (fun c H => ?_) (fun c H => ?_)
  conv => whnf
  refine Br.t ft_ ?_
  conv => whnf
  refine Br.t ft_ ?_
  conv => whnf
  refine Br.t ft_ ?_
  conv => whnf
  refine br_d H (fun c H => ?_) (fun c H => ?_)
  conv => whnf
  refine Br.t ft_ ?_
  conv => whnf
  refine Br.t ft_ ?_
  conv => whnf
  refine Br.t ft_ ?_
  conv => whnf
  refine Br.t ft_ ?_
  conv => whnf
  refine Br.t ft_ ?_
  conv => whnf
  refine Br.t ft_ ?_
  conv => whnf
  refine cut_ 616 [(2, .bool true)] [] rfl ⟨.inl rfl, trivial⟩ trivial ?_
  conv => whnf
  injection H with H; subst H
  exact ret_fz [] (rtA_eq rfl)
  conv => whnf
  refine Br.f ff_ ?_
  conv => whnf
  refine Br.f ff_ ?_
  conv => whnf
  refine br_d H (fun c H => ?_) (fun c H => ?_)
  conv => whnf
  refine Br.t ft_ ?_
  conv => whnf
  refine Br.t ft_ ?_
  conv => whnf
  refine Br.f ff_ ?_
  conv => whnf
  refine Br.t ft_ ?_
  conv => whnf
  refine Br.t ft_ ?_
  conv => whnf
  refine Br.f ff_ ?_
  conv => whnf
  refine Br.t ft_ ?_
  conv => whnf
  refine cut_ 616 [(2, .bool (decide (a0_4 = 0)))] [] rfl ⟨.inl rfl, trivial⟩ trivial ?_
  conv => whnf
  injection H with H; subst H
  exact ret_fz [] (rtA_eq rfl)
  conv => whnf
  refine Br.f ff_ ?_
  conv => whnf
  refine Br.f ff_ ?_
  conv => whnf
  refine Br.f ff_ ?_
  conv => whnf
  refine Br.f ff_ ?_
  conv => whnf
  refine Br.t ft_ ?_
  conv => whnf
  refine Br.f ff_ ?_
  conv => whnf
  refine Br.t ft_ ?_
  conv => whnf
  refine cut_ 616 [(2, .bool false)] [] rfl ⟨.inl rfl, trivial⟩ trivial ?_
  conv => whnf
  injection H with H; subst H
  exact ret_fz [] (rtA_eq rfl)
  conv => whnf
  refine Br.f ff_ ?_
  conv => whnf
  refine Br.f ff_ ?_
  conv => whnf
  refine Br.f ff_ ?_
  conv => whnf
  refine Br.f ff_ ?_
  conv => whnf
  refine Br.f ff_ ?_
  conv => whnf
  refine cut_ 616 [(2, .bool false)] [] rfl ⟨.inl rfl, trivial⟩ trivial ?_
  conv => whnf
  injection H with H; subst H
  exact ret_fz [] (rtA_eq rfl)
  conv => whnf
  injection H with H; subst H
  exact ret_fz [] (rtA_eq rfl)
  conv => whnf
  refine cut_ 328 [(2, .bool false)] [] rfl ⟨.inl rfl, trivial⟩ trivial ?_
  conv => whnf
  injection H with H; subst H
  exact ret_fz [] (rtA_eq rfl)
  conv => whnf
  refine Br.t ft_ ?_
  conv => whnf
  refine Br.t ft_ ?_
  conv => whnf
  refine Br.t ft_ ?_
  conv => whnf
  refine Br.t ft_ ?_
  conv => whnf
  refine cut_ 320 [(1, .bp 0 0), (42, .bool true)] [(0, .box [.str a0_0, .int .i64 a0_1, .str a0_2, .str a0_3, .int .i64 a0_4, .int .i64 a0_5, .str a0_6, .str a0_7])] rfl ⟨.inl rfl, ⟨.inl rfl, trivial⟩⟩ ⟨rfl, trivial⟩ ?_
  conv => whnf
  refine Br.t rfl ?_
  conv => whnf
  refine cut_ 328 [(2, .bool false)] [] rfl ⟨.inl rfl, trivial⟩ trivial ?_
  conv => whnf
  injection H with H; subst H
  exact ret_fz [] (rtA_eq rfl)
  conv => whnf
  refine Br.t ft_ ?_
  conv => whnf
  refine Br.t ft_ ?_
  conv => whnf
  refine Br.t ft_ ?_
  conv => whnf
  refine Br.t ft_ ?_
  conv => whnf
  refine Br.t rfl ?_
  conv => whnf
  refine Br.t rfl ?_
  conv => whnf
  refine Br.t rfl ?_
  conv => whnf
  refine Br.t rfl ?_
  conv => whnf
  refine Br.t rfl ?_
  conv => whnf
  refine cut_ 320 [(1, .bp 0 0), (42, .bool true)] [(0, .box [.str a0_0, .int .i64 a0_1, .str a0_2, .str a0_3, .int .i64 a0_4, .int .i64 a0_5, .str a0_6, .str a0_7])] rfl ⟨.inl rfl, ⟨.inl rfl, trivial⟩⟩ ⟨rfl, trivial⟩ ?_
  conv => whnf
  refine Br.t rfl ?_
  conv => whnf
  refine cut_ 328 [(2, .bool false)] [] rfl ⟨.inl rfl, trivial⟩ trivial ?_
  conv => whnf
  injection H with H; subst H
  exact ret_fz [] (rtA_eq rfl)
  conv => whnf
  refine Br.t ft_ ?_
  conv => whnf
  refine Br.t ft_ ?_
  conv => whnf
  refine Br.t ft_ ?_
  conv => whnf
  refine Br.t rfl ?_
  conv => whnf
  refine Br.t rfl ?_
  conv => whnf
  refine Br.t rfl ?_
  conv => whnf
  refine Br.t rfl ?_
  conv => whnf
  refine Br.t rfl ?_
  conv => whnf
  refine Br.t rfl ?_
  conv => whnf
  refine Br.t rfl ?_
  conv => whnf
  refine Br.t rfl ?_
  conv => whnf
  refine Br.t rfl ?_
  conv => whnf
  refine Br.t rfl ?_
  conv => whnf
  refine Br.t rfl ?_
  conv => whnf
  refine Br.t rfl ?_
  conv => whnf
  refine Br.t rfl ?_
  conv => whnf
  refine Br.t rfl ?_
  conv => whnf
  refine Br.t rfl ?_
  conv => whnf
  refine Br.t rfl ?_
  conv => whnf
  refine Br.t rfl ?_
  conv => whnf
  refine Br.t rfl ?_
  conv => whnf
  refine Br.t rfl ?_
  conv => whnf
  refine cut_ 320 [(1, .bp 0 0), (42, .bool true)] [(0, .box [.str a0_0, .int .i64 a0_1, .str a0_2, .str a0_3, .int .i64 a0_4, .int .i64 a0_5, .str a0_6, .str a0_7])] rfl ⟨.inl rfl, ⟨.inl rfl, trivial⟩⟩ ⟨rfl, trivial⟩ ?_
  conv => whnf
  refine Br.t rfl ?_
  conv => whnf
  refine cut_ 328 [(2, .bool false)] [] rfl ⟨.inl rfl, trivial⟩ trivial ?_
  conv => whnf
  injection H with H; subst H
  exact ret_fz [] (rtA_eq rfl)
  conv => whnf
  refine Br.t ft_ ?_
  conv => whnf
  refine Br.t ft_ ?_
  conv => whnf
  refine Br.t ft_ ?_
  conv => whnf
  refine Br.t ft_ ?_
  conv => whnf
  refine Br.t rfl ?_
  conv => whnf
  refine Br.t rfl ?_
  conv => whnf
  refine Br.t rfl ?_
  conv => whnf
  refine Br.t rfl ?_
  conv => whnf
  refine Br.t rfl ?_
  conv => whnf
  refine Br.t rfl ?_
  conv => whnf
  refine Br.t rfl ?_
  conv => whnf
  refine Br.t rfl ?_
  conv => whnf
  refine Br.t rfl ?_
  conv => whnf
  refine Br.t rfl ?_
  conv => whnf
  refine Br.t rfl ?_
  conv => whnf
  refine Br.t rfl ?_
  conv => whnf
  refine Br.t rfl ?_
  conv => whnf
  refine Br.t rfl ?_
  conv => whnf
  refine Br.t rfl ?_
  conv => whnf
  refine Br.t rfl ?_
  conv => whnf
  refine Br.t rfl ?_
  conv => whnf
  refine Br.t rfl ?_
  conv => whnf
  refine Br.t rfl ?_
  conv => whnf
  refine Br.t rfl ?_
  conv => whnf
  refine Br.t rfl ?_
  conv => whnf
  refine Br.t rfl ?_
  conv => whnf
  refine Br.t rfl ?_
  conv => whnf
  refine cut_ 320 [(1, .bp 0 0), (42, .bool true)] [(0, .box [.str a0_0, .int .i64 a0_1, .str a0_2, .str a0_3, .int .i64 a0_4, .int .i64 a0_5, .str a0_6, .str a0_7])] rfl ⟨.inl rfl, ⟨.inl rfl, trivial⟩⟩ ⟨rfl, trivial⟩ ?_
  conv => whnf
  refine Br.t rfl ?_
  conv => whnf
  refine cut_ 328 [(2, .bool false)] [] rfl ⟨.inl rfl, trivial⟩ trivial ?_
  conv => whnf
  injection H with H; subst H
  exact ret_fz [] (rtA_eq rfl)
theorem impl_phaseOf.j0_sq {F : (Exit → St → Prop) → St → Prop} {hv : List Tmp} {K : St → Prop} {Q : Exit → St → Prop} {σ : St} {r : ByteArray × Int × ByteArray × ByteArray × Int × Int × ByteArray × ByteArray × Bool} {KK : Nat} {l0 : List ByteArray} {x1080001 : Int} {t669 : ByteArray × (List ByteArray)} {t670 : ByteArray × (List ByteArray)} {t672 : Int × Bool} {t675 : Int × Bool}
    (h1 : F (fun e σ' => match e with | .normal => ∃ (y : Nat × (List ByteArray) × Bool) (rn : List (Option Nat)), (impl_phaseOf.j0 y.1 l0 y.2.2 t669 t670 t672 t675 y.2.1 x1080001 = some r ∧ y.1 < KK) ∧ Fits σ σ' [0] [(8, .bool y.2.2)] [(0, .box [(sv_str y.2.1)])] [] rn | e => Q e σ') σ)
    (h2 : ∀ (k : Nat) (x1000000 : List ByteArray) (x8 : Bool), k < KK → impl_phaseOf.j0 k l0 x8 t669 t670 t672 t675 x1000000 x1080001 = some r → headN σ hv [0] [(8, .bool x8)] [(0, .box [(sv_str x1000000)])] [] K) : Sq F hv K Q σ := by
  unfold Sq
  refine ⟨Nat × (List ByteArray) × Bool, fun x => impl_phaseOf.j0 x.1 l0 x.2.2 t669 t670 t672 t675 x.2.1 x1080001 = some r ∧ x.1 < KK, [0], fun x => [(8, .bool x.2.2)], fun x => [(0, .box [(sv_str x.2.1)])], fun x => [], h1, ?_⟩
  rintro ⟨k, x1000000, x8⟩ ⟨H, hk⟩
  exact h2 k x1000000 x8 hk H
theorem impl_phaseOf.j1_sq {F : (Exit → St → Prop) → St → Prop} {hv : List Tmp} {K : St → Prop} {Q : Exit → St → Prop} {σ : St} {r : ByteArray × Int × ByteArray × ByteArray × Int × Int × ByteArray × ByteArray × Bool} {KK : Nat} {l0 : List ByteArray} {x1080001 : Int} {t669 : ByteArray × (List ByteArray)} {t670 : ByteArray × (List ByteArray)} {t672 : Int × Bool} {t684 : ByteArray × (List ByteArray)} {t685 : Int × Bool}
    (h1 : F (fun e σ' => match e with | .normal => ∃ (y : Nat) (rn : List (Option Nat)), (impl_phaseOf.j1 y l0 t669 t670 t672 t684 t685 x1080001 = some r ∧ y < KK) ∧ Fits σ σ' [] [(8, .bool false)] [] [] rn | e => Q e σ') σ)
    (h2 : ∀ (k : Nat), k < KK → impl_phaseOf.j1 k l0 t669 t670 t672 t684 t685 x1080001 = some r → headN σ hv [] [(8, .bool false)] [] [] K) : Sq F hv K Q σ := by
  unfold Sq
  refine ⟨Nat, fun x => impl_phaseOf.j1 x l0 t669 t670 t672 t684 t685 x1080001 = some r ∧ x < KK, [], fun x => [(8, .bool false)], fun x => [], fun x => [], h1, ?_⟩
  rintro k ⟨H, hk⟩
  exact h2 k hk H
theorem impl_phaseOf.j2_sq {F : (Exit → St → Prop) → St → Prop} {hv : List Tmp} {K : St → Prop} {Q : Exit → St → Prop} {σ : St} {r : ByteArray × Int × ByteArray × ByteArray × Int × Int × ByteArray × ByteArray × Bool} {KK : Nat} {l0 : List ByteArray} {x1080001 : Int} {t669 : ByteArray × (List ByteArray)} {t670 : ByteArray × (List ByteArray)} {t691 : Int × Bool}
    (h1 : F (fun e σ' => match e with | .normal => ∃ (y : Nat × (List ByteArray) × Bool) (rn : List (Option Nat)), (impl_phaseOf.j2 y.1 l0 y.2.2 t669 t670 t691 y.2.1 x1080001 = some r ∧ y.1 < KK) ∧ Fits σ σ' [0] [(8, .bool y.2.2)] [(0, .box [(sv_str y.2.1)])] [] rn | e => Q e σ') σ)
    (h2 : ∀ (k : Nat) (x1000000_1 : List ByteArray) (x8_1 : Bool), k < KK → impl_phaseOf.j2 k l0 x8_1 t669 t670 t691 x1000000_1 x1080001 = some r → headN σ hv [0] [(8, .bool x8_1)] [(0, .box [(sv_str x1000000_1)])] [] K) : Sq F hv K Q σ := by
  unfold Sq
  refine ⟨Nat × (List ByteArray) × Bool, fun x => impl_phaseOf.j2 x.1 l0 x.2.2 t669 t670 t691 x.2.1 x1080001 = some r ∧ x.1 < KK, [0], fun x => [(8, .bool x.2.2)], fun x => [(0, .box [(sv_str x.2.1)])], fun x => [], h1, ?_⟩
  rintro ⟨k, x1000000_1, x8_1⟩ ⟨H, hk⟩
  exact h2 k x1000000_1 x8_1 hk H
theorem impl_phaseOf.j3_sq {F : (Exit → St → Prop) → St → Prop} {hv : List Tmp} {K : St → Prop} {Q : Exit → St → Prop} {σ : St} {r : ByteArray × Int × ByteArray × ByteArray × Int × Int × ByteArray × ByteArray × Bool} {KK : Nat} {l0 : List ByteArray} {x1080001 : Int} {t669 : ByteArray × (List ByteArray)} {t701 : Int × Bool} {t704 : Int × Bool}
    (h1 : F (fun e σ' => match e with | .normal => ∃ (y : Nat × (List ByteArray) × Bool) (rn : List (Option Nat)), (impl_phaseOf.j3 y.1 l0 y.2.2 t669 t701 t704 y.2.1 x1080001 = some r ∧ y.1 < KK) ∧ Fits σ σ' [0] [(8, .bool y.2.2)] [(0, .box [(sv_str y.2.1)])] [] rn | e => Q e σ') σ)
    (h2 : ∀ (k : Nat) (x1000000_2 : List ByteArray) (x8_2 : Bool), k < KK → impl_phaseOf.j3 k l0 x8_2 t669 t701 t704 x1000000_2 x1080001 = some r → headN σ hv [0] [(8, .bool x8_2)] [(0, .box [(sv_str x1000000_2)])] [] K) : Sq F hv K Q σ := by
  unfold Sq
  refine ⟨Nat × (List ByteArray) × Bool, fun x => impl_phaseOf.j3 x.1 l0 x.2.2 t669 t701 t704 x.2.1 x1080001 = some r ∧ x.1 < KK, [0], fun x => [(8, .bool x.2.2)], fun x => [(0, .box [(sv_str x.2.1)])], fun x => [], h1, ?_⟩
  rintro ⟨k, x1000000_2, x8_2⟩ ⟨H, hk⟩
  exact h2 k x1000000_2 x8_2 hk H
theorem impl_phaseOf.j4_sq {F : (Exit → St → Prop) → St → Prop} {hv : List Tmp} {K : St → Prop} {Q : Exit → St → Prop} {σ : St} {r : ByteArray × Int × ByteArray × ByteArray × Int × Int × ByteArray × ByteArray × Bool} {KK : Nat} {l0 : List ByteArray} {x1080001 : Int} {t669 : ByteArray × (List ByteArray)} {t701 : Int × Bool} {t713 : ByteArray × (List ByteArray)} {t714 : Int × Bool}
    (h1 : F (fun e σ' => match e with | .normal => ∃ (y : Nat) (rn : List (Option Nat)), (impl_phaseOf.j4 y l0 t669 t701 t713 t714 x1080001 = some r ∧ y < KK) ∧ Fits σ σ' [] [(8, .bool false)] [] [] rn | e => Q e σ') σ)
    (h2 : ∀ (k : Nat), k < KK → impl_phaseOf.j4 k l0 t669 t701 t713 t714 x1080001 = some r → headN σ hv [] [(8, .bool false)] [] [] K) : Sq F hv K Q σ := by
  unfold Sq
  refine ⟨Nat, fun x => impl_phaseOf.j4 x l0 t669 t701 t713 t714 x1080001 = some r ∧ x < KK, [], fun x => [(8, .bool false)], fun x => [], fun x => [], h1, ?_⟩
  rintro k ⟨H, hk⟩
  exact h2 k hk H
theorem impl_phaseOf.j5_sq {F : (Exit → St → Prop) → St → Prop} {hv : List Tmp} {K : St → Prop} {Q : Exit → St → Prop} {σ : St} {r : ByteArray × Int × ByteArray × ByteArray × Int × Int × ByteArray × ByteArray × Bool} {KK : Nat} {l0 : List ByteArray} {x1080001 : Int} {t669 : ByteArray × (List ByteArray)} {t720 : Int × Bool}
    (h1 : F (fun e σ' => match e with | .normal => ∃ (y : Nat × (List ByteArray) × Bool) (rn : List (Option Nat)), (impl_phaseOf.j5 y.1 l0 y.2.2 t669 t720 y.2.1 x1080001 = some r ∧ y.1 < KK) ∧ Fits σ σ' [0] [(8, .bool y.2.2)] [(0, .box [(sv_str y.2.1)])] [] rn | e => Q e σ') σ)
    (h2 : ∀ (k : Nat) (x1000000_3 : List ByteArray) (x8_3 : Bool), k < KK → impl_phaseOf.j5 k l0 x8_3 t669 t720 x1000000_3 x1080001 = some r → headN σ hv [0] [(8, .bool x8_3)] [(0, .box [(sv_str x1000000_3)])] [] K) : Sq F hv K Q σ := by
  unfold Sq
  refine ⟨Nat × (List ByteArray) × Bool, fun x => impl_phaseOf.j5 x.1 l0 x.2.2 t669 t720 x.2.1 x1080001 = some r ∧ x.1 < KK, [0], fun x => [(8, .bool x.2.2)], fun x => [(0, .box [(sv_str x.2.1)])], fun x => [], h1, ?_⟩
  rintro ⟨k, x1000000_3, x8_3⟩ ⟨H, hk⟩
  exact h2 k x1000000_3 x8_3 hk H
theorem impl_phaseOf.j6_sq {F : (Exit → St → Prop) → St → Prop} {hv : List Tmp} {K : St → Prop} {Q : Exit → St → Prop} {σ : St} {r : ByteArray × Int × ByteArray × ByteArray × Int × Int × ByteArray × ByteArray × Bool} {KK : Nat} {l0 : List ByteArray}
    (h1 : F (fun e σ' => match e with | .normal => ∃ (y : Nat × Int × Bool × Bool) (rn : List (Option Nat)), (impl_phaseOf.j6 y.1 l0 y.2.2.1 y.2.2.2 y.2.1 = some r ∧ y.1 < KK) ∧ Fits σ σ' [80] [(5, .bool y.2.2.1), (6, .bool y.2.2.2)] [(80, .box [.str (rdOf ByteArray.empty l0 0), .int .i64 y.2.1, .str (⟨#[]⟩ : ByteArray), .str (⟨#[]⟩ : ByteArray), .int .i64 0, .int .i64 0, .str (⟨#[]⟩ : ByteArray), .str (⟨#[]⟩ : ByteArray)])] [] rn | e => Q e σ') σ)
    (h2 : ∀ (k : Nat) (x1080001 : Int) (x5 : Bool) (x6 : Bool), k < KK → impl_phaseOf.j6 k l0 x5 x6 x1080001 = some r → headN σ hv [80] [(5, .bool x5), (6, .bool x6)] [(80, .box [.str (rdOf ByteArray.empty l0 0), .int .i64 x1080001, .str (⟨#[]⟩ : ByteArray), .str (⟨#[]⟩ : ByteArray), .int .i64 0, .int .i64 0, .str (⟨#[]⟩ : ByteArray), .str (⟨#[]⟩ : ByteArray)])] [] K) : Sq F hv K Q σ := by
  unfold Sq
  refine ⟨Nat × Int × Bool × Bool, fun x => impl_phaseOf.j6 x.1 l0 x.2.2.1 x.2.2.2 x.2.1 = some r ∧ x.1 < KK, [80], fun x => [(5, .bool x.2.2.1), (6, .bool x.2.2.2)], fun x => [(80, .box [.str (rdOf ByteArray.empty l0 0), .int .i64 x.2.1, .str (⟨#[]⟩ : ByteArray), .str (⟨#[]⟩ : ByteArray), .int .i64 0, .int .i64 0, .str (⟨#[]⟩ : ByteArray), .str (⟨#[]⟩ : ByteArray)])], fun x => [], h1, ?_⟩
  rintro ⟨k, x1080001, x5, x6⟩ ⟨H, hk⟩
  exact h2 k x1080001 x5 x6 hk H
theorem impl_phaseOf.ac {k : Nat} {l0 : List ByteArray} {r : ByteArray × Int × ByteArray × ByteArray × Int × Int × ByteArray × ByteArray × Bool} (H : impl_phaseOf.f k l0 = some r) : ACalls Tryd.prog G 70 [] [(sv_str l0)] [] (.tup [.agg [.str r.1, .int .i64 r.2.1, .str r.2.2.1, .str r.2.2.2.1, .int .i64 r.2.2.2.2.1, .int .i64 r.2.2.2.2.2.1, .str r.2.2.2.2.2.2.1, .str r.2.2.2.2.2.2.2.1], .bool r.2.2.2.2.2.2.2.2]) := by
  refine acalls_of tok hP Tryd.func70 rfl (by kernel_rfl) [.cell 2 73, .tmp 3] rfl (by kernel_rfl) (Nat.le_of_ble_eq_true rfl) (.l .n (.l .n (.c .n (.l .n (.j (.l .n (.l .n (.l .n (.l .n (.l .n (.c .n .n)))))) (.c .n (.l .n (.l .n (.l .n (.c .n (.c .n (.l .n (.c .n (.l .n (.j .n (.c .n (.l .n (.c .n (.c .n .n))))))))))))))))))) rfl ?_
  unfold impl_phaseOf.f at H
  conv => whnf
  refine br_d H (fun c H => ?_) (fun c H => ?_)
  conv => whnf
  injection H with H; subst H
  exact ret_tup [] (rtAL_cons (rtA_agg (rtL_cons (rt_eq rfl) (rtL_cons (rt_eq rfl) (rtL_cons (rt_eq rfl) (rtL_cons (rt_eq rfl) (rtL_cons (rt_eq rfl) (rtL_cons (rt_eq rfl) (rtL_cons (rt_eq rfl) (rtL_cons (rt_eq rfl) (rtL_nil)))))))))) (rtAL_cons (rtA_eq rfl) (rtAL_nil)))
  conv => whnf
  refine Nd.mk (by decide) ?_
  conv => whnf
  refine nd_ H (fun c H => ?_)
  conv => whnf
  refine El.mk (rdm_en_str _ _ nf_ nf_) ?_
  conv => whnf
  refine cut_ 96 [(1, .bp 0 0), (2, .bp 8 0), (4, .bp 80 0)] [(0, .box [(sv_str l0)]), (8, .box [.str (⟨#[]⟩ : ByteArray), .int .i64 0, .str (⟨#[]⟩ : ByteArray), .str (⟨#[]⟩ : ByteArray), .int .i64 0, .int .i64 0, .str (⟨#[]⟩ : ByteArray), .str (⟨#[]⟩ : ByteArray)]), (80, .box [.str (rdOf ByteArray.empty l0 0), .int .i64 0, .str (⟨#[]⟩ : ByteArray), .str (⟨#[]⟩ : ByteArray), .int .i64 0, .int .i64 0, .str (⟨#[]⟩ : ByteArray), .str (⟨#[]⟩ : ByteArray)])] rfl ⟨.inl rfl, ⟨.inl rfl, ⟨.inl rfl, trivial⟩⟩⟩ ⟨rfl, ⟨rfl, ⟨rfl, trivial⟩⟩⟩ ?_
  conv => whnf
  refine impl_phaseOf.j6_sq (l0 := l0) (KK := k + 1) (r := r) ?_ ?_
  conv => whnf
  refine Nd.mk (by decide) ?_
  conv => whnf
  refine nd_ H (fun c H => ?_)
  conv => whnf
  refine El.mk (rdm_en_str _ _ nf_ nf_) ?_
  conv => whnf
  refine br_d H (fun c H => ?_) (fun c H => ?_)
  conv => whnf
  exact ⟨(k, 1, true, true), [], ⟨H, lt_⟩, (fits_of ⟨.inl ⟨rfl, rfl⟩, ⟨.inl ⟨rfl, rfl⟩, trivial⟩⟩ trivial fi_ ⟨⟨_, rfl⟩, ⟨_, rfl, ⟨.inl ⟨rfl, rfl⟩, ⟨.inl ⟨rfl, rfl⟩, ⟨.inl ⟨rfl, rfl⟩, ⟨.inl ⟨rfl, rfl⟩, ⟨.inl ⟨rfl, rfl⟩, ⟨.inl ⟨rfl, rfl⟩, ⟨.inl ⟨rfl, rfl⟩, ⟨.inl ⟨rfl, rfl⟩, trivial⟩⟩⟩⟩⟩⟩⟩⟩⟩, trivial⟩ rfl)⟩
  conv => whnf
  refine br_d H (fun c H => ?_) (fun c H => ?_)
  conv => whnf
  exact ⟨(k, 2, true, true), [], ⟨H, lt_⟩, (fits_of ⟨.inl ⟨rfl, rfl⟩, ⟨.inl ⟨rfl, rfl⟩, trivial⟩⟩ trivial fi_ ⟨⟨_, rfl⟩, ⟨_, rfl, ⟨.inl ⟨rfl, rfl⟩, ⟨.inl ⟨rfl, rfl⟩, ⟨.inl ⟨rfl, rfl⟩, ⟨.inl ⟨rfl, rfl⟩, ⟨.inl ⟨rfl, rfl⟩, ⟨.inl ⟨rfl, rfl⟩, ⟨.inl ⟨rfl, rfl⟩, ⟨.inl ⟨rfl, rfl⟩, trivial⟩⟩⟩⟩⟩⟩⟩⟩⟩, trivial⟩ rfl)⟩
  conv => whnf
  refine cut_ 184 [(1, .bp 0 0), (2, .bp 8 0), (4, .bp 80 0), (5, .bool false), (6, .bool false), (23, .str (rdOf ByteArray.empty l0 1)), (31, .bool (decide ((rdOf ByteArray.empty l0 1).toList = (⟨#[104, 111, 108, 100]⟩ : ByteArray).toList)))] [(0, .box [(sv_str l0)]), (8, .box [.str (⟨#[]⟩ : ByteArray), .int .i64 0, .str (⟨#[]⟩ : ByteArray), .str (⟨#[]⟩ : ByteArray), .int .i64 0, .int .i64 0, .str (⟨#[]⟩ : ByteArray), .str (⟨#[]⟩ : ByteArray)]), (80, .box [.str (rdOf ByteArray.empty l0 0), .int .i64 0, .str (⟨#[]⟩ : ByteArray), .str (⟨#[]⟩ : ByteArray), .int .i64 0, .int .i64 0, .str (⟨#[]⟩ : ByteArray), .str (⟨#[]⟩ : ByteArray)])] rfl ⟨.inl rfl, ⟨.inl rfl, ⟨.inl rfl, ⟨.inl rfl, ⟨.inl rfl, ⟨.inl rfl, ⟨.inl rfl, trivial⟩⟩⟩⟩⟩⟩⟩ ⟨rfl, ⟨rfl, ⟨rfl, trivial⟩⟩⟩ ?_
  conv => whnf
  refine br_d H (fun c H => ?_) (fun c H => ?_)
  conv => whnf
  exact ⟨(k, 3, false, true), [], ⟨H, lt_⟩, (fits_of ⟨.inl ⟨rfl, rfl⟩, ⟨.inl ⟨rfl, rfl⟩, trivial⟩⟩ trivial fi_ ⟨⟨_, rfl⟩, ⟨_, rfl, ⟨.inl ⟨rfl, rfl⟩, ⟨.inl ⟨rfl, rfl⟩, ⟨.inl ⟨rfl, rfl⟩, ⟨.inl ⟨rfl, rfl⟩, ⟨.inl ⟨rfl, rfl⟩, ⟨.inl ⟨rfl, rfl⟩, ⟨.inl ⟨rfl, rfl⟩, ⟨.inl ⟨rfl, rfl⟩, trivial⟩⟩⟩⟩⟩⟩⟩⟩⟩, trivial⟩ rfl)⟩
  conv => whnf
  refine br_d H (fun c H => ?_) (fun c H => ?_)
  conv => whnf
  exact ⟨(k, 4, false, false), [], ⟨H, lt_⟩, (fits_of ⟨.inl ⟨rfl, rfl⟩, ⟨.inl ⟨rfl, rfl⟩, trivial⟩⟩ trivial fi_ ⟨⟨_, rfl⟩, ⟨_, rfl, ⟨.inl ⟨rfl, rfl⟩, ⟨.inl ⟨rfl, rfl⟩, ⟨.inl ⟨rfl, rfl⟩, ⟨.inl ⟨rfl, rfl⟩, ⟨.inl ⟨rfl, rfl⟩, ⟨.inl ⟨rfl, rfl⟩, ⟨.inl ⟨rfl, rfl⟩, ⟨.inl ⟨rfl, rfl⟩, trivial⟩⟩⟩⟩⟩⟩⟩⟩⟩, trivial⟩ rfl)⟩
  conv => whnf
  refine br_d H (fun c H => ?_) (fun c H => ?_)
  conv => whnf
  exact ⟨(k, 5, false, false), [], ⟨H, lt_⟩, (fits_of ⟨.inl ⟨rfl, rfl⟩, ⟨.inl ⟨rfl, rfl⟩, trivial⟩⟩ trivial fi_ ⟨⟨_, rfl⟩, ⟨_, rfl, ⟨.inl ⟨rfl, rfl⟩, ⟨.inl ⟨rfl, rfl⟩, ⟨.inl ⟨rfl, rfl⟩, ⟨.inl ⟨rfl, rfl⟩, ⟨.inl ⟨rfl, rfl⟩, ⟨.inl ⟨rfl, rfl⟩, ⟨.inl ⟨rfl, rfl⟩, ⟨.inl ⟨rfl, rfl⟩, trivial⟩⟩⟩⟩⟩⟩⟩⟩⟩, trivial⟩ rfl)⟩
  conv => whnf
  injection H with H; subst H
  exact ret_tup [] (rtAL_cons (rtA_agg (rtL_cons (rt_eq rfl) (rtL_cons (rt_eq rfl) (rtL_cons (rt_eq rfl) (rtL_cons (rt_eq rfl) (rtL_cons (rt_eq rfl) (rtL_cons (rt_eq rfl) (rtL_cons (rt_eq rfl) (rtL_cons (rt_eq rfl) (rtL_nil)))))))))) (rtAL_cons (rtA_eq rfl) (rtAL_nil)))
  intro k x1080001 x5 x6 hk H; rcases k with _ | k; exact none_elim H; rw [impl_phaseOf.j6] at H; conv => whnf
  refine Nd.mk (by decide) ?_
  conv => whnf
  refine nd_ H (fun c H => ?_)
  conv => whnf
  refine cut_ 136 [(1, .bp 0 0), (2, .bp 8 0), (4, .bp 80 0), (5, .bool x5), (6, .bool x6)] [(0, .box [.sl 1 (l0.length - (2 : Int).toNat) ((l0.drop (2 : Int).toNat).map en_str)]), (8, .box [.str (⟨#[]⟩ : ByteArray), .int .i64 0, .str (⟨#[]⟩ : ByteArray), .str (⟨#[]⟩ : ByteArray), .int .i64 0, .int .i64 0, .str (⟨#[]⟩ : ByteArray), .str (⟨#[]⟩ : ByteArray)]), (80, .box [.str (rdOf ByteArray.empty l0 0), .int .i64 x1080001, .str (⟨#[]⟩ : ByteArray), .str (⟨#[]⟩ : ByteArray), .int .i64 0, .int .i64 0, .str (⟨#[]⟩ : ByteArray), .str (⟨#[]⟩ : ByteArray)])] rfl ⟨.inl rfl, ⟨.inl rfl, ⟨.inl rfl, ⟨.inl rfl, ⟨.inl rfl, trivial⟩⟩⟩⟩⟩ ⟨bx_eq rfl ⟨sl_e rfl lm_ lm_, trivial⟩, ⟨rfl, ⟨rfl, trivial⟩⟩⟩ ?_
  conv => whnf
  revert H; refine bind_elim (fun t669 A H => ?_)
  refine call_mk2 [0] (impl_phaseOf_1.ac A) ⟨bx_eq rfl ⟨sl_e rfl lm_ lm_, trivial⟩, trivial⟩ rfl rfl rfl rfl rfl rfl rfl rfl ?_
  conv => whnf
  refine br_t H (fun c H => ?_) (fun c H => ?_)
  conv => whnf
  revert H; refine bind_elim (fun t670 A H => ?_)
  refine call_mk2 [0] (impl_phaseOf_1.ac A) ⟨rfl, trivial⟩ rfl rfl rfl rfl rfl rfl rfl rfl ?_
  conv => whnf
  refine cut_ 232 [(1, .bp 0 0), (2, .bp 8 0), (4, .bp 80 0), (6, .bool x6), (7, .cf 107 0), (8, .bool true)] [(0, .box [(sv_str t670.2)]), (8, .box [.str (⟨#[]⟩ : ByteArray), .int .i64 0, .str (⟨#[]⟩ : ByteArray), .str (⟨#[]⟩ : ByteArray), .int .i64 0, .int .i64 0, .str (⟨#[]⟩ : ByteArray), .str (⟨#[]⟩ : ByteArray)]), (80, .box [.str (rdOf ByteArray.empty l0 0), .int .i64 x1080001, .str t669.1, .str t670.1, .int .i64 0, .int .i64 0, .str (⟨#[]⟩ : ByteArray), .str (⟨#[]⟩ : ByteArray)])] rfl ⟨.inl rfl, ⟨.inl rfl, ⟨.inl rfl, ⟨.inl rfl, ⟨.inl rfl, ⟨.inl rfl, trivial⟩⟩⟩⟩⟩⟩ ⟨rfl, ⟨rfl, ⟨rfl, trivial⟩⟩⟩ ?_
  conv => whnf
  refine br_t H (fun c H => ?_) (fun c H => ?_)
  conv => whnf
  revert H; refine bind_elim (fun t671 A H => ?_)
  refine call_mk2 [0] (impl_phaseOf_1.ac A) ⟨rfl, trivial⟩ rfl rfl rfl rfl rfl rfl rfl rfl ?_
  conv => whnf
  revert H; refine bind_elim (fun t672 A H => ?_)
  refine call_mk (impl_decimal.ac A) (avAL_cons (avA_shut' rfl) (avAL_nil)) (Or.inl rfl) rfl rfl (Nat.le_of_ble_eq_true rfl) ?_
  conv => whnf
  refine cut_ 344 [(1, .bp 0 0), (2, .bp 8 0), (4, .bp 80 0), (7, .cf 107 0), (8, .bool t672.2)] [(0, .box [(sv_str t671.2)]), (8, .box [.str (⟨#[]⟩ : ByteArray), .int .i64 0, .str (⟨#[]⟩ : ByteArray), .str (⟨#[]⟩ : ByteArray), .int .i64 0, .int .i64 0, .str (⟨#[]⟩ : ByteArray), .str (⟨#[]⟩ : ByteArray)]), (80, .box [.str (rdOf ByteArray.empty l0 0), .int .i64 x1080001, .str t669.1, .str t670.1, .int .i64 t672.1, .int .i64 0, .str (⟨#[]⟩ : ByteArray), .str (⟨#[]⟩ : ByteArray)])] rfl ⟨.inl rfl, ⟨.inl rfl, ⟨.inl rfl, ⟨.inl rfl, ⟨.inl rfl, trivial⟩⟩⟩⟩⟩ ⟨rfl, ⟨rfl, ⟨rfl, trivial⟩⟩⟩ ?_
  conv => whnf
  refine br_t H (fun c H => ?_) (fun c H => ?_)
  conv => whnf
  refine Br.t ft_ ?_
  conv => whnf
  revert H; refine bind_elim (fun t673 A H => ?_)
  refine call_mk2 [0] (impl_phaseOf_1.ac A) ⟨rfl, trivial⟩ rfl rfl rfl rfl rfl rfl rfl rfl ?_
  conv => whnf
  refine Br.t ft_ ?_
  conv => whnf
  refine Br.t ft_ ?_
  conv => whnf
  revert H; refine bind_elim (fun t674 A H => ?_)
  refine call_mk2 [0] (impl_phaseOf_1.ac A) ⟨rfl, trivial⟩ rfl rfl rfl rfl rfl rfl rfl rfl ?_
  conv => whnf
  revert H; refine bind_elim (fun t675 A H => ?_)
  refine call_mk (impl_decimal.ac A) (avAL_cons (avA_shut' rfl) (avAL_nil)) (Or.inl rfl) rfl rfl (Nat.le_of_ble_eq_true rfl) ?_
  conv => whnf
  refine cut_ 464 [(1, .bp 0 0), (2, .bp 8 0), (4, .bp 80 0), (7, .cf 107 0), (8, .bool (decide (t673.1.toList = (⟨#[119, 105, 116, 104, 105, 110]⟩ : ByteArray).toList))), (11, .int .i64 t675.1), (12, .bool t675.2)] [(0, .box [(sv_str t674.2)]), (8, .box [.str (⟨#[]⟩ : ByteArray), .int .i64 0, .str (⟨#[]⟩ : ByteArray), .str (⟨#[]⟩ : ByteArray), .int .i64 0, .int .i64 0, .str (⟨#[]⟩ : ByteArray), .str (⟨#[]⟩ : ByteArray)]), (80, .box [.str (rdOf ByteArray.empty l0 0), .int .i64 x1080001, .str t669.1, .str t670.1, .int .i64 t672.1, .int .i64 0, .str (⟨#[]⟩ : ByteArray), .str (⟨#[]⟩ : ByteArray)])] rfl ⟨.inl rfl, ⟨.inl rfl, ⟨.inl rfl, ⟨.inl rfl, ⟨.inl rfl, ⟨.inl rfl, ⟨.inl rfl, trivial⟩⟩⟩⟩⟩⟩⟩ ⟨rfl, ⟨rfl, ⟨rfl, trivial⟩⟩⟩ ?_
  conv => whnf
  refine impl_phaseOf.j0_sq (l0 := l0) (x1080001 := x1080001) (t669 := t669) (t670 := t670) (t672 := t672) (t675 := t675) (KK := k + 1) (r := r) ?_ ?_
  conv => whnf
  refine br_d H (fun c H => ?_) (fun c H => ?_)
  conv => whnf
  refine Br.t ft_ ?_
  conv => whnf
  refine br_t H (fun c H => ?_) (fun c H => ?_)
  conv => whnf
  refine Br.t ft_ ?_
  conv => whnf
  revert H; refine bind_elim (fun t683 A H => ?_)
  refine call_mk2 [0] (impl_phaseOf_1.ac A) ⟨rfl, trivial⟩ rfl rfl rfl rfl rfl rfl rfl rfl ?_
  conv => whnf
  refine Br.t ft_ ?_
  conv => whnf
  refine Br.t ft_ ?_
  conv => whnf
  exact ⟨(k, t683.2, decide (t683.1.toList = (⟨#[116, 104, 101, 110]⟩ : ByteArray).toList)), [], ⟨H, lt_⟩, (fits_of ⟨.inl ⟨rfl, rfl⟩, trivial⟩ trivial fi_ ⟨⟨_, rfl⟩, ⟨_, rfl, ⟨.inl ⟨rfl, rfl⟩, trivial⟩⟩, trivial⟩ rfl)⟩
  conv => whnf
  refine Br.f ff_ ?_
  conv => whnf
  refine Br.f ff_ ?_
  conv => whnf
  refine Br.f ff_ ?_
  conv => whnf
  exact ⟨(k, t674.2, false), [], ⟨H, lt_⟩, (fits_of ⟨.inl ⟨rfl, rfl⟩, trivial⟩ trivial fi_ ⟨⟨_, rfl⟩, ⟨_, rfl, ⟨.inl ⟨rfl, rfl⟩, trivial⟩⟩, trivial⟩ rfl)⟩
  conv => whnf
  refine Br.f ff_ ?_
  conv => whnf
  refine Br.f rfl ?_
  conv => whnf
  refine Br.f rfl ?_
  conv => whnf
  refine Br.f rfl ?_
  conv => whnf
  refine Br.f rfl ?_
  conv => whnf
  exact ⟨(k, t674.2, false), [], ⟨H, lt_⟩, (fits_of ⟨.inl ⟨rfl, rfl⟩, trivial⟩ trivial fi_ ⟨⟨_, rfl⟩, ⟨_, rfl, ⟨.inl ⟨rfl, rfl⟩, trivial⟩⟩, trivial⟩ rfl)⟩
  intro k x1000000 x8 hk H; rcases k with _ | k; exact none_elim H; rw [impl_phaseOf.j0] at H; conv => whnf
  revert H; refine bind_elim (fun t678 A H => ?_)
  refine call_mk2 [0] (impl_phaseOf_1.ac A) ⟨rfl, trivial⟩ rfl rfl rfl rfl rfl rfl rfl rfl ?_
  conv => whnf
  refine cut_ 520 [(1, .bp 0 0), (2, .bp 8 0), (4, .bp 80 0), (7, .cf 107 0), (8, .bool x8)] [(0, .box [(sv_str t678.2)]), (8, .box [.str (⟨#[]⟩ : ByteArray), .int .i64 0, .str (⟨#[]⟩ : ByteArray), .str (⟨#[]⟩ : ByteArray), .int .i64 0, .int .i64 0, .str (⟨#[]⟩ : ByteArray), .str (⟨#[]⟩ : ByteArray)]), (80, .box [.str (rdOf ByteArray.empty l0 0), .int .i64 x1080001, .str t669.1, .str t670.1, .int .i64 t672.1, .int .i64 t675.1, .str t678.1, .str (⟨#[]⟩ : ByteArray)])] rfl ⟨.inl rfl, ⟨.inl rfl, ⟨.inl rfl, ⟨.inl rfl, ⟨.inl rfl, trivial⟩⟩⟩⟩⟩ ⟨rfl, ⟨rfl, ⟨rfl, trivial⟩⟩⟩ ?_
  conv => whnf
  refine br_t H (fun c H => ?_) (fun c H => ?_)
  conv => whnf
  refine Br.t ft_ ?_
  conv => whnf
  revert H; refine bind_elim (fun t679 A H => ?_)
  refine call_mk2 [0] (impl_phaseOf_1.ac A) ⟨rfl, trivial⟩ rfl rfl rfl rfl rfl rfl rfl rfl ?_
  conv => whnf
  refine Br.t ft_ ?_
  conv => whnf
  refine Br.t ft_ ?_
  conv => whnf
  revert H; refine bind_elim (fun t680 A H => ?_)
  refine call_mk2 [0] (impl_phaseOf_1.ac A) ⟨rfl, trivial⟩ rfl rfl rfl rfl rfl rfl rfl rfl ?_
  conv => whnf
  refine cut_ 608 [(1, .bp 0 0), (2, .bp 8 0), (4, .bp 80 0), (8, .bool (decide (t679.1.toList = (⟨#[101, 108, 115, 101]⟩ : ByteArray).toList)))] [(0, .box [(sv_str t680.2)]), (8, .box [.str (⟨#[]⟩ : ByteArray), .int .i64 0, .str (⟨#[]⟩ : ByteArray), .str (⟨#[]⟩ : ByteArray), .int .i64 0, .int .i64 0, .str (⟨#[]⟩ : ByteArray), .str (⟨#[]⟩ : ByteArray)]), (80, .box [.str (rdOf ByteArray.empty l0 0), .int .i64 x1080001, .str t669.1, .str t670.1, .int .i64 t672.1, .int .i64 t675.1, .str t678.1, .str t680.1])] rfl ⟨.inl rfl, ⟨.inl rfl, ⟨.inl rfl, ⟨.inl rfl, trivial⟩⟩⟩⟩ ⟨rfl, ⟨rfl, ⟨rfl, trivial⟩⟩⟩ ?_
  conv => whnf
  refine br_d H (fun c H => ?_) (fun c H => ?_)
  conv => whnf
  refine Br.t ft_ ?_
  conv => whnf
  refine Br.t ft_ ?_
  conv => whnf
  refine Br.t ft_ ?_
  conv => whnf
  refine br_d H (fun c H => ?_) (fun c H => ?_)
  conv => whnf
  refine Br.t ft_ ?_
  conv => whnf
  revert H; refine bind_elim (fun t681 A H => ?_)
  refine call_mk (impl_RecPhaseOk.ac A) (avAL_cons (avA_agg (avL_cons (av_shut' rfl) (avL_cons (av_shut' rfl) (avL_cons (av_shut' rfl) (avL_cons (av_shut' rfl) (avL_cons (av_shut' rfl) (avL_cons (av_shut' rfl) (avL_cons (av_shut' rfl) (avL_cons (av_shut' rfl) (avL_nil)))))))))) (avAL_nil)) (Or.inl rfl) rfl rfl (Nat.le_of_ble_eq_true rfl) ?_
  conv => whnf
  refine Br.t ft_ ?_
  conv => whnf
  refine cut_ 712 [(2, .bp 8 0), (3, .bool t681)] [(8, .box [.str (rdOf ByteArray.empty l0 0), .int .i64 x1080001, .str t669.1, .str t670.1, .int .i64 t672.1, .int .i64 t675.1, .str t678.1, .str t680.1])] rfl ⟨.inl rfl, ⟨.inl rfl, trivial⟩⟩ ⟨rfl, trivial⟩ ?_
  conv => whnf
  injection H with H; subst H
  exact ret_tup [] (rtAL_cons (rtA_agg (rtL_cons (rt_eq rfl) (rtL_cons (rt_eq rfl) (rtL_cons (rt_eq rfl) (rtL_cons (rt_eq rfl) (rtL_cons (rt_eq rfl) (rtL_cons (rt_eq rfl) (rtL_cons (rt_eq rfl) (rtL_cons (rt_eq rfl) (rtL_nil)))))))))) (rtAL_cons (rtA_eq rfl) (rtAL_nil)))
  conv => whnf
  refine Br.f ff_ ?_
  conv => whnf
  refine Br.f ff_ ?_
  conv => whnf
  refine cut_ 712 [(2, .bp 8 0), (3, .bool false)] [(8, .box [.str (rdOf ByteArray.empty l0 0), .int .i64 x1080001, .str t669.1, .str t670.1, .int .i64 t672.1, .int .i64 t675.1, .str t678.1, .str t680.1])] rfl ⟨.inl rfl, ⟨.inl rfl, trivial⟩⟩ ⟨rfl, trivial⟩ ?_
  conv => whnf
  injection H with H; subst H
  exact ret_tup [] (rtAL_cons (rtA_agg (rtL_cons (rt_eq rfl) (rtL_cons (rt_eq rfl) (rtL_cons (rt_eq rfl) (rtL_cons (rt_eq rfl) (rtL_cons (rt_eq rfl) (rtL_cons (rt_eq rfl) (rtL_cons (rt_eq rfl) (rtL_cons (rt_eq rfl) (rtL_nil)))))))))) (rtAL_cons (rtA_eq rfl) (rtAL_nil)))
  conv => whnf
  refine Br.f ff_ ?_
  conv => whnf
  refine Br.f ff_ ?_
  conv => whnf
  refine Br.f ff_ ?_
  conv => whnf
  refine Br.f rfl ?_
  conv => whnf
  refine Br.f rfl ?_
  conv => whnf
  refine Br.f rfl ?_
  conv => whnf
  refine cut_ 712 [(2, .bp 8 0), (3, .bool false)] [(8, .box [.str (rdOf ByteArray.empty l0 0), .int .i64 x1080001, .str t669.1, .str t670.1, .int .i64 t672.1, .int .i64 t675.1, .str t678.1, .str t680.1])] rfl ⟨.inl rfl, ⟨.inl rfl, trivial⟩⟩ ⟨rfl, trivial⟩ ?_
  conv => whnf
  injection H with H; subst H
  exact ret_tup [] (rtAL_cons (rtA_agg (rtL_cons (rt_eq rfl) (rtL_cons (rt_eq rfl) (rtL_cons (rt_eq rfl) (rtL_cons (rt_eq rfl) (rtL_cons (rt_eq rfl) (rtL_cons (rt_eq rfl) (rtL_cons (rt_eq rfl) (rtL_cons (rt_eq rfl) (rtL_nil)))))))))) (rtAL_cons (rtA_eq rfl) (rtAL_nil)))
  conv => whnf
  refine Br.f ff_ ?_
  conv => whnf
  refine Br.f ff_ ?_
  conv => whnf
  refine Br.f ff_ ?_
  conv => whnf
  revert H; refine bind_elim (fun t682 A H => ?_)
  refine call_mk2 [0] (impl_phaseOf_1.ac A) ⟨rfl, trivial⟩ rfl rfl rfl rfl rfl rfl rfl rfl ?_
  conv => whnf
  refine cut_ 608 [(1, .bp 0 0), (2, .bp 8 0), (4, .bp 80 0), (8, .bool false)] [(0, .box [(sv_str t682.2)]), (8, .box [.str (⟨#[]⟩ : ByteArray), .int .i64 0, .str (⟨#[]⟩ : ByteArray), .str (⟨#[]⟩ : ByteArray), .int .i64 0, .int .i64 0, .str (⟨#[]⟩ : ByteArray), .str (⟨#[]⟩ : ByteArray)]), (80, .box [.str (rdOf ByteArray.empty l0 0), .int .i64 x1080001, .str t669.1, .str t670.1, .int .i64 t672.1, .int .i64 t675.1, .str t678.1, .str t682.1])] rfl ⟨.inl rfl, ⟨.inl rfl, ⟨.inl rfl, ⟨.inl rfl, trivial⟩⟩⟩⟩ ⟨rfl, ⟨rfl, ⟨rfl, trivial⟩⟩⟩ ?_
  conv => whnf
  refine Br.f rfl ?_
  conv => whnf
  refine Br.f rfl ?_
  conv => whnf
  refine Br.f rfl ?_
  conv => whnf
  refine Br.f rfl ?_
  conv => whnf
  refine Br.f rfl ?_
  conv => whnf
  refine Br.f rfl ?_
  conv => whnf
  refine Br.f rfl ?_
  conv => whnf
  refine cut_ 712 [(2, .bp 8 0), (3, .bool false)] [(8, .box [.str (rdOf ByteArray.empty l0 0), .int .i64 x1080001, .str t669.1, .str t670.1, .int .i64 t672.1, .int .i64 t675.1, .str t678.1, .str t682.1])] rfl ⟨.inl rfl, ⟨.inl rfl, trivial⟩⟩ ⟨rfl, trivial⟩ ?_
  conv => whnf
  injection H with H; subst H
  exact ret_tup [] (rtAL_cons (rtA_agg (rtL_cons (rt_eq rfl) (rtL_cons (rt_eq rfl) (rtL_cons (rt_eq rfl) (rtL_cons (rt_eq rfl) (rtL_cons (rt_eq rfl) (rtL_cons (rt_eq rfl) (rtL_cons (rt_eq rfl) (rtL_cons (rt_eq rfl) (rtL_nil)))))))))) (rtAL_cons (rtA_eq rfl) (rtAL_nil)))
  conv => whnf
  refine Br.f ff_ ?_
  conv => whnf
  refine Br.f ff_ ?_
  conv => whnf
  refine Br.f ff_ ?_
  conv => whnf
  revert H; refine bind_elim (fun t684 A H => ?_)
  refine call_mk2 [0] (impl_phaseOf_1.ac A) ⟨rfl, trivial⟩ rfl rfl rfl rfl rfl rfl rfl rfl ?_
  conv => whnf
  revert H; refine bind_elim (fun t685 A H => ?_)
  refine call_mk (impl_decimal.ac A) (avAL_cons (avA_shut' rfl) (avAL_nil)) (Or.inl rfl) rfl rfl (Nat.le_of_ble_eq_true rfl) ?_
  conv => whnf
  refine cut_ 464 [(1, .bp 0 0), (2, .bp 8 0), (4, .bp 80 0), (7, .cf 107 0), (8, .bool false), (11, .int .i64 t685.1), (12, .bool t685.2)] [(0, .box [(sv_str t684.2)]), (8, .box [.str (⟨#[]⟩ : ByteArray), .int .i64 0, .str (⟨#[]⟩ : ByteArray), .str (⟨#[]⟩ : ByteArray), .int .i64 0, .int .i64 0, .str (⟨#[]⟩ : ByteArray), .str (⟨#[]⟩ : ByteArray)]), (80, .box [.str (rdOf ByteArray.empty l0 0), .int .i64 x1080001, .str t669.1, .str t670.1, .int .i64 t672.1, .int .i64 0, .str (⟨#[]⟩ : ByteArray), .str (⟨#[]⟩ : ByteArray)])] rfl ⟨.inl rfl, ⟨.inl rfl, ⟨.inl rfl, ⟨.inl rfl, ⟨.inl rfl, ⟨.inl rfl, ⟨.inl rfl, trivial⟩⟩⟩⟩⟩⟩⟩ ⟨rfl, ⟨rfl, ⟨rfl, trivial⟩⟩⟩ ?_
  conv => whnf
  refine impl_phaseOf.j1_sq (l0 := l0) (x1080001 := x1080001) (t669 := t669) (t670 := t670) (t672 := t672) (t684 := t684) (t685 := t685) (KK := k + 1) (r := r) ?_ ?_
  conv => whnf
  refine Br.f rfl ?_
  conv => whnf
  refine Br.f rfl ?_
  conv => whnf
  refine Br.f rfl ?_
  conv => whnf
  refine Br.f rfl ?_
  conv => whnf
  refine Br.f rfl ?_
  conv => whnf
  refine Br.f rfl ?_
  conv => whnf
  exact ⟨k, [], ⟨H, lt_⟩, (fits_of ⟨.inl ⟨rfl, rfl⟩, trivial⟩ trivial fi_ trivial rfl)⟩
  intro k hk H; rcases k with _ | k; exact none_elim H; rw [impl_phaseOf.j1] at H; conv => whnf
  revert H; refine bind_elim (fun t687 A H => ?_)
  refine call_mk2 [0] (impl_phaseOf_1.ac A) ⟨rfl, trivial⟩ rfl rfl rfl rfl rfl rfl rfl rfl ?_
  conv => whnf
  refine cut_ 520 [(1, .bp 0 0), (2, .bp 8 0), (4, .bp 80 0), (7, .cf 107 0), (8, .bool false)] [(0, .box [(sv_str t687.2)]), (8, .box [.str (⟨#[]⟩ : ByteArray), .int .i64 0, .str (⟨#[]⟩ : ByteArray), .str (⟨#[]⟩ : ByteArray), .int .i64 0, .int .i64 0, .str (⟨#[]⟩ : ByteArray), .str (⟨#[]⟩ : ByteArray)]), (80, .box [.str (rdOf ByteArray.empty l0 0), .int .i64 x1080001, .str t669.1, .str t670.1, .int .i64 t672.1, .int .i64 t685.1, .str t687.1, .str (⟨#[]⟩ : ByteArray)])] rfl ⟨.inl rfl, ⟨.inl rfl, ⟨.inl rfl, ⟨.inl rfl, ⟨.inl rfl, trivial⟩⟩⟩⟩⟩ ⟨rfl, ⟨rfl, ⟨rfl, trivial⟩⟩⟩ ?_
  conv => whnf
  refine Br.f rfl ?_
  conv => whnf
  refine Br.f rfl ?_
  conv => whnf
  refine Br.f rfl ?_
  conv => whnf
  refine Br.f rfl ?_
  conv => whnf
  revert H; refine bind_elim (fun t688 A H => ?_)
  refine call_mk2 [0] (impl_phaseOf_1.ac A) ⟨rfl, trivial⟩ rfl rfl rfl rfl rfl rfl rfl rfl ?_
  conv => whnf
  refine cut_ 608 [(1, .bp 0 0), (2, .bp 8 0), (4, .bp 80 0), (8, .bool false)] [(0, .box [(sv_str t688.2)]), (8, .box [.str (⟨#[]⟩ : ByteArray), .int .i64 0, .str (⟨#[]⟩ : ByteArray), .str (⟨#[]⟩ : ByteArray), .int .i64 0, .int .i64 0, .str (⟨#[]⟩ : ByteArray), .str (⟨#[]⟩ : ByteArray)]), (80, .box [.str (rdOf ByteArray.empty l0 0), .int .i64 x1080001, .str t669.1, .str t670.1, .int .i64 t672.1, .int .i64 t685.1, .str t687.1, .str t688.1])] rfl ⟨.inl rfl, ⟨.inl rfl, ⟨.inl rfl, ⟨.inl rfl, trivial⟩⟩⟩⟩ ⟨rfl, ⟨rfl, ⟨rfl, trivial⟩⟩⟩ ?_
  conv => whnf
  refine Br.f rfl ?_
  conv => whnf
  refine Br.f rfl ?_
  conv => whnf
  refine Br.f rfl ?_
  conv => whnf
  refine Br.f rfl ?_
  conv => whnf
  refine Br.f rfl ?_
  conv => whnf
  refine Br.f rfl ?_
  conv => whnf
  refine Br.f rfl ?_
  conv => whnf
  refine cut_ 712 [(2, .bp 8 0), (3, .bool false)] [(8, .box [.str (rdOf ByteArray.empty l0 0), .int .i64 x1080001, .str t669.1, .str t670.1, .int .i64 t672.1, .int .i64 t685.1, .str t687.1, .str t688.1])] rfl ⟨.inl rfl, ⟨.inl rfl, trivial⟩⟩ ⟨rfl, trivial⟩ ?_
  conv => whnf
  injection H with H; subst H
  exact ret_tup [] (rtAL_cons (rtA_agg (rtL_cons (rt_eq rfl) (rtL_cons (rt_eq rfl) (rtL_cons (rt_eq rfl) (rtL_cons (rt_eq rfl) (rtL_cons (rt_eq rfl) (rtL_cons (rt_eq rfl) (rtL_cons (rt_eq rfl) (rtL_cons (rt_eq rfl) (rtL_nil)))))))))) (rtAL_cons (rtA_eq rfl) (rtAL_nil)))
  conv => whnf
  refine cut_ 240 [(1, .bp 0 0), (2, .bp 8 0), (4, .bp 80 0), (7, .cf 107 0), (8, .bool true)] [(0, .box [(sv_str t670.2)]), (8, .box [.str (⟨#[]⟩ : ByteArray), .int .i64 0, .str (⟨#[]⟩ : ByteArray), .str (⟨#[]⟩ : ByteArray), .int .i64 0, .int .i64 0, .str (⟨#[]⟩ : ByteArray), .str (⟨#[]⟩ : ByteArray)]), (80, .box [.str (rdOf ByteArray.empty l0 0), .int .i64 x1080001, .str t669.1, .str t670.1, .int .i64 0, .int .i64 0, .str (⟨#[]⟩ : ByteArray), .str (⟨#[]⟩ : ByteArray)])] rfl ⟨.inl rfl, ⟨.inl rfl, ⟨.inl rfl, ⟨.inl rfl, ⟨.inl rfl, trivial⟩⟩⟩⟩⟩ ⟨rfl, ⟨rfl, ⟨rfl, trivial⟩⟩⟩ ?_
  conv => whnf
  refine Br.t rfl ?_
  conv => whnf
  refine Br.t rfl ?_
  conv => whnf
  revert H; refine bind_elim (fun t689 A H => ?_)
  refine call_mk2 [0] (impl_phaseOf_1.ac A) ⟨rfl, trivial⟩ rfl rfl rfl rfl rfl rfl rfl rfl ?_
  conv => whnf
  refine Br.t rfl ?_
  conv => whnf
  refine Br.t rfl ?_
  conv => whnf
  revert H; refine bind_elim (fun t690 A H => ?_)
  refine call_mk2 [0] (impl_phaseOf_1.ac A) ⟨rfl, trivial⟩ rfl rfl rfl rfl rfl rfl rfl rfl ?_
  conv => whnf
  revert H; refine bind_elim (fun t691 A H => ?_)
  refine call_mk (impl_decimal.ac A) (avAL_cons (avA_shut' rfl) (avAL_nil)) (Or.inl rfl) rfl rfl (Nat.le_of_ble_eq_true rfl) ?_
  conv => whnf
  refine cut_ 360 [(1, .bp 0 0), (2, .bp 8 0), (4, .bp 80 0), (7, .cf 107 0), (8, .bool (decide (t689.1.toList = (⟨#[119, 105, 116, 104, 105, 110]⟩ : ByteArray).toList))), (11, .int .i64 t691.1), (12, .bool t691.2)] [(0, .box [(sv_str t690.2)]), (8, .box [.str (⟨#[]⟩ : ByteArray), .int .i64 0, .str (⟨#[]⟩ : ByteArray), .str (⟨#[]⟩ : ByteArray), .int .i64 0, .int .i64 0, .str (⟨#[]⟩ : ByteArray), .str (⟨#[]⟩ : ByteArray)]), (80, .box [.str (rdOf ByteArray.empty l0 0), .int .i64 x1080001, .str t669.1, .str t670.1, .int .i64 0, .int .i64 0, .str (⟨#[]⟩ : ByteArray), .str (⟨#[]⟩ : ByteArray)])] rfl ⟨.inl rfl, ⟨.inl rfl, ⟨.inl rfl, ⟨.inl rfl, ⟨.inl rfl, ⟨.inl rfl, ⟨.inl rfl, trivial⟩⟩⟩⟩⟩⟩⟩ ⟨rfl, ⟨rfl, ⟨rfl, trivial⟩⟩⟩ ?_
  conv => whnf
  refine impl_phaseOf.j2_sq (l0 := l0) (x1080001 := x1080001) (t669 := t669) (t670 := t670) (t691 := t691) (KK := k + 1) (r := r) ?_ ?_
  conv => whnf
  refine br_d H (fun c H => ?_) (fun c H => ?_)
  conv => whnf
  refine Br.t ft_ ?_
  conv => whnf
  refine br_t H (fun c H => ?_) (fun c H => ?_)
  conv => whnf
  refine Br.t ft_ ?_
  conv => whnf
  revert H; refine bind_elim (fun t699 A H => ?_)
  refine call_mk2 [0] (impl_phaseOf_1.ac A) ⟨rfl, trivial⟩ rfl rfl rfl rfl rfl rfl rfl rfl ?_
  conv => whnf
  refine Br.t ft_ ?_
  conv => whnf
  refine Br.t ft_ ?_
  conv => whnf
  exact ⟨(k, t699.2, decide (t699.1.toList = (⟨#[116, 104, 101, 110]⟩ : ByteArray).toList)), [], ⟨H, lt_⟩, (fits_of ⟨.inl ⟨rfl, rfl⟩, trivial⟩ trivial fi_ ⟨⟨_, rfl⟩, ⟨_, rfl, ⟨.inl ⟨rfl, rfl⟩, trivial⟩⟩, trivial⟩ rfl)⟩
  conv => whnf
  refine Br.f ff_ ?_
  conv => whnf
  refine Br.f ff_ ?_
  conv => whnf
  refine Br.f ff_ ?_
  conv => whnf
  exact ⟨(k, t690.2, false), [], ⟨H, lt_⟩, (fits_of ⟨.inl ⟨rfl, rfl⟩, trivial⟩ trivial fi_ ⟨⟨_, rfl⟩, ⟨_, rfl, ⟨.inl ⟨rfl, rfl⟩, trivial⟩⟩, trivial⟩ rfl)⟩
  conv => whnf
  refine Br.f ff_ ?_
  conv => whnf
  refine Br.f rfl ?_
  conv => whnf
  refine Br.f rfl ?_
  conv => whnf
  refine Br.f rfl ?_
  conv => whnf
  refine Br.f rfl ?_
  conv => whnf
  exact ⟨(k, t690.2, false), [], ⟨H, lt_⟩, (fits_of ⟨.inl ⟨rfl, rfl⟩, trivial⟩ trivial fi_ ⟨⟨_, rfl⟩, ⟨_, rfl, ⟨.inl ⟨rfl, rfl⟩, trivial⟩⟩, trivial⟩ rfl)⟩
  intro k x1000000_1 x8_1 hk H; rcases k with _ | k; exact none_elim H; rw [impl_phaseOf.j2] at H; conv => whnf
  revert H; refine bind_elim (fun t694 A H => ?_)
  refine call_mk2 [0] (impl_phaseOf_1.ac A) ⟨rfl, trivial⟩ rfl rfl rfl rfl rfl rfl rfl rfl ?_
  conv => whnf
  refine cut_ 416 [(1, .bp 0 0), (2, .bp 8 0), (4, .bp 80 0), (7, .cf 107 0), (8, .bool x8_1)] [(0, .box [(sv_str t694.2)]), (8, .box [.str (⟨#[]⟩ : ByteArray), .int .i64 0, .str (⟨#[]⟩ : ByteArray), .str (⟨#[]⟩ : ByteArray), .int .i64 0, .int .i64 0, .str (⟨#[]⟩ : ByteArray), .str (⟨#[]⟩ : ByteArray)]), (80, .box [.str (rdOf ByteArray.empty l0 0), .int .i64 x1080001, .str t669.1, .str t670.1, .int .i64 0, .int .i64 t691.1, .str t694.1, .str (⟨#[]⟩ : ByteArray)])] rfl ⟨.inl rfl, ⟨.inl rfl, ⟨.inl rfl, ⟨.inl rfl, ⟨.inl rfl, trivial⟩⟩⟩⟩⟩ ⟨rfl, ⟨rfl, ⟨rfl, trivial⟩⟩⟩ ?_
  conv => whnf
  refine br_t H (fun c H => ?_) (fun c H => ?_)
  conv => whnf
  refine Br.t ft_ ?_
  conv => whnf
  revert H; refine bind_elim (fun t695 A H => ?_)
  refine call_mk2 [0] (impl_phaseOf_1.ac A) ⟨rfl, trivial⟩ rfl rfl rfl rfl rfl rfl rfl rfl ?_
  conv => whnf
  refine Br.t ft_ ?_
  conv => whnf
  refine Br.t ft_ ?_
  conv => whnf
  revert H; refine bind_elim (fun t696 A H => ?_)
  refine call_mk2 [0] (impl_phaseOf_1.ac A) ⟨rfl, trivial⟩ rfl rfl rfl rfl rfl rfl rfl rfl ?_
  conv => whnf
  refine cut_ 504 [(1, .bp 0 0), (2, .bp 8 0), (4, .bp 80 0), (8, .bool (decide (t695.1.toList = (⟨#[101, 108, 115, 101]⟩ : ByteArray).toList)))] [(0, .box [(sv_str t696.2)]), (8, .box [.str (⟨#[]⟩ : ByteArray), .int .i64 0, .str (⟨#[]⟩ : ByteArray), .str (⟨#[]⟩ : ByteArray), .int .i64 0, .int .i64 0, .str (⟨#[]⟩ : ByteArray), .str (⟨#[]⟩ : ByteArray)]), (80, .box [.str (rdOf ByteArray.empty l0 0), .int .i64 x1080001, .str t669.1, .str t670.1, .int .i64 0, .int .i64 t691.1, .str t694.1, .str t696.1])] rfl ⟨.inl rfl, ⟨.inl rfl, ⟨.inl rfl, ⟨.inl rfl, trivial⟩⟩⟩⟩ ⟨rfl, ⟨rfl, ⟨rfl, trivial⟩⟩⟩ ?_
  conv => whnf
  refine br_d H (fun c H => ?_) (fun c H => ?_)
  conv => whnf
  refine Br.t ft_ ?_
  conv => whnf
  refine Br.t ft_ ?_
  conv => whnf
  refine Br.t ft_ ?_
  conv => whnf
  refine br_d H (fun c H => ?_) (fun c H => ?_)
  conv => whnf
  refine Br.t ft_ ?_
  conv => whnf
  revert H; refine bind_elim (fun t697 A H => ?_)
  refine call_mk (impl_RecPhaseOk.ac A) (avAL_cons (avA_agg (avL_cons (av_shut' rfl) (avL_cons (av_shut' rfl) (avL_cons (av_shut' rfl) (avL_cons (av_shut' rfl) (avL_cons (av_shut' rfl) (avL_cons (av_shut' rfl) (avL_cons (av_shut' rfl) (avL_cons (av_shut' rfl) (avL_nil)))))))))) (avAL_nil)) (Or.inl rfl) rfl rfl (Nat.le_of_ble_eq_true rfl) ?_
  conv => whnf
  refine Br.t ft_ ?_
  conv => whnf
  refine cut_ 608 [(2, .bp 8 0), (3, .bool t697)] [(8, .box [.str (rdOf ByteArray.empty l0 0), .int .i64 x1080001, .str t669.1, .str t670.1, .int .i64 0, .int .i64 t691.1, .str t694.1, .str t696.1])] rfl ⟨.inl rfl, ⟨.inl rfl, trivial⟩⟩ ⟨rfl, trivial⟩ ?_
  conv => whnf
  injection H with H; subst H
  exact ret_tup [] (rtAL_cons (rtA_agg (rtL_cons (rt_eq rfl) (rtL_cons (rt_eq rfl) (rtL_cons (rt_eq rfl) (rtL_cons (rt_eq rfl) (rtL_cons (rt_eq rfl) (rtL_cons (rt_eq rfl) (rtL_cons (rt_eq rfl) (rtL_cons (rt_eq rfl) (rtL_nil)))))))))) (rtAL_cons (rtA_eq rfl) (rtAL_nil)))
  conv => whnf
  refine Br.f ff_ ?_
  conv => whnf
  refine Br.f ff_ ?_
  conv => whnf
  refine cut_ 608 [(2, .bp 8 0), (3, .bool false)] [(8, .box [.str (rdOf ByteArray.empty l0 0), .int .i64 x1080001, .str t669.1, .str t670.1, .int .i64 0, .int .i64 t691.1, .str t694.1, .str t696.1])] rfl ⟨.inl rfl, ⟨.inl rfl, trivial⟩⟩ ⟨rfl, trivial⟩ ?_
  conv => whnf
  injection H with H; subst H
  exact ret_tup [] (rtAL_cons (rtA_agg (rtL_cons (rt_eq rfl) (rtL_cons (rt_eq rfl) (rtL_cons (rt_eq rfl) (rtL_cons (rt_eq rfl) (rtL_cons (rt_eq rfl) (rtL_cons (rt_eq rfl) (rtL_cons (rt_eq rfl) (rtL_cons (rt_eq rfl) (rtL_nil)))))))))) (rtAL_cons (rtA_eq rfl) (rtAL_nil)))
  conv => whnf
  refine Br.f ff_ ?_
  conv => whnf
  refine Br.f ff_ ?_
  conv => whnf
  refine Br.f ff_ ?_
  conv => whnf
  refine Br.f rfl ?_
  conv => whnf
  refine Br.f rfl ?_
  conv => whnf
  refine Br.f rfl ?_
  conv => whnf
  refine cut_ 608 [(2, .bp 8 0), (3, .bool false)] [(8, .box [.str (rdOf ByteArray.empty l0 0), .int .i64 x1080001, .str t669.1, .str t670.1, .int .i64 0, .int .i64 t691.1, .str t694.1, .str t696.1])] rfl ⟨.inl rfl, ⟨.inl rfl, trivial⟩⟩ ⟨rfl, trivial⟩ ?_
  conv => whnf
  injection H with H; subst H
  exact ret_tup [] (rtAL_cons (rtA_agg (rtL_cons (rt_eq rfl) (rtL_cons (rt_eq rfl) (rtL_cons (rt_eq rfl) (rtL_cons (rt_eq rfl) (rtL_cons (rt_eq rfl) (rtL_cons (rt_eq rfl) (rtL_cons (rt_eq rfl) (rtL_cons (rt_eq rfl) (rtL_nil)))))))))) (rtAL_cons (rtA_eq rfl) (rtAL_nil)))
  conv => whnf
  refine Br.f ff_ ?_
  conv => whnf
  refine Br.f ff_ ?_
  conv => whnf
  refine Br.f ff_ ?_
  conv => whnf
  revert H; refine bind_elim (fun t698 A H => ?_)
  refine call_mk2 [0] (impl_phaseOf_1.ac A) ⟨rfl, trivial⟩ rfl rfl rfl rfl rfl rfl rfl rfl ?_
  conv => whnf
  refine cut_ 504 [(1, .bp 0 0), (2, .bp 8 0), (4, .bp 80 0), (8, .bool false)] [(0, .box [(sv_str t698.2)]), (8, .box [.str (⟨#[]⟩ : ByteArray), .int .i64 0, .str (⟨#[]⟩ : ByteArray), .str (⟨#[]⟩ : ByteArray), .int .i64 0, .int .i64 0, .str (⟨#[]⟩ : ByteArray), .str (⟨#[]⟩ : ByteArray)]), (80, .box [.str (rdOf ByteArray.empty l0 0), .int .i64 x1080001, .str t669.1, .str t670.1, .int .i64 0, .int .i64 t691.1, .str t694.1, .str t698.1])] rfl ⟨.inl rfl, ⟨.inl rfl, ⟨.inl rfl, ⟨.inl rfl, trivial⟩⟩⟩⟩ ⟨rfl, ⟨rfl, ⟨rfl, trivial⟩⟩⟩ ?_
  conv => whnf
  refine Br.f rfl ?_
  conv => whnf
  refine Br.f rfl ?_
  conv => whnf
  refine Br.f rfl ?_
  conv => whnf
  refine Br.f rfl ?_
  conv => whnf
  refine Br.f rfl ?_
  conv => whnf
  refine Br.f rfl ?_
  conv => whnf
  refine Br.f rfl ?_
  conv => whnf
  refine cut_ 608 [(2, .bp 8 0), (3, .bool false)] [(8, .box [.str (rdOf ByteArray.empty l0 0), .int .i64 x1080001, .str t669.1, .str t670.1, .int .i64 0, .int .i64 t691.1, .str t694.1, .str t698.1])] rfl ⟨.inl rfl, ⟨.inl rfl, trivial⟩⟩ ⟨rfl, trivial⟩ ?_
  conv => whnf
  injection H with H; subst H
  exact ret_tup [] (rtAL_cons (rtA_agg (rtL_cons (rt_eq rfl) (rtL_cons (rt_eq rfl) (rtL_cons (rt_eq rfl) (rtL_cons (rt_eq rfl) (rtL_cons (rt_eq rfl) (rtL_cons (rt_eq rfl) (rtL_cons (rt_eq rfl) (rtL_cons (rt_eq rfl) (rtL_nil)))))))))) (rtAL_cons (rtA_eq rfl) (rtAL_nil)))
  conv => whnf
  refine cut_ 200 [(1, .bp 0 0), (2, .bp 8 0), (4, .bp 80 0), (6, .bool x6), (7, .cf 107 0), (8, .bool true)] [(0, .box [(sv_str t669.2)]), (8, .box [.str (⟨#[]⟩ : ByteArray), .int .i64 0, .str (⟨#[]⟩ : ByteArray), .str (⟨#[]⟩ : ByteArray), .int .i64 0, .int .i64 0, .str (⟨#[]⟩ : ByteArray), .str (⟨#[]⟩ : ByteArray)]), (80, .box [.str (rdOf ByteArray.empty l0 0), .int .i64 x1080001, .str t669.1, .str (⟨#[]⟩ : ByteArray), .int .i64 0, .int .i64 0, .str (⟨#[]⟩ : ByteArray), .str (⟨#[]⟩ : ByteArray)])] rfl ⟨.inl rfl, ⟨.inl rfl, ⟨.inl rfl, ⟨.inl rfl, ⟨.inl rfl, ⟨.inl rfl, trivial⟩⟩⟩⟩⟩⟩ ⟨rfl, ⟨rfl, ⟨rfl, trivial⟩⟩⟩ ?_
  conv => whnf
  refine br_t H (fun c H => ?_) (fun c H => ?_)
  conv => whnf
  revert H; refine bind_elim (fun t700 A H => ?_)
  refine call_mk2 [0] (impl_phaseOf_1.ac A) ⟨rfl, trivial⟩ rfl rfl rfl rfl rfl rfl rfl rfl ?_
  conv => whnf
  revert H; refine bind_elim (fun t701 A H => ?_)
  refine call_mk (impl_decimal.ac A) (avAL_cons (avA_shut' rfl) (avAL_nil)) (Or.inl rfl) rfl rfl (Nat.le_of_ble_eq_true rfl) ?_
  conv => whnf
  refine cut_ 312 [(1, .bp 0 0), (2, .bp 8 0), (4, .bp 80 0), (7, .cf 107 0), (8, .bool t701.2)] [(0, .box [(sv_str t700.2)]), (8, .box [.str (⟨#[]⟩ : ByteArray), .int .i64 0, .str (⟨#[]⟩ : ByteArray), .str (⟨#[]⟩ : ByteArray), .int .i64 0, .int .i64 0, .str (⟨#[]⟩ : ByteArray), .str (⟨#[]⟩ : ByteArray)]), (80, .box [.str (rdOf ByteArray.empty l0 0), .int .i64 x1080001, .str t669.1, .str (⟨#[]⟩ : ByteArray), .int .i64 t701.1, .int .i64 0, .str (⟨#[]⟩ : ByteArray), .str (⟨#[]⟩ : ByteArray)])] rfl ⟨.inl rfl, ⟨.inl rfl, ⟨.inl rfl, ⟨.inl rfl, ⟨.inl rfl, trivial⟩⟩⟩⟩⟩ ⟨rfl, ⟨rfl, ⟨rfl, trivial⟩⟩⟩ ?_
  conv => whnf
  refine br_t H (fun c H => ?_) (fun c H => ?_)
  conv => whnf
  refine Br.t ft_ ?_
  conv => whnf
  revert H; refine bind_elim (fun t702 A H => ?_)
  refine call_mk2 [0] (impl_phaseOf_1.ac A) ⟨rfl, trivial⟩ rfl rfl rfl rfl rfl rfl rfl rfl ?_
  conv => whnf
  refine Br.t ft_ ?_
  conv => whnf
  refine Br.t ft_ ?_
  conv => whnf
  revert H; refine bind_elim (fun t703 A H => ?_)
  refine call_mk2 [0] (impl_phaseOf_1.ac A) ⟨rfl, trivial⟩ rfl rfl rfl rfl rfl rfl rfl rfl ?_
  conv => whnf
  revert H; refine bind_elim (fun t704 A H => ?_)
  refine call_mk (impl_decimal.ac A) (avAL_cons (avA_shut' rfl) (avAL_nil)) (Or.inl rfl) rfl rfl (Nat.le_of_ble_eq_true rfl) ?_
  conv => whnf
  refine cut_ 432 [(1, .bp 0 0), (2, .bp 8 0), (4, .bp 80 0), (7, .cf 107 0), (8, .bool (decide (t702.1.toList = (⟨#[119, 105, 116, 104, 105, 110]⟩ : ByteArray).toList))), (11, .int .i64 t704.1), (12, .bool t704.2)] [(0, .box [(sv_str t703.2)]), (8, .box [.str (⟨#[]⟩ : ByteArray), .int .i64 0, .str (⟨#[]⟩ : ByteArray), .str (⟨#[]⟩ : ByteArray), .int .i64 0, .int .i64 0, .str (⟨#[]⟩ : ByteArray), .str (⟨#[]⟩ : ByteArray)]), (80, .box [.str (rdOf ByteArray.empty l0 0), .int .i64 x1080001, .str t669.1, .str (⟨#[]⟩ : ByteArray), .int .i64 t701.1, .int .i64 0, .str (⟨#[]⟩ : ByteArray), .str (⟨#[]⟩ : ByteArray)])] rfl ⟨.inl rfl, ⟨.inl rfl, ⟨.inl rfl, ⟨.inl rfl, ⟨.inl rfl, ⟨.inl rfl, ⟨.inl rfl, trivial⟩⟩⟩⟩⟩⟩⟩ ⟨rfl, ⟨rfl, ⟨rfl, trivial⟩⟩⟩ ?_
  conv => whnf
  refine impl_phaseOf.j3_sq (l0 := l0) (x1080001 := x1080001) (t669 := t669) (t701 := t701) (t704 := t704) (KK := k + 1) (r := r) ?_ ?_
  conv => whnf
  refine br_d H (fun c H => ?_) (fun c H => ?_)
  conv => whnf
  refine Br.t ft_ ?_
  conv => whnf
  refine br_t H (fun c H => ?_) (fun c H => ?_)
  conv => whnf
  refine Br.t ft_ ?_
  conv => whnf
  revert H; refine bind_elim (fun t712 A H => ?_)
  refine call_mk2 [0] (impl_phaseOf_1.ac A) ⟨rfl, trivial⟩ rfl rfl rfl rfl rfl rfl rfl rfl ?_
  conv => whnf
  refine Br.t ft_ ?_
  conv => whnf
  refine Br.t ft_ ?_
  conv => whnf
  exact ⟨(k, t712.2, decide (t712.1.toList = (⟨#[116, 104, 101, 110]⟩ : ByteArray).toList)), [], ⟨H, lt_⟩, (fits_of ⟨.inl ⟨rfl, rfl⟩, trivial⟩ trivial fi_ ⟨⟨_, rfl⟩, ⟨_, rfl, ⟨.inl ⟨rfl, rfl⟩, trivial⟩⟩, trivial⟩ rfl)⟩
  conv => whnf
  refine Br.f ff_ ?_
  conv => whnf
  refine Br.f ff_ ?_
  conv => whnf
  refine Br.f ff_ ?_
  conv => whnf
  exact ⟨(k, t703.2, false), [], ⟨H, lt_⟩, (fits_of ⟨.inl ⟨rfl, rfl⟩, trivial⟩ trivial fi_ ⟨⟨_, rfl⟩, ⟨_, rfl, ⟨.inl ⟨rfl, rfl⟩, trivial⟩⟩, trivial⟩ rfl)⟩
  conv => whnf
  refine Br.f ff_ ?_
  conv => whnf
  refine Br.f rfl ?_
  conv => whnf
  refine Br.f rfl ?_
  conv => whnf
  refine Br.f rfl ?_
  conv => whnf
  refine Br.f rfl ?_
  conv => whnf
  exact ⟨(k, t703.2, false), [], ⟨H, lt_⟩, (fits_of ⟨.inl ⟨rfl, rfl⟩, trivial⟩ trivial fi_ ⟨⟨_, rfl⟩, ⟨_, rfl, ⟨.inl ⟨rfl, rfl⟩, trivial⟩⟩, trivial⟩ rfl)⟩
  intro k x1000000_2 x8_2 hk H; rcases k with _ | k; exact none_elim H; rw [impl_phaseOf.j3] at H; conv => whnf
  revert H; refine bind_elim (fun t707 A H => ?_)
  refine call_mk2 [0] (impl_phaseOf_1.ac A) ⟨rfl, trivial⟩ rfl rfl rfl rfl rfl rfl rfl rfl ?_
  conv => whnf
  refine cut_ 488 [(1, .bp 0 0), (2, .bp 8 0), (4, .bp 80 0), (7, .cf 107 0), (8, .bool x8_2)] [(0, .box [(sv_str t707.2)]), (8, .box [.str (⟨#[]⟩ : ByteArray), .int .i64 0, .str (⟨#[]⟩ : ByteArray), .str (⟨#[]⟩ : ByteArray), .int .i64 0, .int .i64 0, .str (⟨#[]⟩ : ByteArray), .str (⟨#[]⟩ : ByteArray)]), (80, .box [.str (rdOf ByteArray.empty l0 0), .int .i64 x1080001, .str t669.1, .str (⟨#[]⟩ : ByteArray), .int .i64 t701.1, .int .i64 t704.1, .str t707.1, .str (⟨#[]⟩ : ByteArray)])] rfl ⟨.inl rfl, ⟨.inl rfl, ⟨.inl rfl, ⟨.inl rfl, ⟨.inl rfl, trivial⟩⟩⟩⟩⟩ ⟨rfl, ⟨rfl, ⟨rfl, trivial⟩⟩⟩ ?_
  conv => whnf
  refine br_t H (fun c H => ?_) (fun c H => ?_)
  conv => whnf
  refine Br.t ft_ ?_
  conv => whnf
  revert H; refine bind_elim (fun t708 A H => ?_)
  refine call_mk2 [0] (impl_phaseOf_1.ac A) ⟨rfl, trivial⟩ rfl rfl rfl rfl rfl rfl rfl rfl ?_
  conv => whnf
  refine Br.t ft_ ?_
  conv => whnf
  refine Br.t ft_ ?_
  conv => whnf
  revert H; refine bind_elim (fun t709 A H => ?_)
  refine call_mk2 [0] (impl_phaseOf_1.ac A) ⟨rfl, trivial⟩ rfl rfl rfl rfl rfl rfl rfl rfl ?_
  conv => whnf
  refine cut_ 576 [(1, .bp 0 0), (2, .bp 8 0), (4, .bp 80 0), (8, .bool (decide (t708.1.toList = (⟨#[101, 108, 115, 101]⟩ : ByteArray).toList)))] [(0, .box [(sv_str t709.2)]), (8, .box [.str (⟨#[]⟩ : ByteArray), .int .i64 0, .str (⟨#[]⟩ : ByteArray), .str (⟨#[]⟩ : ByteArray), .int .i64 0, .int .i64 0, .str (⟨#[]⟩ : ByteArray), .str (⟨#[]⟩ : ByteArray)]), (80, .box [.str (rdOf ByteArray.empty l0 0), .int .i64 x1080001, .str t669.1, .str (⟨#[]⟩ : ByteArray), .int .i64 t701.1, .int .i64 t704.1, .str t707.1, .str t709.1])] rfl ⟨.inl rfl, ⟨.inl rfl, ⟨.inl rfl, ⟨.inl rfl, trivial⟩⟩⟩⟩ ⟨rfl, ⟨rfl, ⟨rfl, trivial⟩⟩⟩ ?_
  conv => whnf
  refine br_d H (fun c H => ?_) (fun c H => ?_)
  conv => whnf
  refine Br.t ft_ ?_
  conv => whnf
  refine Br.t ft_ ?_
  conv => whnf
  refine Br.t ft_ ?_
  conv => whnf
  refine br_d H (fun c H => ?_) (fun c H => ?_)
  conv => whnf
  refine Br.t ft_ ?_
  conv => whnf
  revert H; refine bind_elim (fun t710 A H => ?_)
  refine call_mk (impl_RecPhaseOk.ac A) (avAL_cons (avA_agg (avL_cons (av_shut' rfl) (avL_cons (av_shut' rfl) (avL_cons (av_shut' rfl) (avL_cons (av_shut' rfl) (avL_cons (av_shut' rfl) (avL_cons (av_shut' rfl) (avL_cons (av_shut' rfl) (avL_cons (av_shut' rfl) (avL_nil)))))))))) (avAL_nil)) (Or.inl rfl) rfl rfl (Nat.le_of_ble_eq_true rfl) ?_
  conv => whnf
  refine Br.t ft_ ?_
  conv => whnf
  refine cut_ 680 [(2, .bp 8 0), (3, .bool t710)] [(8, .box [.str (rdOf ByteArray.empty l0 0), .int .i64 x1080001, .str t669.1, .str (⟨#[]⟩ : ByteArray), .int .i64 t701.1, .int .i64 t704.1, .str t707.1, .str t709.1])] rfl ⟨.inl rfl, ⟨.inl rfl, trivial⟩⟩ ⟨rfl, trivial⟩ ?_
  conv => whnf
  injection H with H; subst H
  exact ret_tup [] (rtAL_cons (rtA_agg (rtL_cons (rt_eq rfl) (rtL_cons (rt_eq rfl) (rtL_cons (rt_eq rfl) (rtL_cons (rt_eq rfl) (rtL_cons (rt_eq rfl) (rtL_cons (rt_eq rfl) (rtL_cons (rt_eq rfl) (rtL_cons (rt_eq rfl) (rtL_nil)))))))))) (rtAL_cons (rtA_eq rfl) (rtAL_nil)))
  conv => whnf
  refine Br.f ff_ ?_
  conv => whnf
  refine Br.f ff_ ?_
  conv => whnf
  refine cut_ 680 [(2, .bp 8 0), (3, .bool false)] [(8, .box [.str (rdOf ByteArray.empty l0 0), .int .i64 x1080001, .str t669.1, .str (⟨#[]⟩ : ByteArray), .int .i64 t701.1, .int .i64 t704.1, .str t707.1, .str t709.1])] rfl ⟨.inl rfl, ⟨.inl rfl, trivial⟩⟩ ⟨rfl, trivial⟩ ?_
  conv => whnf
  injection H with H; subst H
  exact ret_tup [] (rtAL_cons (rtA_agg (rtL_cons (rt_eq rfl) (rtL_cons (rt_eq rfl) (rtL_cons (rt_eq rfl) (rtL_cons (rt_eq rfl) (rtL_cons (rt_eq rfl) (rtL_cons (rt_eq rfl) (rtL_cons (rt_eq rfl) (rtL_cons (rt_eq rfl) (rtL_nil)))))))))) (rtAL_cons (rtA_eq rfl) (rtAL_nil)))
  conv => whnf
  refine Br.f ff_ ?_
  conv => whnf
  refine Br.f ff_ ?_
  conv => whnf
  refine Br.f ff_ ?_
  conv => whnf
  refine Br.f rfl ?_
  conv => whnf
  refine Br.f rfl ?_
  conv => whnf
  refine Br.f rfl ?_
  conv => whnf
  refine cut_ 680 [(2, .bp 8 0), (3, .bool false)] [(8, .box [.str (rdOf ByteArray.empty l0 0), .int .i64 x1080001, .str t669.1, .str (⟨#[]⟩ : ByteArray), .int .i64 t701.1, .int .i64 t704.1, .str t707.1, .str t709.1])] rfl ⟨.inl rfl, ⟨.inl rfl, trivial⟩⟩ ⟨rfl, trivial⟩ ?_
  conv => whnf
  injection H with H; subst H
  exact ret_tup [] (rtAL_cons (rtA_agg (rtL_cons (rt_eq rfl) (rtL_cons (rt_eq rfl) (rtL_cons (rt_eq rfl) (rtL_cons (rt_eq rfl) (rtL_cons (rt_eq rfl) (rtL_cons (rt_eq rfl) (rtL_cons (rt_eq rfl) (rtL_cons (rt_eq rfl) (rtL_nil)))))))))) (rtAL_cons (rtA_eq rfl) (rtAL_nil)))
  conv => whnf
  refine Br.f ff_ ?_
  conv => whnf
  refine Br.f ff_ ?_
  conv => whnf
  refine Br.f ff_ ?_
  conv => whnf
  revert H; refine bind_elim (fun t711 A H => ?_)
  refine call_mk2 [0] (impl_phaseOf_1.ac A) ⟨rfl, trivial⟩ rfl rfl rfl rfl rfl rfl rfl rfl ?_
  conv => whnf
  refine cut_ 576 [(1, .bp 0 0), (2, .bp 8 0), (4, .bp 80 0), (8, .bool false)] [(0, .box [(sv_str t711.2)]), (8, .box [.str (⟨#[]⟩ : ByteArray), .int .i64 0, .str (⟨#[]⟩ : ByteArray), .str (⟨#[]⟩ : ByteArray), .int .i64 0, .int .i64 0, .str (⟨#[]⟩ : ByteArray), .str (⟨#[]⟩ : ByteArray)]), (80, .box [.str (rdOf ByteArray.empty l0 0), .int .i64 x1080001, .str t669.1, .str (⟨#[]⟩ : ByteArray), .int .i64 t701.1, .int .i64 t704.1, .str t707.1, .str t711.1])] rfl ⟨.inl rfl, ⟨.inl rfl, ⟨.inl rfl, ⟨.inl rfl, trivial⟩⟩⟩⟩ ⟨rfl, ⟨rfl, ⟨rfl, trivial⟩⟩⟩ ?_
  conv => whnf
  refine Br.f rfl ?_
  conv => whnf
  refine Br.f rfl ?_
  conv => whnf
  refine Br.f rfl ?_
  conv => whnf
  refine Br.f rfl ?_
  conv => whnf
  refine Br.f rfl ?_
  conv => whnf
  refine Br.f rfl ?_
  conv => whnf
  refine Br.f rfl ?_
  conv => whnf
  refine cut_ 680 [(2, .bp 8 0), (3, .bool false)] [(8, .box [.str (rdOf ByteArray.empty l0 0), .int .i64 x1080001, .str t669.1, .str (⟨#[]⟩ : ByteArray), .int .i64 t701.1, .int .i64 t704.1, .str t707.1, .str t711.1])] rfl ⟨.inl rfl, ⟨.inl rfl, trivial⟩⟩ ⟨rfl, trivial⟩ ?_
  conv => whnf
  injection H with H; subst H
  exact ret_tup [] (rtAL_cons (rtA_agg (rtL_cons (rt_eq rfl) (rtL_cons (rt_eq rfl) (rtL_cons (rt_eq rfl) (rtL_cons (rt_eq rfl) (rtL_cons (rt_eq rfl) (rtL_cons (rt_eq rfl) (rtL_cons (rt_eq rfl) (rtL_cons (rt_eq rfl) (rtL_nil)))))))))) (rtAL_cons (rtA_eq rfl) (rtAL_nil)))
  conv => whnf
  refine Br.f ff_ ?_
  conv => whnf
  refine Br.f ff_ ?_
  conv => whnf
  refine Br.f ff_ ?_
  conv => whnf
  revert H; refine bind_elim (fun t713 A H => ?_)
  refine call_mk2 [0] (impl_phaseOf_1.ac A) ⟨rfl, trivial⟩ rfl rfl rfl rfl rfl rfl rfl rfl ?_
  conv => whnf
  revert H; refine bind_elim (fun t714 A H => ?_)
  refine call_mk (impl_decimal.ac A) (avAL_cons (avA_shut' rfl) (avAL_nil)) (Or.inl rfl) rfl rfl (Nat.le_of_ble_eq_true rfl) ?_
  conv => whnf
  refine cut_ 432 [(1, .bp 0 0), (2, .bp 8 0), (4, .bp 80 0), (7, .cf 107 0), (8, .bool false), (11, .int .i64 t714.1), (12, .bool t714.2)] [(0, .box [(sv_str t713.2)]), (8, .box [.str (⟨#[]⟩ : ByteArray), .int .i64 0, .str (⟨#[]⟩ : ByteArray), .str (⟨#[]⟩ : ByteArray), .int .i64 0, .int .i64 0, .str (⟨#[]⟩ : ByteArray), .str (⟨#[]⟩ : ByteArray)]), (80, .box [.str (rdOf ByteArray.empty l0 0), .int .i64 x1080001, .str t669.1, .str (⟨#[]⟩ : ByteArray), .int .i64 t701.1, .int .i64 0, .str (⟨#[]⟩ : ByteArray), .str (⟨#[]⟩ : ByteArray)])] rfl ⟨.inl rfl, ⟨.inl rfl, ⟨.inl rfl, ⟨.inl rfl, ⟨.inl rfl, ⟨.inl rfl, ⟨.inl rfl, trivial⟩⟩⟩⟩⟩⟩⟩ ⟨rfl, ⟨rfl, ⟨rfl, trivial⟩⟩⟩ ?_
  conv => whnf
  refine impl_phaseOf.j4_sq (l0 := l0) (x1080001 := x1080001) (t669 := t669) (t701 := t701) (t713 := t713) (t714 := t714) (KK := k + 1) (r := r) ?_ ?_
  conv => whnf
  refine Br.f rfl ?_
  conv => whnf
  refine Br.f rfl ?_
  conv => whnf
  refine Br.f rfl ?_
  conv => whnf
  refine Br.f rfl ?_
  conv => whnf
  refine Br.f rfl ?_
  conv => whnf
  refine Br.f rfl ?_
  conv => whnf
  exact ⟨k, [], ⟨H, lt_⟩, (fits_of ⟨.inl ⟨rfl, rfl⟩, trivial⟩ trivial fi_ trivial rfl)⟩
  intro k hk H; rcases k with _ | k; exact none_elim H; rw [impl_phaseOf.j4] at H; conv => whnf
  revert H; refine bind_elim (fun t716 A H => ?_)
  refine call_mk2 [0] (impl_phaseOf_1.ac A) ⟨rfl, trivial⟩ rfl rfl rfl rfl rfl rfl rfl rfl ?_
  conv => whnf
  refine cut_ 488 [(1, .bp 0 0), (2, .bp 8 0), (4, .bp 80 0), (7, .cf 107 0), (8, .bool false)] [(0, .box [(sv_str t716.2)]), (8, .box [.str (⟨#[]⟩ : ByteArray), .int .i64 0, .str (⟨#[]⟩ : ByteArray), .str (⟨#[]⟩ : ByteArray), .int .i64 0, .int .i64 0, .str (⟨#[]⟩ : ByteArray), .str (⟨#[]⟩ : ByteArray)]), (80, .box [.str (rdOf ByteArray.empty l0 0), .int .i64 x1080001, .str t669.1, .str (⟨#[]⟩ : ByteArray), .int .i64 t701.1, .int .i64 t714.1, .str t716.1, .str (⟨#[]⟩ : ByteArray)])] rfl ⟨.inl rfl, ⟨.inl rfl, ⟨.inl rfl, ⟨.inl rfl, ⟨.inl rfl, trivial⟩⟩⟩⟩⟩ ⟨rfl, ⟨rfl, ⟨rfl, trivial⟩⟩⟩ ?_
  conv => whnf
  refine Br.f rfl ?_
  conv => whnf
  refine Br.f rfl ?_
  conv => whnf
  refine Br.f rfl ?_
  conv => whnf
  refine Br.f rfl ?_
  conv => whnf
  revert H; refine bind_elim (fun t717 A H => ?_)
  refine call_mk2 [0] (impl_phaseOf_1.ac A) ⟨rfl, trivial⟩ rfl rfl rfl rfl rfl rfl rfl rfl ?_
  conv => whnf
  refine cut_ 576 [(1, .bp 0 0), (2, .bp 8 0), (4, .bp 80 0), (8, .bool false)] [(0, .box [(sv_str t717.2)]), (8, .box [.str (⟨#[]⟩ : ByteArray), .int .i64 0, .str (⟨#[]⟩ : ByteArray), .str (⟨#[]⟩ : ByteArray), .int .i64 0, .int .i64 0, .str (⟨#[]⟩ : ByteArray), .str (⟨#[]⟩ : ByteArray)]), (80, .box [.str (rdOf ByteArray.empty l0 0), .int .i64 x1080001, .str t669.1, .str (⟨#[]⟩ : ByteArray), .int .i64 t701.1, .int .i64 t714.1, .str t716.1, .str t717.1])] rfl ⟨.inl rfl, ⟨.inl rfl, ⟨.inl rfl, ⟨.inl rfl, trivial⟩⟩⟩⟩ ⟨rfl, ⟨rfl, ⟨rfl, trivial⟩⟩⟩ ?_
  conv => whnf
  refine Br.f rfl ?_
  conv => whnf
  refine Br.f rfl ?_
  conv => whnf
  refine Br.f rfl ?_
  conv => whnf
  refine Br.f rfl ?_
  conv => whnf
  refine Br.f rfl ?_
  conv => whnf
  refine Br.f rfl ?_
  conv => whnf
  refine Br.f rfl ?_
  conv => whnf
  refine cut_ 680 [(2, .bp 8 0), (3, .bool false)] [(8, .box [.str (rdOf ByteArray.empty l0 0), .int .i64 x1080001, .str t669.1, .str (⟨#[]⟩ : ByteArray), .int .i64 t701.1, .int .i64 t714.1, .str t716.1, .str t717.1])] rfl ⟨.inl rfl, ⟨.inl rfl, trivial⟩⟩ ⟨rfl, trivial⟩ ?_
  conv => whnf
  injection H with H; subst H
  exact ret_tup [] (rtAL_cons (rtA_agg (rtL_cons (rt_eq rfl) (rtL_cons (rt_eq rfl) (rtL_cons (rt_eq rfl) (rtL_cons (rt_eq rfl) (rtL_cons (rt_eq rfl) (rtL_cons (rt_eq rfl) (rtL_cons (rt_eq rfl) (rtL_cons (rt_eq rfl) (rtL_nil)))))))))) (rtAL_cons (rtA_eq rfl) (rtAL_nil)))
  conv => whnf
  refine cut_ 208 [(1, .bp 0 0), (2, .bp 8 0), (4, .bp 80 0), (7, .cf 107 0), (8, .bool true)] [(0, .box [(sv_str t669.2)]), (8, .box [.str (⟨#[]⟩ : ByteArray), .int .i64 0, .str (⟨#[]⟩ : ByteArray), .str (⟨#[]⟩ : ByteArray), .int .i64 0, .int .i64 0, .str (⟨#[]⟩ : ByteArray), .str (⟨#[]⟩ : ByteArray)]), (80, .box [.str (rdOf ByteArray.empty l0 0), .int .i64 x1080001, .str t669.1, .str (⟨#[]⟩ : ByteArray), .int .i64 0, .int .i64 0, .str (⟨#[]⟩ : ByteArray), .str (⟨#[]⟩ : ByteArray)])] rfl ⟨.inl rfl, ⟨.inl rfl, ⟨.inl rfl, ⟨.inl rfl, ⟨.inl rfl, trivial⟩⟩⟩⟩⟩ ⟨rfl, ⟨rfl, ⟨rfl, trivial⟩⟩⟩ ?_
  conv => whnf
  refine Br.t rfl ?_
  conv => whnf
  refine Br.t rfl ?_
  conv => whnf
  revert H; refine bind_elim (fun t718 A H => ?_)
  refine call_mk2 [0] (impl_phaseOf_1.ac A) ⟨rfl, trivial⟩ rfl rfl rfl rfl rfl rfl rfl rfl ?_
  conv => whnf
  refine Br.t rfl ?_
  conv => whnf
  refine Br.t rfl ?_
  conv => whnf
  revert H; refine bind_elim (fun t719 A H => ?_)
  refine call_mk2 [0] (impl_phaseOf_1.ac A) ⟨rfl, trivial⟩ rfl rfl rfl rfl rfl rfl rfl rfl ?_
  conv => whnf
  revert H; refine bind_elim (fun t720 A H => ?_)
  refine call_mk (impl_decimal.ac A) (avAL_cons (avA_shut' rfl) (avAL_nil)) (Or.inl rfl) rfl rfl (Nat.le_of_ble_eq_true rfl) ?_
  conv => whnf
  refine cut_ 328 [(1, .bp 0 0), (2, .bp 8 0), (4, .bp 80 0), (7, .cf 107 0), (8, .bool (decide (t718.1.toList = (⟨#[119, 105, 116, 104, 105, 110]⟩ : ByteArray).toList))), (11, .int .i64 t720.1), (12, .bool t720.2)] [(0, .box [(sv_str t719.2)]), (8, .box [.str (⟨#[]⟩ : ByteArray), .int .i64 0, .str (⟨#[]⟩ : ByteArray), .str (⟨#[]⟩ : ByteArray), .int .i64 0, .int .i64 0, .str (⟨#[]⟩ : ByteArray), .str (⟨#[]⟩ : ByteArray)]), (80, .box [.str (rdOf ByteArray.empty l0 0), .int .i64 x1080001, .str t669.1, .str (⟨#[]⟩ : ByteArray), .int .i64 0, .int .i64 0, .str (⟨#[]⟩ : ByteArray), .str (⟨#[]⟩ : ByteArray)])] rfl ⟨.inl rfl, ⟨.inl rfl, ⟨.inl rfl, ⟨.inl rfl, ⟨.inl rfl, ⟨.inl rfl, ⟨.inl rfl, trivial⟩⟩⟩⟩⟩⟩⟩ ⟨rfl, ⟨rfl, ⟨rfl, trivial⟩⟩⟩ ?_
  conv => whnf
  refine impl_phaseOf.j5_sq (l0 := l0) (x1080001 := x1080001) (t669 := t669) (t720 := t720) (KK := k + 1) (r := r) ?_ ?_
  conv => whnf
  refine br_d H (fun c H => ?_) (fun c H => ?_)
  conv => whnf
  refine Br.t ft_ ?_
  conv => whnf
  refine br_t H (fun c H => ?_) (fun c H => ?_)
  conv => whnf
  refine Br.t ft_ ?_
  conv => whnf
  revert H; refine bind_elim (fun t728 A H => ?_)
  refine call_mk2 [0] (impl_phaseOf_1.ac A) ⟨rfl, trivial⟩ rfl rfl rfl rfl rfl rfl rfl rfl ?_
  conv => whnf
  refine Br.t ft_ ?_
  conv => whnf
  refine Br.t ft_ ?_
  conv => whnf
  exact ⟨(k, t728.2, decide (t728.1.toList = (⟨#[116, 104, 101, 110]⟩ : ByteArray).toList)), [], ⟨H, lt_⟩, (fits_of ⟨.inl ⟨rfl, rfl⟩, trivial⟩ trivial fi_ ⟨⟨_, rfl⟩, ⟨_, rfl, ⟨.inl ⟨rfl, rfl⟩, trivial⟩⟩, trivial⟩ rfl)⟩
  conv => whnf
  refine Br.f ff_ ?_
  conv => whnf
  refine Br.f ff_ ?_
  conv => whnf
  refine Br.f ff_ ?_
  conv => whnf
  exact ⟨(k, t719.2, false), [], ⟨H, lt_⟩, (fits_of ⟨.inl ⟨rfl, rfl⟩, trivial⟩ trivial fi_ ⟨⟨_, rfl⟩, ⟨_, rfl, ⟨.inl ⟨rfl, rfl⟩, trivial⟩⟩, trivial⟩ rfl)⟩
  conv => whnf
  refine Br.f ff_ ?_
  conv => whnf
  refine Br.f rfl ?_
  conv => whnf
  refine Br.f rfl ?_
  conv => whnf
  refine Br.f rfl ?_
  conv => whnf
  refine Br.f rfl ?_
  conv => whnf
  exact ⟨(k, t719.2, false), [], ⟨H, lt_⟩, (fits_of ⟨.inl ⟨rfl, rfl⟩, trivial⟩ trivial fi_ ⟨⟨_, rfl⟩, ⟨_, rfl, ⟨.inl ⟨rfl, rfl⟩, trivial⟩⟩, trivial⟩ rfl)⟩
  intro k x1000000_3 x8_3 hk H; rcases k with _ | k; exact none_elim H; rw [impl_phaseOf.j5] at H; conv => whnf
  revert H; refine bind_elim (fun t723 A H => ?_)
  refine call_mk2 [0] (impl_phaseOf_1.ac A) ⟨rfl, trivial⟩ rfl rfl rfl rfl rfl rfl rfl rfl ?_
  conv => whnf
  refine cut_ 384 [(1, .bp 0 0), (2, .bp 8 0), (4, .bp 80 0), (7, .cf 107 0), (8, .bool x8_3)] [(0, .box [(sv_str t723.2)]), (8, .box [.str (⟨#[]⟩ : ByteArray), .int .i64 0, .str (⟨#[]⟩ : ByteArray), .str (⟨#[]⟩ : ByteArray), .int .i64 0, .int .i64 0, .str (⟨#[]⟩ : ByteArray), .str (⟨#[]⟩ : ByteArray)]), (80, .box [.str (rdOf ByteArray.empty l0 0), .int .i64 x1080001, .str t669.1, .str (⟨#[]⟩ : ByteArray), .int .i64 0, .int .i64 t720.1, .str t723.1, .str (⟨#[]⟩ : ByteArray)])] rfl ⟨.inl rfl, ⟨.inl rfl, ⟨.inl rfl, ⟨.inl rfl, ⟨.inl rfl, trivial⟩⟩⟩⟩⟩ ⟨rfl, ⟨rfl, ⟨rfl, trivial⟩⟩⟩ ?_
  conv => whnf
  refine br_t H (fun c H => ?_) (fun c H => ?_)
  conv => whnf
  refine Br.t ft_ ?_
  conv => whnf
  revert H; refine bind_elim (fun t724 A H => ?_)
  refine call_mk2 [0] (impl_phaseOf_1.ac A) ⟨rfl, trivial⟩ rfl rfl rfl rfl rfl rfl rfl rfl ?_
  conv => whnf
  refine Br.t ft_ ?_
  conv => whnf
  refine Br.t ft_ ?_
  conv => whnf
  revert H; refine bind_elim (fun t725 A H => ?_)
  refine call_mk2 [0] (impl_phaseOf_1.ac A) ⟨rfl, trivial⟩ rfl rfl rfl rfl rfl rfl rfl rfl ?_
  conv => whnf
  refine cut_ 472 [(1, .bp 0 0), (2, .bp 8 0), (4, .bp 80 0), (8, .bool (decide (t724.1.toList = (⟨#[101, 108, 115, 101]⟩ : ByteArray).toList)))] [(0, .box [(sv_str t725.2)]), (8, .box [.str (⟨#[]⟩ : ByteArray), .int .i64 0, .str (⟨#[]⟩ : ByteArray), .str (⟨#[]⟩ : ByteArray), .int .i64 0, .int .i64 0, .str (⟨#[]⟩ : ByteArray), .str (⟨#[]⟩ : ByteArray)]), (80, .box [.str (rdOf ByteArray.empty l0 0), .int .i64 x1080001, .str t669.1, .str (⟨#[]⟩ : ByteArray), .int .i64 0, .int .i64 t720.1, .str t723.1, .str t725.1])] rfl ⟨.inl rfl, ⟨.inl rfl, ⟨.inl rfl, ⟨.inl rfl, trivial⟩⟩⟩⟩ ⟨rfl, ⟨rfl, ⟨rfl, trivial⟩⟩⟩ ?_
  conv => whnf
  refine br_d H (fun c H => ?_) (fun c H => ?_)
  conv => whnf
  refine Br.t ft_ ?_
  conv => whnf
  refine Br.t ft_ ?_
  conv => whnf
  refine Br.t ft_ ?_
  conv => whnf
  refine br_d H (fun c H => ?_) (fun c H => ?_)
  conv => whnf
  refine Br.t ft_ ?_
  conv => whnf
  revert H; refine bind_elim (fun t726 A H => ?_)
  refine call_mk (impl_RecPhaseOk.ac A) (avAL_cons (avA_agg (avL_cons (av_shut' rfl) (avL_cons (av_shut' rfl) (avL_cons (av_shut' rfl) (avL_cons (av_shut' rfl) (avL_cons (av_shut' rfl) (avL_cons (av_shut' rfl) (avL_cons (av_shut' rfl) (avL_cons (av_shut' rfl) (avL_nil)))))))))) (avAL_nil)) (Or.inl rfl) rfl rfl (Nat.le_of_ble_eq_true rfl) ?_
  conv => whnf
  refine Br.t ft_ ?_
  conv => whnf
  refine cut_ 576 [(2, .bp 8 0), (3, .bool t726)] [(8, .box [.str (rdOf ByteArray.empty l0 0), .int .i64 x1080001, .str t669.1, .str (⟨#[]⟩ : ByteArray), .int .i64 0, .int .i64 t720.1, .str t723.1, .str t725.1])] rfl ⟨.inl rfl, ⟨.inl rfl, trivial⟩⟩ ⟨rfl, trivial⟩ ?_
  conv => whnf
  injection H with H; subst H
  exact ret_tup [] (rtAL_cons (rtA_agg (rtL_cons (rt_eq rfl) (rtL_cons (rt_eq rfl) (rtL_cons (rt_eq rfl) (rtL_cons (rt_eq rfl) (rtL_cons (rt_eq rfl) (rtL_cons (rt_eq rfl) (rtL_cons (rt_eq rfl) (rtL_cons (rt_eq rfl) (rtL_nil)))))))))) (rtAL_cons (rtA_eq rfl) (rtAL_nil)))
  conv => whnf
  refine Br.f ff_ ?_
  conv => whnf
  refine Br.f ff_ ?_
  conv => whnf
  refine cut_ 576 [(2, .bp 8 0), (3, .bool false)] [(8, .box [.str (rdOf ByteArray.empty l0 0), .int .i64 x1080001, .str t669.1, .str (⟨#[]⟩ : ByteArray), .int .i64 0, .int .i64 t720.1, .str t723.1, .str t725.1])] rfl ⟨.inl rfl, ⟨.inl rfl, trivial⟩⟩ ⟨rfl, trivial⟩ ?_
  conv => whnf
  injection H with H; subst H
  exact ret_tup [] (rtAL_cons (rtA_agg (rtL_cons (rt_eq rfl) (rtL_cons (rt_eq rfl) (rtL_cons (rt_eq rfl) (rtL_cons (rt_eq rfl) (rtL_cons (rt_eq rfl) (rtL_cons (rt_eq rfl) (rtL_cons (rt_eq rfl) (rtL_cons (rt_eq rfl) (rtL_nil)))))))))) (rtAL_cons (rtA_eq rfl) (rtAL_nil)))
  conv => whnf
  refine Br.f ff_ ?_
  conv => whnf
  refine Br.f ff_ ?_
  conv => whnf
  refine Br.f ff_ ?_
  conv => whnf
  refine Br.f rfl ?_
  conv => whnf
  refine Br.f rfl ?_
  conv => whnf
  refine Br.f rfl ?_
  conv => whnf
  refine cut_ 576 [(2, .bp 8 0), (3, .bool false)] [(8, .box [.str (rdOf ByteArray.empty l0 0), .int .i64 x1080001, .str t669.1, .str (⟨#[]⟩ : ByteArray), .int .i64 0, .int .i64 t720.1, .str t723.1, .str t725.1])] rfl ⟨.inl rfl, ⟨.inl rfl, trivial⟩⟩ ⟨rfl, trivial⟩ ?_
  conv => whnf
  injection H with H; subst H
  exact ret_tup [] (rtAL_cons (rtA_agg (rtL_cons (rt_eq rfl) (rtL_cons (rt_eq rfl) (rtL_cons (rt_eq rfl) (rtL_cons (rt_eq rfl) (rtL_cons (rt_eq rfl) (rtL_cons (rt_eq rfl) (rtL_cons (rt_eq rfl) (rtL_cons (rt_eq rfl) (rtL_nil)))))))))) (rtAL_cons (rtA_eq rfl) (rtAL_nil)))
  conv => whnf
  refine Br.f ff_ ?_
  conv => whnf
  refine Br.f ff_ ?_
  conv => whnf
  refine Br.f ff_ ?_
  conv => whnf
  revert H; refine bind_elim (fun t727 A H => ?_)
  refine call_mk2 [0] (impl_phaseOf_1.ac A) ⟨rfl, trivial⟩ rfl rfl rfl rfl rfl rfl rfl rfl ?_
  conv => whnf
  refine cut_ 472 [(1, .bp 0 0), (2, .bp 8 0), (4, .bp 80 0), (8, .bool false)] [(0, .box [(sv_str t727.2)]), (8, .box [.str (⟨#[]⟩ : ByteArray), .int .i64 0, .str (⟨#[]⟩ : ByteArray), .str (⟨#[]⟩ : ByteArray), .int .i64 0, .int .i64 0, .str (⟨#[]⟩ : ByteArray), .str (⟨#[]⟩ : ByteArray)]), (80, .box [.str (rdOf ByteArray.empty l0 0), .int .i64 x1080001, .str t669.1, .str (⟨#[]⟩ : ByteArray), .int .i64 0, .int .i64 t720.1, .str t723.1, .str t727.1])] rfl ⟨.inl rfl, ⟨.inl rfl, ⟨.inl rfl, ⟨.inl rfl, trivial⟩⟩⟩⟩ ⟨rfl, ⟨rfl, ⟨rfl, trivial⟩⟩⟩ ?_
  conv => whnf
  refine Br.f rfl ?_
  conv => whnf
  refine Br.f rfl ?_
  conv => whnf
  refine Br.f rfl ?_
  conv => whnf
  refine Br.f rfl ?_
  conv => whnf
  refine Br.f rfl ?_
  conv => whnf
  refine Br.f rfl ?_
  conv => whnf
  refine Br.f rfl ?_
  conv => whnf
  refine cut_ 576 [(2, .bp 8 0), (3, .bool false)] [(8, .box [.str (rdOf ByteArray.empty l0 0), .int .i64 x1080001, .str t669.1, .str (⟨#[]⟩ : ByteArray), .int .i64 0, .int .i64 t720.1, .str t723.1, .str t727.1])] rfl ⟨.inl rfl, ⟨.inl rfl, trivial⟩⟩ ⟨rfl, trivial⟩ ?_
  conv => whnf
  injection H with H; subst H
  exact ret_tup [] (rtAL_cons (rtA_agg (rtL_cons (rt_eq rfl) (rtL_cons (rt_eq rfl) (rtL_cons (rt_eq rfl) (rtL_cons (rt_eq rfl) (rtL_cons (rt_eq rfl) (rtL_cons (rt_eq rfl) (rtL_cons (rt_eq rfl) (rtL_cons (rt_eq rfl) (rtL_nil)))))))))) (rtAL_cons (rtA_eq rfl) (rtAL_nil)))
theorem impl_phase.l0_lp {F : (Exit → St → Prop) → St → Prop} {hv : List Tmp} {Q : Exit → St → Prop} {σ : St} {r : Int} {k : Nat} {l0 : List S_impl_RecPhase} {a1 : ByteArray} {x9 : Int} (H : impl_phase.l0 k l0 a1 x9 = some r) (rn : List (Option Nat)) (h1 : Fits σ σ [] [(9, .int .i64 x9)] [] [] rn)
    (h2 : ∀ (k0 : Nat) (x9 : Int), k0 < k + 1 → impl_phase.l0 k0 l0 a1 x9 = some r → headN σ hv [] [(9, .int .i64 x9)] [] [] (F (fun e σ' => match e with | .normal => ∃ (y : Nat × Int) (rn : List (Option Nat)), (impl_phase.l0 y.1 l0 a1 y.2 = some r ∧ y.1 < k + 1) ∧ y.1 < k0 ∧ Fits σ σ' [] [(9, .int .i64 y.2)] [] [] rn | e => Q e σ'))) : Lp F hv Q σ := by
  unfold Lp
  refine ⟨Nat × Int, fun x => impl_phase.l0 x.1 l0 a1 x.2 = some r ∧ x.1 < k + 1, fun x => x.1, [], fun x => [(9, .int .i64 x.2)], fun x => [], fun x => [], ⟨(k, x9), rn, ⟨H, Nat.lt_succ_self _⟩, h1⟩, ?_⟩
  rintro ⟨k, x9⟩ ⟨H, hk⟩
  exact h2 k x9 hk H
theorem impl_phase.ac {k : Nat} {l0 : List S_impl_RecPhase} {a1 : ByteArray} {r : Int} (H : impl_phase.f k l0 a1 = some r) : ACalls Tryd.prog G 71 [] [(sv_S_impl_RecPhase l0), .str a1] [] (.int .i64 r) := by
  refine acalls_of tok hP Tryd.func71 rfl (by kernel_rfl) [.tmp 4] rfl (by kernel_rfl) (Nat.le_of_ble_eq_true rfl) (.l .n (.l (.l .n (.l .n (.l .n (.l (.c .n .n) .n)))) .n)) rfl ?_
  unfold impl_phase.f at H
  conv => whnf
  refine impl_phase.l0_lp (l0 := l0) (a1 := a1) (k := k) H [] (fits_of ⟨.inl ⟨rfl, rfl⟩, trivial⟩ trivial fi_ trivial rfl) ?_
  intro k x9 hk H; rcases k with _ | k; exact none_elim H; rw [impl_phase.l0] at H; conv => whnf
  refine br_d H (fun c H => ?_) (fun c H => ?_)
  conv => whnf
  refine nd_ H (fun c H => ?_)
  conv => whnf
  refine Nd.mk nf_ ?_
  conv => whnf
  refine El.mk (rdm_en_S_impl_RecPhase _ _ nf_ nf_) ?_
  conv => whnf
  refine cut_ 88 [(1, .str a1), (5, .int .i64 x9), (6, .bp 64 0), (7, (sv_S_impl_RecPhase l0)), (8, .int .i64 (l0.length : Int)), (9, .int .i64 x9)] [(64, .box [.str ((rd_impl_RecPhase l0 x9).f0), .int .i64 ((rd_impl_RecPhase l0 x9).f1), .str ((rd_impl_RecPhase l0 x9).f2), .str ((rd_impl_RecPhase l0 x9).f3), .int .i64 ((rd_impl_RecPhase l0 x9).f4), .int .i64 ((rd_impl_RecPhase l0 x9).f5), .str ((rd_impl_RecPhase l0 x9).f6), .str ((rd_impl_RecPhase l0 x9).f7)])] rfl ⟨.inl rfl, ⟨.inl rfl, ⟨.inl rfl, ⟨.inl rfl, ⟨.inl rfl, ⟨.inl rfl, trivial⟩⟩⟩⟩⟩⟩ ⟨rfl, trivial⟩ ?_
  conv => whnf
  refine br_d H (fun c H => ?_) (fun c H => ?_)
  conv => whnf
  injection H with H; subst H
  exact ret_fz [] (rtA_eq rfl)
  conv => whnf
  exact ⟨(k, wrap64 (x9 + 1)), [], ⟨H, lt_⟩, lt_, (fits_of ⟨.inl ⟨rfl, rfl⟩, trivial⟩ trivial fi_ trivial rfl)⟩
  conv => whnf
  injection H with H; subst H
  exact ret_fz [] (rtA_eq rfl)
theorem impl_RecParse.l2_lp {F : (Exit → St → Prop) → St → Prop} {hv : List Tmp} {Q : Exit → St → Prop} {σ : St} {r : (List S_impl_RecPhase) × Int × Int} {k : Nat} {x5 : List S_impl_RecPhase} {x6 : List Int} {x84 : Int} {x95 : Int} (H : impl_RecParse.l2 k x5 x6 x84 x95 = some r) (rn : List (Option Nat)) (h1 : Fits σ σ [] [(95, .int .i64 x95)] [] [] rn)
    (h2 : ∀ (k0 : Nat) (x95 : Int), k0 < k + 1 → impl_RecParse.l2 k0 x5 x6 x84 x95 = some r → headN σ hv [] [(95, .int .i64 x95)] [] [] (F (fun e σ' => match e with | .normal => ∃ (y : Nat × Int) (rn : List (Option Nat)), (impl_RecParse.l2 y.1 x5 x6 x84 y.2 = some r ∧ y.1 < k + 1) ∧ y.1 < k0 ∧ Fits σ σ' [] [(95, .int .i64 y.2)] [] [] rn | e => Q e σ'))) : Lp F hv Q σ := by
  unfold Lp
  refine ⟨Nat × Int, fun x => impl_RecParse.l2 x.1 x5 x6 x84 x.2 = some r ∧ x.1 < k + 1, fun x => x.1, [], fun x => [(95, .int .i64 x.2)], fun x => [], fun x => [], ⟨(k, x95), rn, ⟨H, Nat.lt_succ_self _⟩, h1⟩, ?_⟩
  rintro ⟨k, x95⟩ ⟨H, hk⟩
  exact h2 k x95 hk H
theorem impl_RecParse.l1_lp {F : (Exit → St → Prop) → St → Prop} {hv : List Tmp} {Q : Exit → St → Prop} {σ : St} {r : (List S_impl_RecPhase) × Int × Int} {k : Nat} {x5 : List S_impl_RecPhase} {x6 : List Int} {x84 : Int} (H : impl_RecParse.l1 k x5 x6 x84 = some r) (rn : List (Option Nat)) (h1 : Fits σ σ [] [(84, .int .i64 x84)] [] [] rn)
    (h2 : ∀ (k0 : Nat) (x84 : Int), k0 < k + 1 → impl_RecParse.l1 k0 x5 x6 x84 = some r → headN σ hv [] [(84, .int .i64 x84)] [] [] (F (fun e σ' => match e with | .normal => ∃ (y : Nat × Int) (rn : List (Option Nat)), (impl_RecParse.l1 y.1 x5 x6 y.2 = some r ∧ y.1 < k + 1) ∧ y.1 < k0 ∧ Fits σ σ' [] [(84, .int .i64 y.2)] [] [] rn | e => Q e σ'))) : Lp F hv Q σ := by
  unfold Lp
  refine ⟨Nat × Int, fun x => impl_RecParse.l1 x.1 x5 x6 x.2 = some r ∧ x.1 < k + 1, fun x => x.1, [], fun x => [(84, .int .i64 x.2)], fun x => [], fun x => [], ⟨(k, x84), rn, ⟨H, Nat.lt_succ_self _⟩, h1⟩, ?_⟩
  rintro ⟨k, x84⟩ ⟨H, hk⟩
  exact h2 k x84 hk H
theorem impl_RecParse.l0_lp {F : (Exit → St → Prop) → St → Prop} {hv : List Tmp} {Q : Exit → St → Prop} {σ : St} {r : (List S_impl_RecPhase) × Int × Int} {k : Nat} {t740 : List ByteArray} {x5 : List S_impl_RecPhase} {x6 : List Int} {x30 : Int} (H : impl_RecParse.l0 k x5 x6 x30 t740 = some r) (rn : List (Option Nat)) (h1 : Fits σ σ [] [(5, .own 0 x5.length), (6, .own 1 x6.length), (30, .int .i64 x30)] [] [.arr 73 8 (x5.map en_S_impl_RecPhase), .arr 3 1 (x6.map en_i64)] rn)
    (h2 : ∀ (k0 : Nat) (x5 : List S_impl_RecPhase) (x6 : List Int) (x30 : Int), k0 < k + 1 → impl_RecParse.l0 k0 x5 x6 x30 t740 = some r → headN σ hv [] [(5, .own 0 x5.length), (6, .own 1 x6.length), (30, .int .i64 x30)] [] [.arr 73 8 (x5.map en_S_impl_RecPhase), .arr 3 1 (x6.map en_i64)] (F (fun e σ' => match e with | .normal => ∃ (y : Nat × (List S_impl_RecPhase) × (List Int) × Int) (rn : List (Option Nat)), (impl_RecParse.l0 y.1 y.2.1 y.2.2.1 y.2.2.2 t740 = some r ∧ y.1 < k + 1) ∧ y.1 < k0 ∧ Fits σ σ' [] [(5, .own 0 y.2.1.length), (6, .own 1 y.2.2.1.length), (30, .int .i64 y.2.2.2)] [] [.arr 73 8 (y.2.1.map en_S_impl_RecPhase), .arr 3 1 (y.2.2.1.map en_i64)] rn | e => Q e σ'))) : Lp F hv Q σ := by
  unfold Lp
  refine ⟨Nat × (List S_impl_RecPhase) × (List Int) × Int, fun x => impl_RecParse.l0 x.1 x.2.1 x.2.2.1 x.2.2.2 t740 = some r ∧ x.1 < k + 1, fun x => x.1, [], fun x => [(5, .own 0 x.2.1.length), (6, .own 1 x.2.2.1.length), (30, .int .i64 x.2.2.2)], fun x => [], fun x => [.arr 73 8 (x.2.1.map en_S_impl_RecPhase), .arr 3 1 (x.2.2.1.map en_i64)], ⟨(k, x5, x6, x30), rn, ⟨H, Nat.lt_succ_self _⟩, h1⟩, ?_⟩
  rintro ⟨k, x5, x6, x30⟩ ⟨H, hk⟩
  exact h2 k x5 x6 x30 hk H

end Go.Proofs.YteflhnpcgoijfaaDoor.RT

