import Derived.Test.YtamkmmkchdnkmaaZFnExactCtlBook0
import Derived.Test.YtamkmmkchdnkmaaProg
import Derived.KernelRfl
set_option linter.unusedVariables false
set_option linter.unusedSimpArgs false
namespace Go.Proofs.Ytamkmmkchdnkmaa.CB
open Go Go.Aw Go.RowKit Go.Proofs
set_option maxRecDepth 100000
set_option maxHeartbeats 40000000
variable {G : Nat → Option Obj}
def tab : List (TypeId × TI) := [(2, ⟨1, 8, false, 0, 0, [], [.int .i64 0], some .i64, false, false, false, [], [0], []⟩),
  (3, ⟨1, 8, false, 0, 0, [], [.int .i64 0], some .i64, false, false, false, [], [0], []⟩),
  (4, ⟨1, 1, false, 0, 0, [], [.bool false], none, false, false, true, [], [0], []⟩),
  (5, ⟨1, 1, false, 0, 0, [], [.int .u8 0], some .u8, false, false, false, [], [0], []⟩),
  (6, ⟨1, 1, false, 0, 0, [], [.int .u8 0], some .u8, false, false, false, [], [0], []⟩),
  (7, ⟨4, 24, true, 0, 0, [(0, 2), (1, 3), (2, 4), (3, 6)], [.int .i64 0, .int .i64 0, .bool false, .int .u8 0], none, false, false, false, [(0, 1), (1, 1), (2, 1), (3, 1)], [0, 0, 0, 0], []⟩),
  (8, ⟨4, 24, true, 0, 0, [(0, 2), (1, 3), (2, 4), (3, 6)], [.int .i64 0, .int .i64 0, .bool false, .int .u8 0], none, false, false, false, [(0, 1), (1, 1), (2, 1), (3, 1)], [0, 0, 0, 0], []⟩),
  (9, ⟨1, 16, false, 0, 0, [], [.str ⟨#[]⟩], none, true, false, false, [], [0], []⟩),
  (10, ⟨1, 16, false, 0, 0, [], [.str ⟨#[]⟩], none, true, false, false, [], [0], []⟩),
  (11, ⟨1, 16, false, 0, 0, [], [.str ⟨#[]⟩], none, true, false, false, [], [0], []⟩),
  (12, ⟨1, 8, false, 0, 0, [], [.int .u64 0], some .u64, false, false, false, [], [0], []⟩),
  (13, ⟨2, 24, true, 0, 0, [(0, 9), (1, 12)], [.str ⟨#[]⟩, .int .u64 0], none, false, false, false, [(0, 1), (1, 1)], [0, 0], []⟩),
  (14, ⟨2, 24, true, 0, 0, [(0, 9), (1, 12)], [.str ⟨#[]⟩, .int .u64 0], none, false, false, false, [(0, 1), (1, 1)], [0, 0], []⟩),
  (21, ⟨1, 4, false, 0, 0, [], [.int .i32 0], some .i32, false, false, false, [], [0], []⟩),
  (22, ⟨1, 24, false, 189, 0, [], [.nil], none, false, true, false, [], [2], []⟩),
  (23, ⟨1, 24, false, 191, 0, [], [.nil], none, false, true, false, [], [2], []⟩),
  (24, ⟨1, 24, false, 195, 0, [], [.nil], none, false, true, false, [], [4], []⟩),
  (25, ⟨1, 24, false, 198, 0, [], [.nil], none, false, true, false, [], [3], []⟩),
  (26, ⟨4, 96, true, 0, 0, [(0, 22), (1, 23), (2, 24), (3, 25)], [.nil, .nil, .nil, .nil], none, false, false, false, [(0, 1), (1, 1), (2, 1), (3, 1)], [2, 2, 4, 3], []⟩),
  (27, ⟨4, 96, true, 0, 0, [(0, 22), (1, 23), (2, 24), (3, 25)], [.nil, .nil, .nil, .nil], none, false, false, false, [(0, 1), (1, 1), (2, 1), (3, 1)], [2, 2, 4, 3], []⟩),
  (30, ⟨1, 24, false, 199, 0, [], [.nil], none, false, true, false, [], [2], []⟩),
  (31, ⟨1, 24, false, 125, 0, [], [.nil], none, false, true, false, [], [2], []⟩),
  (32, ⟨1, 24, false, 110, 0, [], [.nil], none, false, true, false, [], [4], []⟩),
  (33, ⟨1, 24, false, 115, 0, [], [.nil], none, false, true, false, [], [3], []⟩),
  (34, ⟨4, 96, true, 0, 0, [(0, 30), (1, 31), (2, 32), (3, 33)], [.nil, .nil, .nil, .nil], none, false, false, false, [(0, 1), (1, 1), (2, 1), (3, 1)], [2, 2, 4, 3], []⟩),
  (35, ⟨4, 96, true, 0, 0, [(0, 30), (1, 31), (2, 32), (3, 33)], [.nil, .nil, .nil, .nil], none, false, false, false, [(0, 1), (1, 1), (2, 1), (3, 1)], [2, 2, 4, 3], []⟩),
  (44, ⟨1, 24, false, 9, 0, [], [.nil], none, false, true, false, [], [1], []⟩),
  (49, ⟨1, 24, false, 218, 0, [], [.nil], none, false, true, false, [], [2], []⟩),
  (50, ⟨1, 24, false, 220, 0, [], [.nil], none, false, true, false, [], [5], []⟩),
  (51, ⟨1, 24, false, 223, 0, [], [.nil], none, false, true, false, [], [7], []⟩),
  (52, ⟨5, 104, true, 0, 0, [(0, 49), (1, 50), (2, 44), (3, 51), (4, 3)], [.nil, .nil, .nil, .nil, .int .i64 0], none, false, false, false, [(0, 1), (1, 1), (2, 1), (3, 1), (4, 1)], [2, 5, 1, 7, 0], []⟩),
  (53, ⟨5, 104, true, 0, 0, [(0, 49), (1, 50), (2, 44), (3, 51), (4, 3)], [.nil, .nil, .nil, .nil, .int .i64 0], none, false, false, false, [(0, 1), (1, 1), (2, 1), (3, 1), (4, 1)], [2, 5, 1, 7, 0], []⟩),
  (56, ⟨1, 24, false, 171, 0, [], [.nil], none, false, true, false, [], [2], []⟩),
  (57, ⟨1, 24, false, 150, 0, [], [.nil], none, false, true, false, [], [5], []⟩),
  (58, ⟨1, 24, false, 156, 0, [], [.nil], none, false, true, false, [], [7], []⟩),
  (59, ⟨5, 104, true, 0, 0, [(0, 56), (1, 57), (2, 44), (3, 58), (4, 3)], [.nil, .nil, .nil, .nil, .int .i64 0], none, false, false, false, [(0, 1), (1, 1), (2, 1), (3, 1), (4, 1)], [2, 5, 1, 7, 0], []⟩),
  (60, ⟨5, 104, true, 0, 0, [(0, 56), (1, 57), (2, 44), (3, 58), (4, 3)], [.nil, .nil, .nil, .nil, .int .i64 0], none, false, false, false, [(0, 1), (1, 1), (2, 1), (3, 1), (4, 1)], [2, 5, 1, 7, 0], []⟩),
  (66, ⟨1, 24, false, 3, 0, [], [.nil], none, false, true, false, [], [1], []⟩),
  (71, ⟨1, 24, false, 237, 0, [], [.nil], none, false, true, false, [], [2], []⟩),
  (72, ⟨1, 24, false, 239, 0, [], [.nil], none, false, true, false, [], [3], []⟩),
  (73, ⟨1, 24, false, 241, 0, [], [.nil], none, false, true, false, [], [4], []⟩),
  (74, ⟨4, 96, true, 0, 0, [(0, 44), (1, 71), (2, 72), (3, 73)], [.nil, .nil, .nil, .nil], none, false, false, false, [(0, 1), (1, 1), (2, 1), (3, 1)], [1, 2, 3, 4], []⟩),
  (75, ⟨4, 96, true, 0, 0, [(0, 44), (1, 71), (2, 72), (3, 73)], [.nil, .nil, .nil, .nil], none, false, false, false, [(0, 1), (1, 1), (2, 1), (3, 1)], [1, 2, 3, 4], []⟩),
  (78, ⟨1, 24, false, 170, 0, [], [.nil], none, false, true, false, [], [2], []⟩),
  (79, ⟨1, 24, false, 173, 0, [], [.nil], none, false, true, false, [], [3], []⟩),
  (80, ⟨1, 24, false, 175, 0, [], [.nil], none, false, true, false, [], [4], []⟩),
  (81, ⟨4, 96, true, 0, 0, [(0, 44), (1, 78), (2, 79), (3, 80)], [.nil, .nil, .nil, .nil], none, false, false, false, [(0, 1), (1, 1), (2, 1), (3, 1)], [1, 2, 3, 4], []⟩),
  (82, ⟨4, 96, true, 0, 0, [(0, 44), (1, 78), (2, 79), (3, 80)], [.nil, .nil, .nil, .nil], none, false, false, false, [(0, 1), (1, 1), (2, 1), (3, 1)], [1, 2, 3, 4], []⟩),
  (89, ⟨1, 24, false, 263, 0, [], [.nil], none, false, true, false, [], [3], []⟩),
  (90, ⟨6, 112, true, 0, 0, [(0, 3), (1, 3), (2, 44), (3, 89), (4, 44), (5, 44)], [.int .i64 0, .int .i64 0, .nil, .nil, .nil, .nil], none, false, false, false, [(0, 1), (1, 1), (2, 1), (3, 1), (4, 1), (5, 1)], [0, 0, 1, 3, 1, 1], []⟩),
  (91, ⟨6, 112, true, 0, 0, [(0, 3), (1, 3), (2, 44), (3, 89), (4, 44), (5, 44)], [.int .i64 0, .int .i64 0, .nil, .nil, .nil, .nil], none, false, false, false, [(0, 1), (1, 1), (2, 1), (3, 1), (4, 1), (5, 1)], [0, 0, 1, 3, 1, 1], []⟩),
  (92, ⟨11, 160, true, 0, 0, [(0, 3), (1, 9), (2, 3), (3, 91), (9, 3), (10, 4)], [.int .i64 0, .str ⟨#[]⟩, .int .i64 0, .int .i64 0, .int .i64 0, .nil, .nil, .nil, .nil, .int .i64 0, .bool false], none, false, false, false, [(0, 1), (1, 1), (2, 1), (3, 6), (9, 1), (10, 1)], [0, 0, 0, 0, 0, 1, 3, 1, 1, 0, 0], []⟩),
  (93, ⟨11, 160, true, 0, 0, [(0, 3), (1, 9), (2, 3), (3, 91), (9, 3), (10, 4)], [.int .i64 0, .str ⟨#[]⟩, .int .i64 0, .int .i64 0, .int .i64 0, .nil, .nil, .nil, .nil, .int .i64 0, .bool false], none, false, false, false, [(0, 1), (1, 1), (2, 1), (3, 6), (9, 1), (10, 1)], [0, 0, 0, 0, 0, 1, 3, 1, 1, 0, 0], []⟩),
  (96, ⟨1, 24, false, 231, 0, [], [.nil], none, false, true, false, [], [3], []⟩),
  (97, ⟨6, 112, true, 0, 0, [(0, 3), (1, 3), (2, 44), (3, 96), (4, 44), (5, 44)], [.int .i64 0, .int .i64 0, .nil, .nil, .nil, .nil], none, false, false, false, [(0, 1), (1, 1), (2, 1), (3, 1), (4, 1), (5, 1)], [0, 0, 1, 3, 1, 1], []⟩),
  (98, ⟨6, 112, true, 0, 0, [(0, 3), (1, 3), (2, 44), (3, 96), (4, 44), (5, 44)], [.int .i64 0, .int .i64 0, .nil, .nil, .nil, .nil], none, false, false, false, [(0, 1), (1, 1), (2, 1), (3, 1), (4, 1), (5, 1)], [0, 0, 1, 3, 1, 1], []⟩),
  (99, ⟨11, 160, true, 0, 0, [(0, 3), (1, 9), (2, 3), (3, 98), (9, 3), (10, 4)], [.int .i64 0, .str ⟨#[]⟩, .int .i64 0, .int .i64 0, .int .i64 0, .nil, .nil, .nil, .nil, .int .i64 0, .bool false], none, false, false, false, [(0, 1), (1, 1), (2, 1), (3, 6), (9, 1), (10, 1)], [0, 0, 0, 0, 0, 1, 3, 1, 1, 0, 0], []⟩),
  (100, ⟨11, 160, true, 0, 0, [(0, 3), (1, 9), (2, 3), (3, 98), (9, 3), (10, 4)], [.int .i64 0, .str ⟨#[]⟩, .int .i64 0, .int .i64 0, .int .i64 0, .nil, .nil, .nil, .nil, .int .i64 0, .bool false], none, false, false, false, [(0, 1), (1, 1), (2, 1), (3, 6), (9, 1), (10, 1)], [0, 0, 0, 0, 0, 1, 3, 1, 1, 0, 0], []⟩),
  (108, ⟨1, 24, false, 137, 0, [], [.nil], none, false, true, false, [], [2], []⟩),
  (109, ⟨4, 72, true, 0, 0, [(0, 9), (1, 3), (2, 108), (3, 44)], [.str ⟨#[]⟩, .int .i64 0, .nil, .nil], none, false, false, false, [(0, 1), (1, 1), (2, 1), (3, 1)], [0, 0, 2, 1], []⟩),
  (110, ⟨4, 72, true, 0, 0, [(0, 9), (1, 3), (2, 108), (3, 44)], [.str ⟨#[]⟩, .int .i64 0, .nil, .nil], none, false, false, false, [(0, 1), (1, 1), (2, 1), (3, 1)], [0, 0, 2, 1], []⟩),
  (114, ⟨3, 64, true, 0, 0, [(0, 9), (1, 108), (2, 44)], [.str ⟨#[]⟩, .nil, .nil], none, false, false, false, [(0, 1), (1, 1), (2, 1)], [0, 2, 1], []⟩),
  (115, ⟨3, 64, true, 0, 0, [(0, 9), (1, 108), (2, 44)], [.str ⟨#[]⟩, .nil, .nil], none, false, false, false, [(0, 1), (1, 1), (2, 1)], [0, 2, 1], []⟩),
  (122, ⟨1, 24, false, 205, 0, [], [.nil], none, false, true, false, [], [2], []⟩),
  (124, ⟨2, 32, true, 0, 0, [(0, 9), (1, 9)], [.str ⟨#[]⟩, .str ⟨#[]⟩], none, false, false, false, [(0, 1), (1, 1)], [0, 0], []⟩),
  (125, ⟨2, 32, true, 0, 0, [(0, 9), (1, 9)], [.str ⟨#[]⟩, .str ⟨#[]⟩], none, false, false, false, [(0, 1), (1, 1)], [0, 0], [2, 2]⟩),
  (136, ⟨2, 24, true, 0, 0, [(0, 9), (1, 3)], [.str ⟨#[]⟩, .int .i64 0], none, false, false, false, [(0, 1), (1, 1)], [0, 0], []⟩),
  (137, ⟨2, 24, true, 0, 0, [(0, 9), (1, 3)], [.str ⟨#[]⟩, .int .i64 0], none, false, false, false, [(0, 1), (1, 1)], [0, 0], [2, 1]⟩),
  (149, ⟨5, 64, true, 0, 0, [(0, 9), (1, 3), (2, 3), (3, 3), (4, 44)], [.str ⟨#[]⟩, .int .i64 0, .int .i64 0, .int .i64 0, .nil], none, false, false, false, [(0, 1), (1, 1), (2, 1), (3, 1), (4, 1)], [0, 0, 0, 0, 1], []⟩),
  (150, ⟨5, 64, true, 0, 0, [(0, 9), (1, 3), (2, 3), (3, 3), (4, 44)], [.str ⟨#[]⟩, .int .i64 0, .int .i64 0, .int .i64 0, .nil], none, false, false, false, [(0, 1), (1, 1), (2, 1), (3, 1), (4, 1)], [0, 0, 0, 0, 1], []⟩),
  (155, ⟨7, 120, true, 0, 0, [(0, 98), (6, 4)], [.int .i64 0, .int .i64 0, .nil, .nil, .nil, .nil, .bool false], none, false, false, false, [(0, 6), (6, 1)], [0, 0, 1, 3, 1, 1, 0], []⟩),
  (156, ⟨7, 120, true, 0, 0, [(0, 98), (6, 4)], [.int .i64 0, .int .i64 0, .nil, .nil, .nil, .nil, .bool false], none, false, false, false, [(0, 6), (6, 1)], [0, 0, 1, 3, 1, 1, 0], []⟩),
  (169, ⟨2, 32, true, 0, 0, [(0, 9), (1, 9)], [.str ⟨#[]⟩, .str ⟨#[]⟩], none, false, false, false, [(0, 1), (1, 1)], [0, 0], []⟩),
  (170, ⟨2, 32, true, 0, 0, [(0, 9), (1, 9)], [.str ⟨#[]⟩, .str ⟨#[]⟩], none, false, false, false, [(0, 1), (1, 1)], [0, 0], [2, 2]⟩),
  (171, ⟨2, 32, true, 0, 0, [(0, 9), (1, 9)], [.str ⟨#[]⟩, .str ⟨#[]⟩], none, false, false, false, [(0, 1), (1, 1)], [0, 0], [2, 2]⟩),
  (172, ⟨3, 40, true, 0, 0, [(0, 9), (1, 3), (2, 9)], [.str ⟨#[]⟩, .int .i64 0, .str ⟨#[]⟩], none, false, false, false, [(0, 1), (1, 1), (2, 1)], [0, 0, 0], []⟩),
  (173, ⟨3, 40, true, 0, 0, [(0, 9), (1, 3), (2, 9)], [.str ⟨#[]⟩, .int .i64 0, .str ⟨#[]⟩], none, false, false, false, [(0, 1), (1, 1), (2, 1)], [0, 0, 0], [2, 1, 2]⟩),
  (174, ⟨4, 64, true, 0, 0, [(0, 9), (1, 9), (2, 9), (3, 9)], [.str ⟨#[]⟩, .str ⟨#[]⟩, .str ⟨#[]⟩, .str ⟨#[]⟩], none, false, false, false, [(0, 1), (1, 1), (2, 1), (3, 1)], [0, 0, 0, 0], []⟩),
  (175, ⟨4, 64, true, 0, 0, [(0, 9), (1, 9), (2, 9), (3, 9)], [.str ⟨#[]⟩, .str ⟨#[]⟩, .str ⟨#[]⟩, .str ⟨#[]⟩], none, false, false, false, [(0, 1), (1, 1), (2, 1), (3, 1)], [0, 0, 0, 0], [2, 2, 2, 2]⟩),
  (189, ⟨2, 32, true, 0, 0, [(0, 9), (1, 9)], [.str ⟨#[]⟩, .str ⟨#[]⟩], none, false, false, false, [(0, 1), (1, 1)], [0, 0], [2, 2]⟩),
  (191, ⟨2, 32, true, 0, 0, [(0, 9), (1, 9)], [.str ⟨#[]⟩, .str ⟨#[]⟩], none, false, false, false, [(0, 1), (1, 1)], [0, 0], [2, 2]⟩),
  (193, ⟨1, 24, false, 267, 0, [], [.nil], none, false, true, false, [], [2], []⟩),
  (194, ⟨4, 72, true, 0, 0, [(0, 9), (1, 3), (2, 193), (3, 44)], [.str ⟨#[]⟩, .int .i64 0, .nil, .nil], none, false, false, false, [(0, 1), (1, 1), (2, 1), (3, 1)], [0, 0, 2, 1], []⟩),
  (195, ⟨4, 72, true, 0, 0, [(0, 9), (1, 3), (2, 193), (3, 44)], [.str ⟨#[]⟩, .int .i64 0, .nil, .nil], none, false, false, false, [(0, 1), (1, 1), (2, 1), (3, 1)], [0, 0, 2, 1], []⟩),
  (197, ⟨3, 64, true, 0, 0, [(0, 9), (1, 193), (2, 44)], [.str ⟨#[]⟩, .nil, .nil], none, false, false, false, [(0, 1), (1, 1), (2, 1)], [0, 2, 1], []⟩),
  (198, ⟨3, 64, true, 0, 0, [(0, 9), (1, 193), (2, 44)], [.str ⟨#[]⟩, .nil, .nil], none, false, false, false, [(0, 1), (1, 1), (2, 1)], [0, 2, 1], []⟩),
  (199, ⟨2, 32, true, 0, 0, [(0, 9), (1, 9)], [.str ⟨#[]⟩, .str ⟨#[]⟩], none, false, false, false, [(0, 1), (1, 1)], [0, 0], [2, 2]⟩),
  (205, ⟨2, 32, true, 9, 2, [], [.str ⟨#[]⟩, .str ⟨#[]⟩], none, false, false, false, [(0, 1), (1, 1)], [0, 0], [2, 2]⟩),
  (216, ⟨1, 24, false, 5, 0, [], [.nil], none, false, true, false, [], [1], []⟩),
  (218, ⟨2, 32, true, 0, 0, [(0, 9), (1, 9)], [.str ⟨#[]⟩, .str ⟨#[]⟩], none, false, false, false, [(0, 1), (1, 1)], [0, 0], [2, 2]⟩),
  (220, ⟨5, 64, true, 0, 0, [(0, 9), (1, 3), (2, 3), (3, 3), (4, 44)], [.str ⟨#[]⟩, .int .i64 0, .int .i64 0, .int .i64 0, .nil], none, false, false, false, [(0, 1), (1, 1), (2, 1), (3, 1), (4, 1)], [0, 0, 0, 0, 1], []⟩),
  (222, ⟨7, 120, true, 0, 0, [(0, 91), (6, 4)], [.int .i64 0, .int .i64 0, .nil, .nil, .nil, .nil, .bool false], none, false, false, false, [(0, 6), (6, 1)], [0, 0, 1, 3, 1, 1, 0], []⟩),
  (223, ⟨7, 120, true, 0, 0, [(0, 91), (6, 4)], [.int .i64 0, .int .i64 0, .nil, .nil, .nil, .nil, .bool false], none, false, false, false, [(0, 6), (6, 1)], [0, 0, 1, 3, 1, 1, 0], []⟩),
  (230, ⟨3, 32, true, 0, 0, [(0, 9), (1, 3), (2, 3)], [.str ⟨#[]⟩, .int .i64 0, .int .i64 0], none, false, false, false, [(0, 1), (1, 1), (2, 1)], [0, 0, 0], []⟩),
  (231, ⟨3, 32, true, 0, 0, [(0, 9), (1, 3), (2, 3)], [.str ⟨#[]⟩, .int .i64 0, .int .i64 0], none, false, false, false, [(0, 1), (1, 1), (2, 1)], [0, 0, 0], [2, 1, 1]⟩),
  (237, ⟨2, 32, true, 0, 0, [(0, 9), (1, 9)], [.str ⟨#[]⟩, .str ⟨#[]⟩], none, false, false, false, [(0, 1), (1, 1)], [0, 0], [2, 2]⟩),
  (239, ⟨3, 40, true, 0, 0, [(0, 9), (1, 3), (2, 9)], [.str ⟨#[]⟩, .int .i64 0, .str ⟨#[]⟩], none, false, false, false, [(0, 1), (1, 1), (2, 1)], [0, 0, 0], [2, 1, 2]⟩),
  (241, ⟨4, 64, true, 0, 0, [(0, 9), (1, 9), (2, 9), (3, 9)], [.str ⟨#[]⟩, .str ⟨#[]⟩, .str ⟨#[]⟩, .str ⟨#[]⟩], none, false, false, false, [(0, 1), (1, 1), (2, 1), (3, 1)], [0, 0, 0, 0], [2, 2, 2, 2]⟩),
  (263, ⟨3, 32, true, 0, 0, [(0, 9), (1, 3), (2, 3)], [.str ⟨#[]⟩, .int .i64 0, .int .i64 0], none, false, false, false, [(0, 1), (1, 1), (2, 1)], [0, 0, 0], [2, 1, 1]⟩),
  (267, ⟨2, 24, true, 0, 0, [(0, 9), (1, 3)], [.str ⟨#[]⟩, .int .i64 0], none, false, false, false, [(0, 1), (1, 1)], [0, 0], [2, 1]⟩),
  (272, ⟨1, 8, false, 0, 0, [], [.int .u64 0], some .u64, false, false, false, [], [0], []⟩),
  (274, ⟨1, 8, false, 0, 0, [], [.int .i64 0], some .i64, false, false, false, [], [0], []⟩),
  (283, ⟨1, 4, false, 0, 0, [], [.int .u32 0], some .u32, false, false, false, [], [0], []⟩),
  (285, ⟨1, 8, false, 0, 0, [], [.int .u64 0], some .u64, false, false, false, [], [0], []⟩),
  (286, ⟨1, 8, false, 0, 0, [], [.int .u64 0], some .u64, false, false, false, [], [0], []⟩),
  (301, ⟨1, 1, false, 0, 0, [], [.int .u8 0], some .u8, false, false, false, [], [0], []⟩),
  (302, ⟨1, 1, false, 0, 0, [], [.int .u8 0], some .u8, false, false, false, [], [0], []⟩),
  (305, ⟨1, 4, false, 0, 0, [], [.int .i32 0], some .i32, false, false, false, [], [0], []⟩),
  (306, ⟨1, 4, false, 0, 0, [], [.int .i32 0], some .i32, false, false, false, [], [0], []⟩)]
theorem tok : TOk Try.prog (lk tab) := tok_of tab (by kernel_rfl)
theorem hP : Try.prog.follows .mixedOrders = true := by kernel_rfl
def en_str (x : ByteArray) : List V := [.str x]
def sv_str (l : List ByteArray) : V := .sl 1 l.length (l.map en_str)
def ob_str (l : List ByteArray) : Ob := .arr 9 1 (l.map en_str)
theorem bare_en_str (x : ByteArray) : (en_str x).all V.bare = true := rfl
theorem rdm_en_str (l : List ByteArray) (i : Int) (h0 : 0 ≤ i) (h1 : i < (l.length : Int)) : (l.map en_str)[i.toNat]? = some (en_str (rdOf ByteArray.empty l i)) := by
  have : i.toNat < l.length := by omega
  simp [rdOf, this]
def en_S_laws_PlantFoe (x : S_laws_PlantFoe) : List V := [.str x.f0, .str x.f1]
def sv_S_laws_PlantFoe (l : List S_laws_PlantFoe) : V := .sl 2 l.length (l.map en_S_laws_PlantFoe)
def ob_S_laws_PlantFoe (l : List S_laws_PlantFoe) : Ob := .arr 237 2 (l.map en_S_laws_PlantFoe)
theorem bare_en_S_laws_PlantFoe (x : S_laws_PlantFoe) : (en_S_laws_PlantFoe x).all V.bare = true := rfl
theorem rdm_en_S_laws_PlantFoe (l : List S_laws_PlantFoe) (i : Int) (h0 : 0 ≤ i) (h1 : i < (l.length : Int)) : (l.map en_S_laws_PlantFoe)[i.toNat]? = some (en_S_laws_PlantFoe (rd_laws_PlantFoe l i)) := by
  have : i.toNat < l.length := by omega
  simp [rd_laws_PlantFoe, this]
def en_S_laws_PlantPlace (x : S_laws_PlantPlace) : List V := [.str x.f0, .int .i64 x.f1, .str x.f2]
def sv_S_laws_PlantPlace (l : List S_laws_PlantPlace) : V := .sl 3 l.length (l.map en_S_laws_PlantPlace)
def ob_S_laws_PlantPlace (l : List S_laws_PlantPlace) : Ob := .arr 239 3 (l.map en_S_laws_PlantPlace)
theorem bare_en_S_laws_PlantPlace (x : S_laws_PlantPlace) : (en_S_laws_PlantPlace x).all V.bare = true := rfl
theorem rdm_en_S_laws_PlantPlace (l : List S_laws_PlantPlace) (i : Int) (h0 : 0 ≤ i) (h1 : i < (l.length : Int)) : (l.map en_S_laws_PlantPlace)[i.toNat]? = some (en_S_laws_PlantPlace (rd_laws_PlantPlace l i)) := by
  have : i.toNat < l.length := by omega
  simp [rd_laws_PlantPlace, this]
def en_S_laws_PlantValve (x : S_laws_PlantValve) : List V := [.str x.f0, .str x.f1, .str x.f2, .str x.f3]
def sv_S_laws_PlantValve (l : List S_laws_PlantValve) : V := .sl 4 l.length (l.map en_S_laws_PlantValve)
def ob_S_laws_PlantValve (l : List S_laws_PlantValve) : Ob := .arr 241 4 (l.map en_S_laws_PlantValve)
theorem bare_en_S_laws_PlantValve (x : S_laws_PlantValve) : (en_S_laws_PlantValve x).all V.bare = true := rfl
theorem rdm_en_S_laws_PlantValve (l : List S_laws_PlantValve) (i : Int) (h0 : 0 ≤ i) (h1 : i < (l.length : Int)) : (l.map en_S_laws_PlantValve)[i.toNat]? = some (en_S_laws_PlantValve (rd_laws_PlantValve l i)) := by
  have : i.toNat < l.length := by omega
  simp [rd_laws_PlantValve, this]
def en_S_impl_PlantFoe (x : S_impl_PlantFoe) : List V := [.str x.f0, .str x.f1]
def sv_S_impl_PlantFoe (l : List S_impl_PlantFoe) : V := .sl 2 l.length (l.map en_S_impl_PlantFoe)
def ob_S_impl_PlantFoe (l : List S_impl_PlantFoe) : Ob := .arr 170 2 (l.map en_S_impl_PlantFoe)
theorem bare_en_S_impl_PlantFoe (x : S_impl_PlantFoe) : (en_S_impl_PlantFoe x).all V.bare = true := rfl
theorem rdm_en_S_impl_PlantFoe (l : List S_impl_PlantFoe) (i : Int) (h0 : 0 ≤ i) (h1 : i < (l.length : Int)) : (l.map en_S_impl_PlantFoe)[i.toNat]? = some (en_S_impl_PlantFoe (rd_impl_PlantFoe l i)) := by
  have : i.toNat < l.length := by omega
  simp [rd_impl_PlantFoe, this]
def en_S_impl_PlantPlace (x : S_impl_PlantPlace) : List V := [.str x.f0, .int .i64 x.f1, .str x.f2]
def sv_S_impl_PlantPlace (l : List S_impl_PlantPlace) : V := .sl 3 l.length (l.map en_S_impl_PlantPlace)
def ob_S_impl_PlantPlace (l : List S_impl_PlantPlace) : Ob := .arr 173 3 (l.map en_S_impl_PlantPlace)
theorem bare_en_S_impl_PlantPlace (x : S_impl_PlantPlace) : (en_S_impl_PlantPlace x).all V.bare = true := rfl
theorem rdm_en_S_impl_PlantPlace (l : List S_impl_PlantPlace) (i : Int) (h0 : 0 ≤ i) (h1 : i < (l.length : Int)) : (l.map en_S_impl_PlantPlace)[i.toNat]? = some (en_S_impl_PlantPlace (rd_impl_PlantPlace l i)) := by
  have : i.toNat < l.length := by omega
  simp [rd_impl_PlantPlace, this]
def en_S_impl_PlantValve (x : S_impl_PlantValve) : List V := [.str x.f0, .str x.f1, .str x.f2, .str x.f3]
def sv_S_impl_PlantValve (l : List S_impl_PlantValve) : V := .sl 4 l.length (l.map en_S_impl_PlantValve)
def ob_S_impl_PlantValve (l : List S_impl_PlantValve) : Ob := .arr 175 4 (l.map en_S_impl_PlantValve)
theorem bare_en_S_impl_PlantValve (x : S_impl_PlantValve) : (en_S_impl_PlantValve x).all V.bare = true := rfl
theorem rdm_en_S_impl_PlantValve (l : List S_impl_PlantValve) (i : Int) (h0 : 0 ≤ i) (h1 : i < (l.length : Int)) : (l.map en_S_impl_PlantValve)[i.toNat]? = some (en_S_impl_PlantValve (rd_impl_PlantValve l i)) := by
  have : i.toNat < l.length := by omega
  simp [rd_impl_PlantValve, this]
def en_S_impl_ClaimFoe (x : S_impl_ClaimFoe) : List V := [.str x.f0, .str x.f1]
def sv_S_impl_ClaimFoe (l : List S_impl_ClaimFoe) : V := .sl 2 l.length (l.map en_S_impl_ClaimFoe)
def ob_S_impl_ClaimFoe (l : List S_impl_ClaimFoe) : Ob := .arr 171 2 (l.map en_S_impl_ClaimFoe)
theorem bare_en_S_impl_ClaimFoe (x : S_impl_ClaimFoe) : (en_S_impl_ClaimFoe x).all V.bare = true := rfl
theorem rdm_en_S_impl_ClaimFoe (l : List S_impl_ClaimFoe) (i : Int) (h0 : 0 ≤ i) (h1 : i < (l.length : Int)) : (l.map en_S_impl_ClaimFoe)[i.toNat]? = some (en_S_impl_ClaimFoe (rd_impl_ClaimFoe l i)) := by
  have : i.toNat < l.length := by omega
  simp [rd_impl_ClaimFoe, this]
def en_S_impl_ClaimSpot (x : S_impl_ClaimSpot) : List V := [.str x.f0, .int .i64 x.f1, .int .i64 x.f2, .int .i64 x.f3, (sv_str x.f4)]
def sv_S_impl_ClaimSpot (l : List S_impl_ClaimSpot) : V := .sl 5 l.length (l.map en_S_impl_ClaimSpot)
def ob_S_impl_ClaimSpot (l : List S_impl_ClaimSpot) : Ob := .arr 150 5 (l.map en_S_impl_ClaimSpot)
theorem bareE_en_S_impl_ClaimSpot (x : S_impl_ClaimSpot) (h : (x.f4.isEmpty) = true) : (en_S_impl_ClaimSpot x).all V.bareE = true := by
  simp only [Bool.and_eq_true, List.isEmpty_iff] at h
  have h0 := h
  unfold en_S_impl_ClaimSpot
  rw [h0]
  rfl
theorem rdm_en_S_impl_ClaimSpot (l : List S_impl_ClaimSpot) (i : Int) (h0 : 0 ≤ i) (h1 : i < (l.length : Int)) : (l.map en_S_impl_ClaimSpot)[i.toNat]? = some (en_S_impl_ClaimSpot (rd_impl_ClaimSpot l i)) := by
  have : i.toNat < l.length := by omega
  simp [rd_impl_ClaimSpot, this]
def en_S_impl_ClaimUse (x : S_impl_ClaimUse) : List V := [.str x.f0, .int .i64 x.f1, .int .i64 x.f2]
def sv_S_impl_ClaimUse (l : List S_impl_ClaimUse) : V := .sl 3 l.length (l.map en_S_impl_ClaimUse)
def ob_S_impl_ClaimUse (l : List S_impl_ClaimUse) : Ob := .arr 231 3 (l.map en_S_impl_ClaimUse)
theorem bare_en_S_impl_ClaimUse (x : S_impl_ClaimUse) : (en_S_impl_ClaimUse x).all V.bare = true := rfl
theorem rdm_en_S_impl_ClaimUse (l : List S_impl_ClaimUse) (i : Int) (h0 : 0 ≤ i) (h1 : i < (l.length : Int)) : (l.map en_S_impl_ClaimUse)[i.toNat]? = some (en_S_impl_ClaimUse (rd_impl_ClaimUse l i)) := by
  have : i.toNat < l.length := by omega
  simp [rd_impl_ClaimUse, this]
def en_S_impl_ClaimPart (x : S_impl_ClaimPart) : List V := [.int .i64 x.f0.f0, .int .i64 x.f0.f1, (sv_str x.f0.f2), (sv_S_impl_ClaimUse x.f0.f3), (sv_str x.f0.f4), (sv_str x.f0.f5), .bool x.f1]
def sv_S_impl_ClaimPart (l : List S_impl_ClaimPart) : V := .sl 7 l.length (l.map en_S_impl_ClaimPart)
def ob_S_impl_ClaimPart (l : List S_impl_ClaimPart) : Ob := .arr 156 7 (l.map en_S_impl_ClaimPart)
theorem bareE_en_S_impl_ClaimPart (x : S_impl_ClaimPart) (h : (x.f0.f2.isEmpty && x.f0.f3.isEmpty && x.f0.f4.isEmpty && x.f0.f5.isEmpty) = true) : (en_S_impl_ClaimPart x).all V.bareE = true := by
  simp only [Bool.and_eq_true, List.isEmpty_iff] at h
  obtain ⟨⟨⟨h0, h1⟩, h2⟩, h3⟩ := h
  unfold en_S_impl_ClaimPart
  rw [h0, h1, h2, h3]
  rfl
theorem rdm_en_S_impl_ClaimPart (l : List S_impl_ClaimPart) (i : Int) (h0 : 0 ≤ i) (h1 : i < (l.length : Int)) : (l.map en_S_impl_ClaimPart)[i.toNat]? = some (en_S_impl_ClaimPart (rd_impl_ClaimPart l i)) := by
  have : i.toNat < l.length := by omega
  simp [rd_impl_ClaimPart, this]
def en_S_A2_string (x : S_A2_string) : List V := [.str x.f0, .str x.f1]
def sv_S_A2_string (l : List S_A2_string) : V := .sl 2 l.length (l.map en_S_A2_string)
def ob_S_A2_string (l : List S_A2_string) : Ob := .arr 205 2 (l.map en_S_A2_string)
theorem bare_en_S_A2_string (x : S_A2_string) : (en_S_A2_string x).all V.bare = true := rfl
theorem rdm_en_S_A2_string (l : List S_A2_string) (i : Int) (h0 : 0 ≤ i) (h1 : i < (l.length : Int)) : (l.map en_S_A2_string)[i.toNat]? = some (en_S_A2_string (rd_A2_string l i)) := by
  have : i.toNat < l.length := by omega
  simp [rd_A2_string, this]
def en_u8 (x : Int) : List V := [.int .u8 x]
def sv_u8 (l : List Int) : V := .sl 1 l.length (l.map en_u8)
def ob_u8 (l : List Int) : Ob := .arr 5 1 (l.map en_u8)
theorem bare_en_u8 (x : Int) : (en_u8 x).all V.bare = true := rfl
theorem rdm_en_u8 (l : List Int) (i : Int) (h0 : 0 ≤ i) (h1 : i < (l.length : Int)) : (l.map en_u8)[i.toNat]? = some (en_u8 (rd l i)) := by
  have : i.toNat < l.length := by omega
  simp [rd, this]
def en_L_str (x : List ByteArray) : List V := [(sv_str x)]
def sv_L_str (l : List (List ByteArray)) : V := .sl 1 l.length (l.map en_L_str)
def ob_L_str (l : List (List ByteArray)) : Ob := .arr 44 1 (l.map en_L_str)
theorem rdm_en_L_str (l : List (List ByteArray)) (i : Int) (h0 : 0 ≤ i) (h1 : i < (l.length : Int)) : (l.map en_L_str)[i.toNat]? = some (en_L_str (rdOf ([] : List ByteArray) l i)) := by
  have : i.toNat < l.length := by omega
  simp [rdOf, this]
def en_L_S_laws_PlantFoe (x : List S_laws_PlantFoe) : List V := [(sv_S_laws_PlantFoe x)]
def sv_L_S_laws_PlantFoe (l : List (List S_laws_PlantFoe)) : V := .sl 1 l.length (l.map en_L_S_laws_PlantFoe)
def ob_L_S_laws_PlantFoe (l : List (List S_laws_PlantFoe)) : Ob := .arr 71 1 (l.map en_L_S_laws_PlantFoe)
theorem rdm_en_L_S_laws_PlantFoe (l : List (List S_laws_PlantFoe)) (i : Int) (h0 : 0 ≤ i) (h1 : i < (l.length : Int)) : (l.map en_L_S_laws_PlantFoe)[i.toNat]? = some (en_L_S_laws_PlantFoe (rdOf ([] : List S_laws_PlantFoe) l i)) := by
  have : i.toNat < l.length := by omega
  simp [rdOf, this]
def en_i64 (x : Int) : List V := [.int .i64 x]
def sv_i64 (l : List Int) : V := .sl 1 l.length (l.map en_i64)
def ob_i64 (l : List Int) : Ob := .arr 3 1 (l.map en_i64)
theorem bare_en_i64 (x : Int) : (en_i64 x).all V.bare = true := rfl
theorem rdm_en_i64 (l : List Int) (i : Int) (h0 : 0 ≤ i) (h1 : i < (l.length : Int)) : (l.map en_i64)[i.toNat]? = some (en_i64 (rd l i)) := by
  have : i.toNat < l.length := by omega
  simp [rd, this]
def en_L_S_laws_PlantPlace (x : List S_laws_PlantPlace) : List V := [(sv_S_laws_PlantPlace x)]
def sv_L_S_laws_PlantPlace (l : List (List S_laws_PlantPlace)) : V := .sl 1 l.length (l.map en_L_S_laws_PlantPlace)
def ob_L_S_laws_PlantPlace (l : List (List S_laws_PlantPlace)) : Ob := .arr 72 1 (l.map en_L_S_laws_PlantPlace)
theorem rdm_en_L_S_laws_PlantPlace (l : List (List S_laws_PlantPlace)) (i : Int) (h0 : 0 ≤ i) (h1 : i < (l.length : Int)) : (l.map en_L_S_laws_PlantPlace)[i.toNat]? = some (en_L_S_laws_PlantPlace (rdOf ([] : List S_laws_PlantPlace) l i)) := by
  have : i.toNat < l.length := by omega
  simp [rdOf, this]
def en_L_S_laws_PlantValve (x : List S_laws_PlantValve) : List V := [(sv_S_laws_PlantValve x)]
def sv_L_S_laws_PlantValve (l : List (List S_laws_PlantValve)) : V := .sl 1 l.length (l.map en_L_S_laws_PlantValve)
def ob_L_S_laws_PlantValve (l : List (List S_laws_PlantValve)) : Ob := .arr 73 1 (l.map en_L_S_laws_PlantValve)
theorem rdm_en_L_S_laws_PlantValve (l : List (List S_laws_PlantValve)) (i : Int) (h0 : 0 ≤ i) (h1 : i < (l.length : Int)) : (l.map en_L_S_laws_PlantValve)[i.toNat]? = some (en_L_S_laws_PlantValve (rdOf ([] : List S_laws_PlantValve) l i)) := by
  have : i.toNat < l.length := by omega
  simp [rdOf, this]
def en_S_laws_Plant (x : S_laws_Plant) : List V := [(sv_str x.f0), (sv_S_laws_PlantFoe x.f1), (sv_S_laws_PlantPlace x.f2), (sv_S_laws_PlantValve x.f3)]
def sv_S_laws_Plant (l : List S_laws_Plant) : V := .sl 4 l.length (l.map en_S_laws_Plant)
def ob_S_laws_Plant (l : List S_laws_Plant) : Ob := .arr 75 4 (l.map en_S_laws_Plant)
theorem bareE_en_S_laws_Plant (x : S_laws_Plant) (h : (x.f0.isEmpty && x.f1.isEmpty && x.f2.isEmpty && x.f3.isEmpty) = true) : (en_S_laws_Plant x).all V.bareE = true := by
  simp only [Bool.and_eq_true, List.isEmpty_iff] at h
  obtain ⟨⟨⟨h0, h1⟩, h2⟩, h3⟩ := h
  unfold en_S_laws_Plant
  rw [h0, h1, h2, h3]
  rfl
theorem rdm_en_S_laws_Plant (l : List S_laws_Plant) (i : Int) (h0 : 0 ≤ i) (h1 : i < (l.length : Int)) : (l.map en_S_laws_Plant)[i.toNat]? = some (en_S_laws_Plant (rd_laws_Plant l i)) := by
  have : i.toNat < l.length := by omega
  simp [rd_laws_Plant, this]
attribute [local irreducible] callE Lp Sq Cut RetOk Fits

theorem laws_szStringS.l0_lp {F : (Exit → St → Prop) → St → Prop} {hv : List Tmp} {Q : Exit → St → Prop} {σ : St} {r : Int} {k : Nat} {l0 : List ByteArray} {x1 : Int} {x5 : Int} (H : laws_szStringS.l0 k l0 x1 x5 = some r) (rn : List (Option Nat)) (h1 : Fits σ σ [] [(1, .int .i64 x1), (5, .int .i64 x5)] [] [] rn)
    (h2 : ∀ (k0 : Nat) (x1 : Int) (x5 : Int), k0 < k + 1 → laws_szStringS.l0 k0 l0 x1 x5 = some r → headN σ hv [] [(1, .int .i64 x1), (5, .int .i64 x5)] [] [] (F (fun e σ' => match e with | .normal => ∃ (y : Nat × Int × Int) (rn : List (Option Nat)), (laws_szStringS.l0 y.1 l0 y.2.1 y.2.2 = some r ∧ y.1 < k + 1) ∧ y.1 < k0 ∧ Fits σ σ' [] [(1, .int .i64 y.2.1), (5, .int .i64 y.2.2)] [] [] rn | e => Q e σ'))) : Lp F hv Q σ := by
  unfold Lp
  refine ⟨Nat × Int × Int, fun x => laws_szStringS.l0 x.1 l0 x.2.1 x.2.2 = some r ∧ x.1 < k + 1, fun x => x.1, [], fun x => [(1, .int .i64 x.2.1), (5, .int .i64 x.2.2)], fun x => [], fun x => [], ⟨(k, x1, x5), rn, ⟨H, Nat.lt_succ_self _⟩, h1⟩, ?_⟩
  rintro ⟨k, x1, x5⟩ ⟨H, hk⟩
  exact h2 k x1 x5 hk H
theorem laws_szStringS.ac {k : Nat} {l0 : List ByteArray} {a1 : Int} {r : Int} (H : laws_szStringS.f k l0 a1 = some r) : ACalls Try.prog G 91 [] [(sv_str l0), .int .i64 a1] [] (.int .i64 r) := by
  refine acalls_of tok hP Try.func91 rfl (by kernel_rfl) [.tmp 4] rfl (by kernel_rfl) (Nat.le_of_ble_eq_true rfl) (.l .n (.l .n (.l .n (.l (.l .n (.l (.c .n .n) (.l (.l .n (.c .n .n)) .n))) .n)))) rfl ?_
  unfold laws_szStringS.f at H
  conv => whnf
  refine br_d H (fun c H => ?_) (fun c H => ?_)
  conv => whnf
  injection H with H; subst H
  exact ret_fz [] (rtA_eq rfl)
  conv => whnf
  refine laws_szStringS.l0_lp (l0 := l0) (k := k) H [] (fits_of ⟨.inl ⟨rfl, rfl⟩, ⟨.inl ⟨rfl, rfl⟩, trivial⟩⟩ trivial fi_ trivial rfl) ?_
  intro k x1 x5 hk H; rcases k with _ | k; exact none_elim H; rw [laws_szStringS.l0] at H; conv => whnf
  refine cut_ 104 [(0, (sv_str l0)), (1, .int .i64 x1), (5, .int .i64 x5), (15, .bool (decide (x5 < (l0.length : Int))))] [] rfl ⟨.inl rfl, ⟨.inl rfl, ⟨.inl rfl, ⟨.inl rfl, trivial⟩⟩⟩⟩ trivial ?_
  conv => whnf
  refine br_d H (fun c H => ?_) (fun c H => ?_)
  conv => whnf
  refine nd_ H (fun c H => ?_)
  conv => whnf
  refine Nd.mk nf_ ?_
  conv => whnf
  refine El.mk (rdm_en_str _ _ nf_ nf_) ?_
  conv => whnf
  refine cut_ 184 [(0, (sv_str l0)), (1, .int .i64 (wrap64 (x1 - ((rdOf ByteArray.empty l0 x5).size : Int)))), (5, .int .i64 x5), (26, .bool (decide ((wrap64 (x1 - ((rdOf ByteArray.empty l0 x5).size : Int))) < 0)))] [] rfl ⟨.inl rfl, ⟨.inl rfl, ⟨.inl rfl, ⟨.inl rfl, trivial⟩⟩⟩⟩ trivial ?_
  conv => whnf
  refine br_d H (fun c H => ?_) (fun c H => ?_)
  conv => whnf
  injection H with H; subst H
  exact ret_fz [] (rtA_eq rfl)
  conv => whnf
  exact ⟨(k, wrap64 (x1 - ((rdOf ByteArray.empty l0 x5).size : Int)), wrap64 (x5 + 1)), [], ⟨H, lt_⟩, lt_, (fits_of ⟨.inl ⟨rfl, rfl⟩, ⟨.inl ⟨rfl, rfl⟩, trivial⟩⟩ trivial fi_ trivial rfl)⟩
  conv => whnf
  injection H with H; subst H
  exact ret_fz [] (rtA_eq rfl)
theorem laws_szPlantFoe.ac {a0_0 : ByteArray} {a0_1 : ByteArray} {a1 : Int} {r : Int} (H : laws_szPlantFoe.f a0_0 a0_1 a1 = some r) : ACalls Try.prog G 184 [] [.agg [.str a0_0, .str a0_1], .int .i64 a1] [] (.int .i64 r) := by
  refine acalls_of tok hP Try.func184 rfl (by kernel_rfl) [.tmp 4] rfl (by kernel_rfl) (Nat.le_of_ble_eq_true rfl) (.l .n (.l .n (.l (.c .n .n) (.l .n (.l .n (.c .n .n)))))) rfl ?_
  unfold laws_szPlantFoe.f at H
  conv => whnf
  refine cut_ 80 [(1, .int .i64 (wrap64 (a1 - (a0_0.size : Int)))), (2, .bp 0 0), (11, .bool (decide ((wrap64 (a1 - (a0_0.size : Int))) < 0)))] [(0, .box [.str a0_0, .str a0_1])] rfl ⟨.inl rfl, ⟨.inl rfl, ⟨.inl rfl, trivial⟩⟩⟩ ⟨rfl, trivial⟩ ?_
  conv => whnf
  refine br_d H (fun c H => ?_) (fun c H => ?_)
  conv => whnf
  injection H with H; subst H
  exact ret_fz [] (rtA_eq rfl)
  conv => whnf
  refine br_d H (fun c H => ?_) (fun c H => ?_)
  conv => whnf
  injection H with H; subst H
  exact ret_fz [] (rtA_eq rfl)
  conv => whnf
  refine cut_ 160 [(4, .int .i64 (wrap64 ((wrap64 (a1 - (a0_0.size : Int))) - (a0_1.size : Int))))] [] rfl ⟨.inl rfl, trivial⟩ trivial ?_
  conv => whnf
  injection H with H; subst H
  exact ret_fz [] (rtA_eq rfl)
theorem laws_szPlantFoeS.l0_lp {F : (Exit → St → Prop) → St → Prop} {hv : List Tmp} {Q : Exit → St → Prop} {σ : St} {r : Int} {k : Nat} {l0 : List S_laws_PlantFoe} {x1 : Int} {x5 : Int} (H : laws_szPlantFoeS.l0 k l0 x1 x5 = some r) (rn : List (Option Nat)) (h1 : Fits σ σ [] [(1, .int .i64 x1), (5, .int .i64 x5)] [] [] rn)
    (h2 : ∀ (k0 : Nat) (x1 : Int) (x5 : Int), k0 < k + 1 → laws_szPlantFoeS.l0 k0 l0 x1 x5 = some r → headN σ hv [] [(1, .int .i64 x1), (5, .int .i64 x5)] [] [] (F (fun e σ' => match e with | .normal => ∃ (y : Nat × Int × Int) (rn : List (Option Nat)), (laws_szPlantFoeS.l0 y.1 l0 y.2.1 y.2.2 = some r ∧ y.1 < k + 1) ∧ y.1 < k0 ∧ Fits σ σ' [] [(1, .int .i64 y.2.1), (5, .int .i64 y.2.2)] [] [] rn | e => Q e σ'))) : Lp F hv Q σ := by
  unfold Lp
  refine ⟨Nat × Int × Int, fun x => laws_szPlantFoeS.l0 x.1 l0 x.2.1 x.2.2 = some r ∧ x.1 < k + 1, fun x => x.1, [], fun x => [(1, .int .i64 x.2.1), (5, .int .i64 x.2.2)], fun x => [], fun x => [], ⟨(k, x1, x5), rn, ⟨H, Nat.lt_succ_self _⟩, h1⟩, ?_⟩
  rintro ⟨k, x1, x5⟩ ⟨H, hk⟩
  exact h2 k x1 x5 hk H
theorem laws_szPlantFoeS.ac {k : Nat} {l0 : List S_laws_PlantFoe} {a1 : Int} {r : Int} (H : laws_szPlantFoeS.f k l0 a1 = some r) : ACalls Try.prog G 116 [] [(sv_S_laws_PlantFoe l0), .int .i64 a1] [] (.int .i64 r) := by
  refine acalls_of tok hP Try.func116 rfl (by kernel_rfl) [.tmp 4] rfl (by kernel_rfl) (Nat.le_of_ble_eq_true rfl) (.l .n (.l .n (.l .n (.l (.l .n (.l (.c .n .n) (.l (.l .n (.l .n (.l (.c .n .n) .n))) .n))) .n)))) rfl ?_
  unfold laws_szPlantFoeS.f at H
  conv => whnf
  refine br_d H (fun c H => ?_) (fun c H => ?_)
  conv => whnf
  injection H with H; subst H
  exact ret_fz [] (rtA_eq rfl)
  conv => whnf
  refine laws_szPlantFoeS.l0_lp (l0 := l0) (k := k) H [] (fits_of ⟨.inl ⟨rfl, rfl⟩, ⟨.inl ⟨rfl, rfl⟩, trivial⟩⟩ trivial fi_ trivial rfl) ?_
  intro k x1 x5 hk H; rcases k with _ | k; exact none_elim H; rw [laws_szPlantFoeS.l0] at H; conv => whnf
  refine cut_ 104 [(0, (sv_S_laws_PlantFoe l0)), (1, .int .i64 x1), (5, .int .i64 x5), (15, .bool (decide (x5 < (l0.length : Int))))] [] rfl ⟨.inl rfl, ⟨.inl rfl, ⟨.inl rfl, ⟨.inl rfl, trivial⟩⟩⟩⟩ trivial ?_
  conv => whnf
  refine br_d H (fun c H => ?_) (fun c H => ?_)
  conv => whnf
  refine nd_ H (fun c H => ?_)
  conv => whnf
  refine Nd.mk nf_ ?_
  conv => whnf
  refine El.mk (rdm_en_S_laws_PlantFoe _ _ nf_ nf_) ?_
  conv => whnf
  revert H; refine bind_elim (fun t8 A H => ?_)
  refine call_mk (laws_szPlantFoe.ac A) (avAL_cons (avA_agg (avL_cons (av_shut' rfl) (avL_cons (av_shut' rfl) (avL_nil)))) (avAL_cons (avA_shut' rfl) (avAL_nil))) (Or.inl rfl) rfl rfl (Nat.le_of_ble_eq_true rfl) ?_
  conv => whnf
  refine br_d H (fun c H => ?_) (fun c H => ?_)
  conv => whnf
  refine cut_ 184 [(4, .int .i64 (-1))] [] rfl ⟨.inl rfl, trivial⟩ trivial ?_
  conv => whnf
  injection H with H; subst H
  exact ret_fz [] (rtA_eq rfl)
  conv => whnf
  exact ⟨(k, t8, wrap64 (x5 + 1)), [], ⟨H, lt_⟩, lt_, (fits_of ⟨.inl ⟨rfl, rfl⟩, ⟨.inl ⟨rfl, rfl⟩, trivial⟩⟩ trivial fi_ trivial rfl)⟩
  conv => whnf
  injection H with H; subst H
  exact ret_fz [] (rtA_eq rfl)
theorem laws_szPlantPlace.ac {a0_0 : ByteArray} {a0_1 : Int} {a0_2 : ByteArray} {a1 : Int} {r : Int} (H : laws_szPlantPlace.f a0_0 a0_1 a0_2 a1 = some r) : ACalls Try.prog G 185 [] [.agg [.str a0_0, .int .i64 a0_1, .str a0_2], .int .i64 a1] [] (.int .i64 r) := by
  refine acalls_of tok hP Try.func185 rfl (by kernel_rfl) [.tmp 4] rfl (by kernel_rfl) (Nat.le_of_ble_eq_true rfl) (.l .n (.l .n (.l (.c .n .n) (.l .n (.l .n (.c .n .n)))))) rfl ?_
  unfold laws_szPlantPlace.f at H
  conv => whnf
  refine cut_ 80 [(1, .int .i64 (wrap64 (a1 - (a0_0.size : Int)))), (2, .bp 0 0), (11, .bool (decide ((wrap64 (a1 - (a0_0.size : Int))) < 0)))] [(0, .box [.str a0_0, .int .i64 a0_1, .str a0_2])] rfl ⟨.inl rfl, ⟨.inl rfl, ⟨.inl rfl, trivial⟩⟩⟩ ⟨rfl, trivial⟩ ?_
  conv => whnf
  refine br_d H (fun c H => ?_) (fun c H => ?_)
  conv => whnf
  injection H with H; subst H
  exact ret_fz [] (rtA_eq rfl)
  conv => whnf
  refine br_d H (fun c H => ?_) (fun c H => ?_)
  conv => whnf
  injection H with H; subst H
  exact ret_fz [] (rtA_eq rfl)
  conv => whnf
  refine cut_ 160 [(4, .int .i64 (wrap64 ((wrap64 (a1 - (a0_0.size : Int))) - (a0_2.size : Int))))] [] rfl ⟨.inl rfl, trivial⟩ trivial ?_
  conv => whnf
  injection H with H; subst H
  exact ret_fz [] (rtA_eq rfl)
theorem laws_szPlantPlaceS.l0_lp {F : (Exit → St → Prop) → St → Prop} {hv : List Tmp} {Q : Exit → St → Prop} {σ : St} {r : Int} {k : Nat} {l0 : List S_laws_PlantPlace} {x1 : Int} {x5 : Int} (H : laws_szPlantPlaceS.l0 k l0 x1 x5 = some r) (rn : List (Option Nat)) (h1 : Fits σ σ [] [(1, .int .i64 x1), (5, .int .i64 x5)] [] [] rn)
    (h2 : ∀ (k0 : Nat) (x1 : Int) (x5 : Int), k0 < k + 1 → laws_szPlantPlaceS.l0 k0 l0 x1 x5 = some r → headN σ hv [] [(1, .int .i64 x1), (5, .int .i64 x5)] [] [] (F (fun e σ' => match e with | .normal => ∃ (y : Nat × Int × Int) (rn : List (Option Nat)), (laws_szPlantPlaceS.l0 y.1 l0 y.2.1 y.2.2 = some r ∧ y.1 < k + 1) ∧ y.1 < k0 ∧ Fits σ σ' [] [(1, .int .i64 y.2.1), (5, .int .i64 y.2.2)] [] [] rn | e => Q e σ'))) : Lp F hv Q σ := by
  unfold Lp
  refine ⟨Nat × Int × Int, fun x => laws_szPlantPlaceS.l0 x.1 l0 x.2.1 x.2.2 = some r ∧ x.1 < k + 1, fun x => x.1, [], fun x => [(1, .int .i64 x.2.1), (5, .int .i64 x.2.2)], fun x => [], fun x => [], ⟨(k, x1, x5), rn, ⟨H, Nat.lt_succ_self _⟩, h1⟩, ?_⟩
  rintro ⟨k, x1, x5⟩ ⟨H, hk⟩
  exact h2 k x1 x5 hk H
theorem laws_szPlantPlaceS.ac {k : Nat} {l0 : List S_laws_PlantPlace} {a1 : Int} {r : Int} (H : laws_szPlantPlaceS.f k l0 a1 = some r) : ACalls Try.prog G 117 [] [(sv_S_laws_PlantPlace l0), .int .i64 a1] [] (.int .i64 r) := by
  refine acalls_of tok hP Try.func117 rfl (by kernel_rfl) [.tmp 4] rfl (by kernel_rfl) (Nat.le_of_ble_eq_true rfl) (.l .n (.l .n (.l .n (.l (.l .n (.l (.c .n .n) (.l (.l .n (.l .n (.l (.c .n .n) .n))) .n))) .n)))) rfl ?_
  unfold laws_szPlantPlaceS.f at H
  conv => whnf
  refine br_d H (fun c H => ?_) (fun c H => ?_)
  conv => whnf
  injection H with H; subst H
  exact ret_fz [] (rtA_eq rfl)
  conv => whnf
  refine laws_szPlantPlaceS.l0_lp (l0 := l0) (k := k) H [] (fits_of ⟨.inl ⟨rfl, rfl⟩, ⟨.inl ⟨rfl, rfl⟩, trivial⟩⟩ trivial fi_ trivial rfl) ?_
  intro k x1 x5 hk H; rcases k with _ | k; exact none_elim H; rw [laws_szPlantPlaceS.l0] at H; conv => whnf
  refine cut_ 104 [(0, (sv_S_laws_PlantPlace l0)), (1, .int .i64 x1), (5, .int .i64 x5), (15, .bool (decide (x5 < (l0.length : Int))))] [] rfl ⟨.inl rfl, ⟨.inl rfl, ⟨.inl rfl, ⟨.inl rfl, trivial⟩⟩⟩⟩ trivial ?_
  conv => whnf
  refine br_d H (fun c H => ?_) (fun c H => ?_)
  conv => whnf
  refine nd_ H (fun c H => ?_)
  conv => whnf
  refine Nd.mk nf_ ?_
  conv => whnf
  refine El.mk (rdm_en_S_laws_PlantPlace _ _ nf_ nf_) ?_
  conv => whnf
  revert H; refine bind_elim (fun t20 A H => ?_)
  refine call_mk (laws_szPlantPlace.ac A) (avAL_cons (avA_agg (avL_cons (av_shut' rfl) (avL_cons (av_shut' rfl) (avL_cons (av_shut' rfl) (avL_nil))))) (avAL_cons (avA_shut' rfl) (avAL_nil))) (Or.inl rfl) rfl rfl (Nat.le_of_ble_eq_true rfl) ?_
  conv => whnf
  refine br_d H (fun c H => ?_) (fun c H => ?_)
  conv => whnf
  refine cut_ 184 [(4, .int .i64 (-1))] [] rfl ⟨.inl rfl, trivial⟩ trivial ?_
  conv => whnf
  injection H with H; subst H
  exact ret_fz [] (rtA_eq rfl)
  conv => whnf
  exact ⟨(k, t20, wrap64 (x5 + 1)), [], ⟨H, lt_⟩, lt_, (fits_of ⟨.inl ⟨rfl, rfl⟩, ⟨.inl ⟨rfl, rfl⟩, trivial⟩⟩ trivial fi_ trivial rfl)⟩
  conv => whnf
  injection H with H; subst H
  exact ret_fz [] (rtA_eq rfl)
theorem laws_szPlantValve.ac {a0_0 : ByteArray} {a0_1 : ByteArray} {a0_2 : ByteArray} {a0_3 : ByteArray} {a1 : Int} {r : Int} (H : laws_szPlantValve.f a0_0 a0_1 a0_2 a0_3 a1 = some r) : ACalls Try.prog G 186 [] [.agg [.str a0_0, .str a0_1, .str a0_2, .str a0_3], .int .i64 a1] [] (.int .i64 r) := by
  refine acalls_of tok hP Try.func186 rfl (by kernel_rfl) [.tmp 4] rfl (by kernel_rfl) (Nat.le_of_ble_eq_true rfl) (.l .n (.l .n (.l (.c .n .n) (.l .n (.l .n (.c .n (.l .n (.l .n (.l (.c .n .n) .n))))))))) rfl ?_
  unfold laws_szPlantValve.f at H
  conv => whnf
  refine cut_ 80 [(1, .int .i64 (wrap64 (a1 - (a0_0.size : Int)))), (2, .bp 0 0), (11, .bool (decide ((wrap64 (a1 - (a0_0.size : Int))) < 0)))] [(0, .box [.str a0_0, .str a0_1, .str a0_2, .str a0_3])] rfl ⟨.inl rfl, ⟨.inl rfl, ⟨.inl rfl, trivial⟩⟩⟩ ⟨rfl, trivial⟩ ?_
  conv => whnf
  refine br_d H (fun c H => ?_) (fun c H => ?_)
  conv => whnf
  injection H with H; subst H
  exact ret_fz [] (rtA_eq rfl)
  conv => whnf
  refine br_d H (fun c H => ?_) (fun c H => ?_)
  conv => whnf
  injection H with H; subst H
  exact ret_fz [] (rtA_eq rfl)
  conv => whnf
  refine cut_ 192 [(1, .int .i64 (wrap64 ((wrap64 ((wrap64 (a1 - (a0_0.size : Int))) - (a0_1.size : Int))) - (a0_2.size : Int)))), (2, .bp 0 0)] [(0, .box [.str a0_0, .str a0_1, .str a0_2, .str a0_3])] rfl ⟨.inl rfl, ⟨.inl rfl, trivial⟩⟩ ⟨rfl, trivial⟩ ?_
  conv => whnf
  refine br_d H (fun c H => ?_) (fun c H => ?_)
  conv => whnf
  injection H with H; subst H
  exact ret_fz [] (rtA_eq rfl)
  conv => whnf
  refine cut_ 272 [(1, .int .i64 (wrap64 ((wrap64 ((wrap64 ((wrap64 (a1 - (a0_0.size : Int))) - (a0_1.size : Int))) - (a0_2.size : Int))) - (a0_3.size : Int)))), (32, .bool (decide ((wrap64 ((wrap64 ((wrap64 ((wrap64 (a1 - (a0_0.size : Int))) - (a0_1.size : Int))) - (a0_2.size : Int))) - (a0_3.size : Int))) < 0)))] [] rfl ⟨.inl rfl, ⟨.inl rfl, trivial⟩⟩ trivial ?_
  conv => whnf
  refine br_d H (fun c H => ?_) (fun c H => ?_)
  conv => whnf
  injection H with H; subst H
  exact ret_fz [] (rtA_eq rfl)
  conv => whnf
  injection H with H; subst H
  exact ret_fz [] (rtA_eq rfl)
theorem laws_szPlantValveS.l0_lp {F : (Exit → St → Prop) → St → Prop} {hv : List Tmp} {Q : Exit → St → Prop} {σ : St} {r : Int} {k : Nat} {l0 : List S_laws_PlantValve} {x1 : Int} {x5 : Int} (H : laws_szPlantValveS.l0 k l0 x1 x5 = some r) (rn : List (Option Nat)) (h1 : Fits σ σ [] [(1, .int .i64 x1), (5, .int .i64 x5)] [] [] rn)
    (h2 : ∀ (k0 : Nat) (x1 : Int) (x5 : Int), k0 < k + 1 → laws_szPlantValveS.l0 k0 l0 x1 x5 = some r → headN σ hv [] [(1, .int .i64 x1), (5, .int .i64 x5)] [] [] (F (fun e σ' => match e with | .normal => ∃ (y : Nat × Int × Int) (rn : List (Option Nat)), (laws_szPlantValveS.l0 y.1 l0 y.2.1 y.2.2 = some r ∧ y.1 < k + 1) ∧ y.1 < k0 ∧ Fits σ σ' [] [(1, .int .i64 y.2.1), (5, .int .i64 y.2.2)] [] [] rn | e => Q e σ'))) : Lp F hv Q σ := by
  unfold Lp
  refine ⟨Nat × Int × Int, fun x => laws_szPlantValveS.l0 x.1 l0 x.2.1 x.2.2 = some r ∧ x.1 < k + 1, fun x => x.1, [], fun x => [(1, .int .i64 x.2.1), (5, .int .i64 x.2.2)], fun x => [], fun x => [], ⟨(k, x1, x5), rn, ⟨H, Nat.lt_succ_self _⟩, h1⟩, ?_⟩
  rintro ⟨k, x1, x5⟩ ⟨H, hk⟩
  exact h2 k x1 x5 hk H
theorem laws_szPlantValveS.ac {k : Nat} {l0 : List S_laws_PlantValve} {a1 : Int} {r : Int} (H : laws_szPlantValveS.f k l0 a1 = some r) : ACalls Try.prog G 118 [] [(sv_S_laws_PlantValve l0), .int .i64 a1] [] (.int .i64 r) := by
  refine acalls_of tok hP Try.func118 rfl (by kernel_rfl) [.tmp 4] rfl (by kernel_rfl) (Nat.le_of_ble_eq_true rfl) (.l .n (.l .n (.l .n (.l (.l .n (.l (.c .n .n) (.l (.l .n (.l .n (.l (.c .n .n) .n))) .n))) .n)))) rfl ?_
  unfold laws_szPlantValveS.f at H
  conv => whnf
  refine br_d H (fun c H => ?_) (fun c H => ?_)
  conv => whnf
  injection H with H; subst H
  exact ret_fz [] (rtA_eq rfl)
  conv => whnf
  refine laws_szPlantValveS.l0_lp (l0 := l0) (k := k) H [] (fits_of ⟨.inl ⟨rfl, rfl⟩, ⟨.inl ⟨rfl, rfl⟩, trivial⟩⟩ trivial fi_ trivial rfl) ?_
  intro k x1 x5 hk H; rcases k with _ | k; exact none_elim H; rw [laws_szPlantValveS.l0] at H; conv => whnf
  refine cut_ 104 [(0, (sv_S_laws_PlantValve l0)), (1, .int .i64 x1), (5, .int .i64 x5), (15, .bool (decide (x5 < (l0.length : Int))))] [] rfl ⟨.inl rfl, ⟨.inl rfl, ⟨.inl rfl, ⟨.inl rfl, trivial⟩⟩⟩⟩ trivial ?_
  conv => whnf
  refine br_d H (fun c H => ?_) (fun c H => ?_)
  conv => whnf
  refine nd_ H (fun c H => ?_)
  conv => whnf
  refine Nd.mk nf_ ?_
  conv => whnf
  refine El.mk (rdm_en_S_laws_PlantValve _ _ nf_ nf_) ?_
  conv => whnf
  revert H; refine bind_elim (fun t36 A H => ?_)
  refine call_mk (laws_szPlantValve.ac A) (avAL_cons (avA_agg (avL_cons (av_shut' rfl) (avL_cons (av_shut' rfl) (avL_cons (av_shut' rfl) (avL_cons (av_shut' rfl) (avL_nil)))))) (avAL_cons (avA_shut' rfl) (avAL_nil))) (Or.inl rfl) rfl rfl (Nat.le_of_ble_eq_true rfl) ?_
  conv => whnf
  refine br_d H (fun c H => ?_) (fun c H => ?_)
  conv => whnf
  refine cut_ 184 [(4, .int .i64 (-1))] [] rfl ⟨.inl rfl, trivial⟩ trivial ?_
  conv => whnf
  injection H with H; subst H
  exact ret_fz [] (rtA_eq rfl)
  conv => whnf
  exact ⟨(k, t36, wrap64 (x5 + 1)), [], ⟨H, lt_⟩, lt_, (fits_of ⟨.inl ⟨rfl, rfl⟩, ⟨.inl ⟨rfl, rfl⟩, trivial⟩⟩ trivial fi_ trivial rfl)⟩
  conv => whnf
  injection H with H; subst H
  exact ret_fz [] (rtA_eq rfl)
theorem laws_szPlant.ac {k : Nat} {a0_0 : List ByteArray} {a0_1 : List S_laws_PlantFoe} {a0_2 : List S_laws_PlantPlace} {a0_3 : List S_laws_PlantValve} {a1 : Int} {r : Int} (H : laws_szPlant.f k a0_0 a0_1 a0_2 a0_3 a1 = some r) : ACalls Try.prog G 41 [] [.agg [(sv_str a0_0), (sv_S_laws_PlantFoe a0_1), (sv_S_laws_PlantPlace a0_2), (sv_S_laws_PlantValve a0_3)], .int .i64 a1] [] (.int .i64 r) := by
  refine acalls_of tok hP Try.func41 rfl (by kernel_rfl) [.tmp 4] rfl (by kernel_rfl) (Nat.le_of_ble_eq_true rfl) (.l .n (.l .n (.l (.l .n (.l (.c .n .n) .n)) (.c .n (.l .n (.l .n (.l (.l .n (.l (.c .n .n) .n)) (.c .n .n)))))))) rfl ?_
  unfold laws_szPlant.f at H
  conv => whnf
  revert H; refine bind_elim (fun t38 A H => ?_)
  refine call_mk (laws_szStringS.ac A) (avAL_cons (avA_shut' rfl) (avAL_cons (avA_shut' rfl) (avAL_nil))) (Or.inl rfl) rfl rfl (Nat.le_of_ble_eq_true rfl) ?_
  conv => whnf
  refine br_d H (fun c H => ?_) (fun c H => ?_)
  conv => whnf
  refine cut_ 80 [(4, .int .i64 (-1))] [] rfl ⟨.inl rfl, trivial⟩ trivial ?_
  conv => whnf
  injection H with H; subst H
  exact ret_fz [] (rtA_eq rfl)
  conv => whnf
  revert H; refine bind_elim (fun t40 A H => ?_)
  refine call_mk (laws_szPlantFoeS.ac A) (avAL_cons (avA_shut' rfl) (avAL_cons (avA_shut' rfl) (avAL_nil))) (Or.inl rfl) rfl rfl (Nat.le_of_ble_eq_true rfl) ?_
  conv => whnf
  refine cut_ 112 [(1, .int .i64 t40), (2, .bp 0 0)] [(0, .box [(sv_str a0_0), (sv_S_laws_PlantFoe a0_1), (sv_S_laws_PlantPlace a0_2), (sv_S_laws_PlantValve a0_3)])] rfl ⟨.inl rfl, ⟨.inl rfl, trivial⟩⟩ ⟨rfl, trivial⟩ ?_
  conv => whnf
  refine br_d H (fun c H => ?_) (fun c H => ?_)
  conv => whnf
  injection H with H; subst H
  exact ret_fz [] (rtA_eq rfl)
  conv => whnf
  revert H; refine bind_elim (fun t42 A H => ?_)
  refine call_mk (laws_szPlantPlaceS.ac A) (avAL_cons (avA_shut' rfl) (avAL_cons (avA_shut' rfl) (avAL_nil))) (Or.inl rfl) rfl rfl (Nat.le_of_ble_eq_true rfl) ?_
  conv => whnf
  refine br_d H (fun c H => ?_) (fun c H => ?_)
  conv => whnf
  refine cut_ 192 [(4, .int .i64 (-1))] [] rfl ⟨.inl rfl, trivial⟩ trivial ?_
  conv => whnf
  injection H with H; subst H
  exact ret_fz [] (rtA_eq rfl)
  conv => whnf
  revert H; refine bind_elim (fun t44 A H => ?_)
  refine call_mk (laws_szPlantValveS.ac A) (avAL_cons (avA_shut' rfl) (avAL_cons (avA_shut' rfl) (avAL_nil))) (Or.inl rfl) rfl rfl (Nat.le_of_ble_eq_true rfl) ?_
  conv => whnf
  refine cut_ 224 [(1, .int .i64 t44)] [] rfl ⟨.inl rfl, trivial⟩ trivial ?_
  conv => whnf
  refine br_d H (fun c H => ?_) (fun c H => ?_)
  conv => whnf
  injection H with H; subst H
  exact ret_fz [] (rtA_eq rfl)
  conv => whnf
  injection H with H; subst H
  exact ret_fz [] (rtA_eq rfl)
theorem laws_toStringS.l0_lp {F : (Exit → St → Prop) → St → Prop} {hv : List Tmp} {Q : Exit → St → Prop} {σ : St} {r : List ByteArray} {k : Nat} {l0 : List ByteArray} {x3 : List ByteArray} {x4 : Int} (H : laws_toStringS.l0 k l0 x3 x4 = some r) (rn : List (Option Nat)) (h1 : Fits σ σ [24] [(3, .own 0 x3.length), (4, .int .i64 x4)] [] [.arr 9 1 (x3.map en_str)] rn)
    (h2 : ∀ (k0 : Nat) (x3 : List ByteArray) (x4 : Int), k0 < k + 1 → laws_toStringS.l0 k0 l0 x3 x4 = some r → headN σ hv [24] [(3, .own 0 x3.length), (4, .int .i64 x4)] [] [.arr 9 1 (x3.map en_str)] (F (fun e σ' => match e with | .normal => ∃ (y : Nat × (List ByteArray) × Int) (rn : List (Option Nat)), (laws_toStringS.l0 y.1 l0 y.2.1 y.2.2 = some r ∧ y.1 < k + 1) ∧ y.1 < k0 ∧ Fits σ σ' [24] [(3, .own 0 y.2.1.length), (4, .int .i64 y.2.2)] [] [.arr 9 1 (y.2.1.map en_str)] rn | e => Q e σ'))) : Lp F hv Q σ := by
  unfold Lp
  refine ⟨Nat × (List ByteArray) × Int, fun x => laws_toStringS.l0 x.1 l0 x.2.1 x.2.2 = some r ∧ x.1 < k + 1, fun x => x.1, [24], fun x => [(3, .own 0 x.2.1.length), (4, .int .i64 x.2.2)], fun x => [], fun x => [.arr 9 1 (x.2.1.map en_str)], ⟨(k, x3, x4), rn, ⟨H, Nat.lt_succ_self _⟩, h1⟩, ?_⟩
  rintro ⟨k, x3, x4⟩ ⟨H, hk⟩
  exact h2 k x3 x4 hk H
theorem laws_toStringS.ac {k : Nat} {l0 : List ByteArray} {r : List ByteArray} (H : laws_toStringS.f k l0 = some r) : ACalls Try.prog G 100 [] [(sv_str l0)] [] ((sv_str r)) := by
  refine acalls_of tok hP Try.func100 rfl (by kernel_rfl) [.tmp 2] rfl (by kernel_rfl) (Nat.le_of_ble_eq_true rfl) (.l .n (.l .n (.l (.l .n (.l (.c .n .n) .n)) .n))) rfl ?_
  unfold laws_toStringS.f at H
  conv => whnf
  refine Nd.mk (Int.natCast_nonneg _) ?_
  conv => whnf
  refine Nd.mk (Int.le_refl _) ?_
  conv => whnf
  refine nd_ H (fun c H => ?_)
  conv => whnf
  refine laws_toStringS.l0_lp (l0 := l0) (k := k) H [some 24] (fits_of ⟨mt_own lm_, ⟨.inl ⟨rfl, rfl⟩, trivial⟩⟩ ⟨fm_, trivial⟩ fi_ trivial rfl) ?_
  intro k x3 x4 hk H; rcases k with _ | k; exact none_elim H; rw [laws_toStringS.l0] at H; conv => whnf
  refine cut_ 81 [(0, (sv_str l0)), (3, .own 48 x3.length), (4, .int .i64 x4), (11, .bool (decide (x4 < (l0.length : Int))))] [(48, .arr 9 1 (x3.map en_str))] rfl ⟨.inl rfl, ⟨.inl rfl, ⟨.inl rfl, ⟨.inl rfl, trivial⟩⟩⟩⟩ ⟨rfl, trivial⟩ ?_
  conv => whnf
  refine br_d H (fun c H => ?_) (fun c H => ?_)
  conv => whnf
  refine nd_ H (fun c H => ?_)
  conv => whnf
  refine Nd.mk nf_ ?_
  conv => whnf
  refine El.mk (rdm_en_str _ _ nf_ nf_) ?_
  conv => whnf
  refine Nd.mk nf_ ?_
  conv => whnf
  refine nd_ H (fun c H => ?_)
  conv => whnf
  refine El.mk (rdm_en_str _ _ nf_ nf_) ?_
  conv => whnf
  exact ⟨(k, (x3.set (x4).toNat (rdOf ByteArray.empty l0 x4)), wrap64 (x4 + 1)), [some 48], ⟨H, lt_⟩, lt_, (fits_of ⟨mt_own lm_, ⟨.inl ⟨rfl, rfl⟩, trivial⟩⟩ ⟨fm_, trivial⟩ fi_ trivial rfl)⟩
  conv => whnf
  injection H with H; subst H
  exact ret_fz [48] (rtA_fz' rfl rfl)
theorem laws_toStringS.l0_lpO {F : (Exit → St → Prop) → St → Prop} {hv : List Tmp} {Q : Exit → St → Prop} {σ : St} {r : List ByteArray} {k : Nat} {l0 : List ByteArray} {x3 : List ByteArray} {x4 : Int} (H : laws_toStringS.l0 k l0 x3 x4 = some r) (rn : List (Option Nat)) (h1 : Fits σ σ [24] [(3, .own 0 x3.length), (4, .int .i64 x4)] [] [.arr 9 1 (x3.map en_str)] rn)
    (h2 : ∀ (k0 : Nat) (x3 : List ByteArray) (x4 : Int), k0 < k + 1 → laws_toStringS.l0 k0 l0 x3 x4 = some r → headN σ hv [24] [(3, .own 0 x3.length), (4, .int .i64 x4)] [] [.arr 9 1 (x3.map en_str)] (F (fun e σ' => match e with | .normal => ∃ (y : Nat × (List ByteArray) × Int) (rn : List (Option Nat)), (laws_toStringS.l0 y.1 l0 y.2.1 y.2.2 = some r ∧ y.1 < k + 1) ∧ y.1 < k0 ∧ Fits σ σ' [24] [(3, .own 0 y.2.1.length), (4, .int .i64 y.2.2)] [] [.arr 9 1 (y.2.1.map en_str)] rn | e => Q e σ'))) : Lp F hv Q σ := by
  unfold Lp
  refine ⟨Nat × (List ByteArray) × Int, fun x => laws_toStringS.l0 x.1 l0 x.2.1 x.2.2 = some r ∧ x.1 < k + 1, fun x => x.1, [24], fun x => [(3, .own 0 x.2.1.length), (4, .int .i64 x.2.2)], fun x => [], fun x => [.arr 9 1 (x.2.1.map en_str)], ⟨(k, x3, x4), rn, ⟨H, Nat.lt_succ_self _⟩, h1⟩, ?_⟩
  rintro ⟨k, x3, x4⟩ ⟨H, hk⟩
  exact h2 k x3 x4 hk H
theorem laws_toStringS.acO {k : Nat} {l0 : List ByteArray} {r : List ByteArray} (H : laws_toStringS.f k l0 = some r) : ACalls Try.prog G 100 [] [(sv_str l0)] [.arr 9 1 (r.map en_str)] (.own 0 r.length) := by
  refine acalls_of tok hP Try.func100 rfl (by kernel_rfl) [.tmp 2] rfl (by kernel_rfl) (Nat.le_of_ble_eq_true rfl) (.l .n (.l .n (.l (.l .n (.l (.c .n .n) .n)) .n))) rfl ?_
  unfold laws_toStringS.f at H
  conv => whnf
  refine Nd.mk (Int.natCast_nonneg _) ?_
  conv => whnf
  refine Nd.mk (Int.le_refl _) ?_
  conv => whnf
  refine nd_ H (fun c H => ?_)
  conv => whnf
  refine laws_toStringS.l0_lpO (l0 := l0) (k := k) H [some 24] (fits_of ⟨mt_own lm_, ⟨.inl ⟨rfl, rfl⟩, trivial⟩⟩ ⟨fm_, trivial⟩ fi_ trivial rfl) ?_
  intro k x3 x4 hk H; rcases k with _ | k; exact none_elim H; rw [laws_toStringS.l0] at H; conv => whnf
  refine cut_ 81 [(0, (sv_str l0)), (3, .own 48 x3.length), (4, .int .i64 x4), (11, .bool (decide (x4 < (l0.length : Int))))] [(48, .arr 9 1 (x3.map en_str))] rfl ⟨.inl rfl, ⟨.inl rfl, ⟨.inl rfl, ⟨.inl rfl, trivial⟩⟩⟩⟩ ⟨rfl, trivial⟩ ?_
  conv => whnf
  refine br_d H (fun c H => ?_) (fun c H => ?_)
  conv => whnf
  refine nd_ H (fun c H => ?_)
  conv => whnf
  refine Nd.mk nf_ ?_
  conv => whnf
  refine El.mk (rdm_en_str _ _ nf_ nf_) ?_
  conv => whnf
  refine Nd.mk nf_ ?_
  conv => whnf
  refine nd_ H (fun c H => ?_)
  conv => whnf
  refine El.mk (rdm_en_str _ _ nf_ nf_) ?_
  conv => whnf
  exact ⟨(k, (x3.set (x4).toNat (rdOf ByteArray.empty l0 x4)), wrap64 (x4 + 1)), [some 48], ⟨H, lt_⟩, lt_, (fits_of ⟨mt_own lm_, ⟨.inl ⟨rfl, rfl⟩, trivial⟩⟩ ⟨fm_, trivial⟩ fi_ trivial rfl)⟩
  conv => whnf
  injection H with H; subst H
  exact ret_gen [some 48] [] ((rfl)) ⟨rfl, trivial⟩ rfl
theorem laws_toPlantFoe.ac {a0_0 : ByteArray} {a0_1 : ByteArray} {r : ByteArray × ByteArray} (H : laws_toPlantFoe.f a0_0 a0_1 = some r) : ACalls Try.prog G 190 [] [.agg [.str a0_0, .str a0_1]] [] (.agg [.str r.1, .str r.2]) := by
  refine acalls_of tok hP Try.func190 rfl (by kernel_rfl) [.cell 2 170] rfl (by kernel_rfl) (Nat.le_of_ble_eq_true rfl) (.l .n (.l .n (.l .n (.l .n (.c .n .n))))) rfl ?_
  unfold laws_toPlantFoe.f at H
  conv => whnf
  refine cut_ 104 [(2, .bp 8 0)] [(8, .box [.str a0_0, .str a0_1])] rfl ⟨.inl rfl, trivial⟩ ⟨rfl, trivial⟩ ?_
  conv => whnf
  injection H with H; subst H
  exact ret_fz [] (rtA_agg (rtL_cons (rt_eq rfl) (rtL_cons (rt_eq rfl) (rtL_nil))))
theorem laws_toPlantFoeS.l0_lp {F : (Exit → St → Prop) → St → Prop} {hv : List Tmp} {Q : Exit → St → Prop} {σ : St} {r : List S_impl_PlantFoe} {k : Nat} {l0 : List S_laws_PlantFoe} {x3 : List S_impl_PlantFoe} {x4 : Int} (H : laws_toPlantFoeS.l0 k l0 x3 x4 = some r) (rn : List (Option Nat)) (h1 : Fits σ σ [24] [(3, .own 0 x3.length), (4, .int .i64 x4)] [] [.arr 170 2 (x3.map en_S_impl_PlantFoe)] rn)
    (h2 : ∀ (k0 : Nat) (x3 : List S_impl_PlantFoe) (x4 : Int), k0 < k + 1 → laws_toPlantFoeS.l0 k0 l0 x3 x4 = some r → headN σ hv [24] [(3, .own 0 x3.length), (4, .int .i64 x4)] [] [.arr 170 2 (x3.map en_S_impl_PlantFoe)] (F (fun e σ' => match e with | .normal => ∃ (y : Nat × (List S_impl_PlantFoe) × Int) (rn : List (Option Nat)), (laws_toPlantFoeS.l0 y.1 l0 y.2.1 y.2.2 = some r ∧ y.1 < k + 1) ∧ y.1 < k0 ∧ Fits σ σ' [24] [(3, .own 0 y.2.1.length), (4, .int .i64 y.2.2)] [] [.arr 170 2 (y.2.1.map en_S_impl_PlantFoe)] rn | e => Q e σ'))) : Lp F hv Q σ := by
  unfold Lp
  refine ⟨Nat × (List S_impl_PlantFoe) × Int, fun x => laws_toPlantFoeS.l0 x.1 l0 x.2.1 x.2.2 = some r ∧ x.1 < k + 1, fun x => x.1, [24], fun x => [(3, .own 0 x.2.1.length), (4, .int .i64 x.2.2)], fun x => [], fun x => [.arr 170 2 (x.2.1.map en_S_impl_PlantFoe)], ⟨(k, x3, x4), rn, ⟨H, Nat.lt_succ_self _⟩, h1⟩, ?_⟩
  rintro ⟨k, x3, x4⟩ ⟨H, hk⟩
  exact h2 k x3 x4 hk H
theorem laws_toPlantFoeS.ac {k : Nat} {l0 : List S_laws_PlantFoe} {r : List S_impl_PlantFoe} (H : laws_toPlantFoeS.f k l0 = some r) : ACalls Try.prog G 120 [] [(sv_S_laws_PlantFoe l0)] [] ((sv_S_impl_PlantFoe r)) := by
  refine acalls_of tok hP Try.func120 rfl (by kernel_rfl) [.tmp 2] rfl (by kernel_rfl) (Nat.le_of_ble_eq_true rfl) (.l .n (.l .n (.l (.l .n (.l (.c .n .n) .n)) .n))) rfl ?_
  unfold laws_toPlantFoeS.f at H
  conv => whnf
  refine Nd.mk (Int.natCast_nonneg _) ?_
  conv => whnf
  refine Nd.mk (Int.le_refl _) ?_
  conv => whnf
  refine nd_ H (fun c H => ?_)
  conv => whnf
  refine laws_toPlantFoeS.l0_lp (l0 := l0) (k := k) H [some 24] (fits_of ⟨mt_own lm_, ⟨.inl ⟨rfl, rfl⟩, trivial⟩⟩ ⟨fm_, trivial⟩ fi_ trivial rfl) ?_
  intro k x3 x4 hk H; rcases k with _ | k; exact none_elim H; rw [laws_toPlantFoeS.l0] at H; conv => whnf
  refine cut_ 81 [(0, (sv_S_laws_PlantFoe l0)), (3, .own 48 x3.length), (4, .int .i64 x4), (11, .bool (decide (x4 < (l0.length : Int))))] [(48, .arr 170 2 (x3.map en_S_impl_PlantFoe))] rfl ⟨.inl rfl, ⟨.inl rfl, ⟨.inl rfl, ⟨.inl rfl, trivial⟩⟩⟩⟩ ⟨rfl, trivial⟩ ?_
  conv => whnf
  refine br_d H (fun c H => ?_) (fun c H => ?_)
  conv => whnf
  refine nd_ H (fun c H => ?_)
  conv => whnf
  refine Nd.mk nf_ ?_
  conv => whnf
  refine El.mk (rdm_en_S_laws_PlantFoe _ _ nf_ nf_) ?_
  conv => whnf
  revert H; refine bind_elim (fun t61 A H => ?_)
  refine call_mk (laws_toPlantFoe.ac A) (avAL_cons (avA_agg (avL_cons (av_shut' rfl) (avL_cons (av_shut' rfl) (avL_nil)))) (avAL_nil)) (Or.inl rfl) rfl rfl (Nat.le_of_ble_eq_true rfl) ?_
  conv => whnf
  refine Nd.mk nf_ ?_
  conv => whnf
  refine nd_ H (fun c H => ?_)
  conv => whnf
  refine El.mk (rdm_en_S_impl_PlantFoe _ _ nf_ nf_) ?_
  conv => whnf
  exact ⟨(k, (x3.set (x4).toNat (⟨t61.1, t61.2⟩ : S_impl_PlantFoe)), wrap64 (x4 + 1)), [some 48], ⟨H, lt_⟩, lt_, (fits_of ⟨mt_own lm_, ⟨.inl ⟨rfl, rfl⟩, trivial⟩⟩ ⟨fm_, trivial⟩ fi_ trivial rfl)⟩
  conv => whnf
  injection H with H; subst H
  exact ret_fz [48] (rtA_fz' rfl rfl)
theorem laws_toPlantFoeS.l0_lpO {F : (Exit → St → Prop) → St → Prop} {hv : List Tmp} {Q : Exit → St → Prop} {σ : St} {r : List S_impl_PlantFoe} {k : Nat} {l0 : List S_laws_PlantFoe} {x3 : List S_impl_PlantFoe} {x4 : Int} (H : laws_toPlantFoeS.l0 k l0 x3 x4 = some r) (rn : List (Option Nat)) (h1 : Fits σ σ [24] [(3, .own 0 x3.length), (4, .int .i64 x4)] [] [.arr 170 2 (x3.map en_S_impl_PlantFoe)] rn)
    (h2 : ∀ (k0 : Nat) (x3 : List S_impl_PlantFoe) (x4 : Int), k0 < k + 1 → laws_toPlantFoeS.l0 k0 l0 x3 x4 = some r → headN σ hv [24] [(3, .own 0 x3.length), (4, .int .i64 x4)] [] [.arr 170 2 (x3.map en_S_impl_PlantFoe)] (F (fun e σ' => match e with | .normal => ∃ (y : Nat × (List S_impl_PlantFoe) × Int) (rn : List (Option Nat)), (laws_toPlantFoeS.l0 y.1 l0 y.2.1 y.2.2 = some r ∧ y.1 < k + 1) ∧ y.1 < k0 ∧ Fits σ σ' [24] [(3, .own 0 y.2.1.length), (4, .int .i64 y.2.2)] [] [.arr 170 2 (y.2.1.map en_S_impl_PlantFoe)] rn | e => Q e σ'))) : Lp F hv Q σ := by
  unfold Lp
  refine ⟨Nat × (List S_impl_PlantFoe) × Int, fun x => laws_toPlantFoeS.l0 x.1 l0 x.2.1 x.2.2 = some r ∧ x.1 < k + 1, fun x => x.1, [24], fun x => [(3, .own 0 x.2.1.length), (4, .int .i64 x.2.2)], fun x => [], fun x => [.arr 170 2 (x.2.1.map en_S_impl_PlantFoe)], ⟨(k, x3, x4), rn, ⟨H, Nat.lt_succ_self _⟩, h1⟩, ?_⟩
  rintro ⟨k, x3, x4⟩ ⟨H, hk⟩
  exact h2 k x3 x4 hk H
theorem laws_toPlantFoeS.acO {k : Nat} {l0 : List S_laws_PlantFoe} {r : List S_impl_PlantFoe} (H : laws_toPlantFoeS.f k l0 = some r) : ACalls Try.prog G 120 [] [(sv_S_laws_PlantFoe l0)] [.arr 170 2 (r.map en_S_impl_PlantFoe)] (.own 0 r.length) := by
  refine acalls_of tok hP Try.func120 rfl (by kernel_rfl) [.tmp 2] rfl (by kernel_rfl) (Nat.le_of_ble_eq_true rfl) (.l .n (.l .n (.l (.l .n (.l (.c .n .n) .n)) .n))) rfl ?_
  unfold laws_toPlantFoeS.f at H
  conv => whnf
  refine Nd.mk (Int.natCast_nonneg _) ?_
  conv => whnf
  refine Nd.mk (Int.le_refl _) ?_
  conv => whnf
  refine nd_ H (fun c H => ?_)
  conv => whnf
  refine laws_toPlantFoeS.l0_lpO (l0 := l0) (k := k) H [some 24] (fits_of ⟨mt_own lm_, ⟨.inl ⟨rfl, rfl⟩, trivial⟩⟩ ⟨fm_, trivial⟩ fi_ trivial rfl) ?_
  intro k x3 x4 hk H; rcases k with _ | k; exact none_elim H; rw [laws_toPlantFoeS.l0] at H; conv => whnf
  refine cut_ 81 [(0, (sv_S_laws_PlantFoe l0)), (3, .own 48 x3.length), (4, .int .i64 x4), (11, .bool (decide (x4 < (l0.length : Int))))] [(48, .arr 170 2 (x3.map en_S_impl_PlantFoe))] rfl ⟨.inl rfl, ⟨.inl rfl, ⟨.inl rfl, ⟨.inl rfl, trivial⟩⟩⟩⟩ ⟨rfl, trivial⟩ ?_
  conv => whnf
  refine br_d H (fun c H => ?_) (fun c H => ?_)
  conv => whnf
  refine nd_ H (fun c H => ?_)
  conv => whnf
  refine Nd.mk nf_ ?_
  conv => whnf
  refine El.mk (rdm_en_S_laws_PlantFoe _ _ nf_ nf_) ?_
  conv => whnf
  revert H; refine bind_elim (fun t1281 A H => ?_)
  refine call_mk (laws_toPlantFoe.ac A) (avAL_cons (avA_agg (avL_cons (av_shut' rfl) (avL_cons (av_shut' rfl) (avL_nil)))) (avAL_nil)) (Or.inl rfl) rfl rfl (Nat.le_of_ble_eq_true rfl) ?_
  conv => whnf
  refine Nd.mk nf_ ?_
  conv => whnf
  refine nd_ H (fun c H => ?_)
  conv => whnf
  refine El.mk (rdm_en_S_impl_PlantFoe _ _ nf_ nf_) ?_
  conv => whnf
  exact ⟨(k, (x3.set (x4).toNat (⟨t1281.1, t1281.2⟩ : S_impl_PlantFoe)), wrap64 (x4 + 1)), [some 48], ⟨H, lt_⟩, lt_, (fits_of ⟨mt_own lm_, ⟨.inl ⟨rfl, rfl⟩, trivial⟩⟩ ⟨fm_, trivial⟩ fi_ trivial rfl)⟩
  conv => whnf
  injection H with H; subst H
  exact ret_gen [some 48] [] ((rfl)) ⟨rfl, trivial⟩ rfl
theorem laws_toPlantPlace.ac {a0_0 : ByteArray} {a0_1 : Int} {a0_2 : ByteArray} {r : ByteArray × Int × ByteArray} (H : laws_toPlantPlace.f a0_0 a0_1 a0_2 = some r) : ACalls Try.prog G 191 [] [.agg [.str a0_0, .int .i64 a0_1, .str a0_2]] [] (.agg [.str r.1, .int .i64 r.2.1, .str r.2.2]) := by
  refine acalls_of tok hP Try.func191 rfl (by kernel_rfl) [.cell 2 173] rfl (by kernel_rfl) (Nat.le_of_ble_eq_true rfl) (.l .n (.l .n (.l .n (.l .n (.c .n .n))))) rfl ?_
  unfold laws_toPlantPlace.f at H
  conv => whnf
  refine cut_ 120 [(2, .bp 8 0), (3, .bp 16 0)] [(8, .box [.str (⟨#[]⟩ : ByteArray), .int .i64 0, .str (⟨#[]⟩ : ByteArray)]), (16, .box [.str a0_0, .int .i64 a0_1, .str a0_2])] rfl ⟨.inl rfl, ⟨.inl rfl, trivial⟩⟩ ⟨rfl, ⟨rfl, trivial⟩⟩ ?_
  conv => whnf
  injection H with H; subst H
  exact ret_fz [] (rtA_agg (rtL_cons (rt_eq rfl) (rtL_cons (rt_eq rfl) (rtL_cons (rt_eq rfl) (rtL_nil)))))
theorem laws_toPlantPlaceS.l0_lp {F : (Exit → St → Prop) → St → Prop} {hv : List Tmp} {Q : Exit → St → Prop} {σ : St} {r : List S_impl_PlantPlace} {k : Nat} {l0 : List S_laws_PlantPlace} {x3 : List S_impl_PlantPlace} {x4 : Int} (H : laws_toPlantPlaceS.l0 k l0 x3 x4 = some r) (rn : List (Option Nat)) (h1 : Fits σ σ [24] [(3, .own 0 x3.length), (4, .int .i64 x4)] [] [.arr 173 3 (x3.map en_S_impl_PlantPlace)] rn)
    (h2 : ∀ (k0 : Nat) (x3 : List S_impl_PlantPlace) (x4 : Int), k0 < k + 1 → laws_toPlantPlaceS.l0 k0 l0 x3 x4 = some r → headN σ hv [24] [(3, .own 0 x3.length), (4, .int .i64 x4)] [] [.arr 173 3 (x3.map en_S_impl_PlantPlace)] (F (fun e σ' => match e with | .normal => ∃ (y : Nat × (List S_impl_PlantPlace) × Int) (rn : List (Option Nat)), (laws_toPlantPlaceS.l0 y.1 l0 y.2.1 y.2.2 = some r ∧ y.1 < k + 1) ∧ y.1 < k0 ∧ Fits σ σ' [24] [(3, .own 0 y.2.1.length), (4, .int .i64 y.2.2)] [] [.arr 173 3 (y.2.1.map en_S_impl_PlantPlace)] rn | e => Q e σ'))) : Lp F hv Q σ := by
  unfold Lp
  refine ⟨Nat × (List S_impl_PlantPlace) × Int, fun x => laws_toPlantPlaceS.l0 x.1 l0 x.2.1 x.2.2 = some r ∧ x.1 < k + 1, fun x => x.1, [24], fun x => [(3, .own 0 x.2.1.length), (4, .int .i64 x.2.2)], fun x => [], fun x => [.arr 173 3 (x.2.1.map en_S_impl_PlantPlace)], ⟨(k, x3, x4), rn, ⟨H, Nat.lt_succ_self _⟩, h1⟩, ?_⟩
  rintro ⟨k, x3, x4⟩ ⟨H, hk⟩
  exact h2 k x3 x4 hk H
theorem laws_toPlantPlaceS.ac {k : Nat} {l0 : List S_laws_PlantPlace} {r : List S_impl_PlantPlace} (H : laws_toPlantPlaceS.f k l0 = some r) : ACalls Try.prog G 121 [] [(sv_S_laws_PlantPlace l0)] [] ((sv_S_impl_PlantPlace r)) := by
  refine acalls_of tok hP Try.func121 rfl (by kernel_rfl) [.tmp 2] rfl (by kernel_rfl) (Nat.le_of_ble_eq_true rfl) (.l .n (.l .n (.l (.l .n (.l (.c .n .n) .n)) .n))) rfl ?_
  unfold laws_toPlantPlaceS.f at H
  conv => whnf
  refine Nd.mk (Int.natCast_nonneg _) ?_
  conv => whnf
  refine Nd.mk (Int.le_refl _) ?_
  conv => whnf
  refine nd_ H (fun c H => ?_)
  conv => whnf
  refine laws_toPlantPlaceS.l0_lp (l0 := l0) (k := k) H [some 24] (fits_of ⟨mt_own lm_, ⟨.inl ⟨rfl, rfl⟩, trivial⟩⟩ ⟨fm_, trivial⟩ fi_ trivial rfl) ?_
  intro k x3 x4 hk H; rcases k with _ | k; exact none_elim H; rw [laws_toPlantPlaceS.l0] at H; conv => whnf
  refine cut_ 81 [(0, (sv_S_laws_PlantPlace l0)), (3, .own 48 x3.length), (4, .int .i64 x4), (11, .bool (decide (x4 < (l0.length : Int))))] [(48, .arr 173 3 (x3.map en_S_impl_PlantPlace))] rfl ⟨.inl rfl, ⟨.inl rfl, ⟨.inl rfl, ⟨.inl rfl, trivial⟩⟩⟩⟩ ⟨rfl, trivial⟩ ?_
  conv => whnf
  refine br_d H (fun c H => ?_) (fun c H => ?_)
  conv => whnf
  refine nd_ H (fun c H => ?_)
  conv => whnf
  refine Nd.mk nf_ ?_
  conv => whnf
  refine El.mk (rdm_en_S_laws_PlantPlace _ _ nf_ nf_) ?_
  conv => whnf
  revert H; refine bind_elim (fun t78 A H => ?_)
  refine call_mk (laws_toPlantPlace.ac A) (avAL_cons (avA_agg (avL_cons (av_shut' rfl) (avL_cons (av_shut' rfl) (avL_cons (av_shut' rfl) (avL_nil))))) (avAL_nil)) (Or.inl rfl) rfl rfl (Nat.le_of_ble_eq_true rfl) ?_
  conv => whnf
  refine Nd.mk nf_ ?_
  conv => whnf
  refine nd_ H (fun c H => ?_)
  conv => whnf
  refine El.mk (rdm_en_S_impl_PlantPlace _ _ nf_ nf_) ?_
  conv => whnf
  exact ⟨(k, (x3.set (x4).toNat (⟨t78.1, t78.2.1, t78.2.2⟩ : S_impl_PlantPlace)), wrap64 (x4 + 1)), [some 48], ⟨H, lt_⟩, lt_, (fits_of ⟨mt_own lm_, ⟨.inl ⟨rfl, rfl⟩, trivial⟩⟩ ⟨fm_, trivial⟩ fi_ trivial rfl)⟩
  conv => whnf
  injection H with H; subst H
  exact ret_fz [48] (rtA_fz' rfl rfl)
theorem laws_toPlantPlaceS.l0_lpO {F : (Exit → St → Prop) → St → Prop} {hv : List Tmp} {Q : Exit → St → Prop} {σ : St} {r : List S_impl_PlantPlace} {k : Nat} {l0 : List S_laws_PlantPlace} {x3 : List S_impl_PlantPlace} {x4 : Int} (H : laws_toPlantPlaceS.l0 k l0 x3 x4 = some r) (rn : List (Option Nat)) (h1 : Fits σ σ [24] [(3, .own 0 x3.length), (4, .int .i64 x4)] [] [.arr 173 3 (x3.map en_S_impl_PlantPlace)] rn)
    (h2 : ∀ (k0 : Nat) (x3 : List S_impl_PlantPlace) (x4 : Int), k0 < k + 1 → laws_toPlantPlaceS.l0 k0 l0 x3 x4 = some r → headN σ hv [24] [(3, .own 0 x3.length), (4, .int .i64 x4)] [] [.arr 173 3 (x3.map en_S_impl_PlantPlace)] (F (fun e σ' => match e with | .normal => ∃ (y : Nat × (List S_impl_PlantPlace) × Int) (rn : List (Option Nat)), (laws_toPlantPlaceS.l0 y.1 l0 y.2.1 y.2.2 = some r ∧ y.1 < k + 1) ∧ y.1 < k0 ∧ Fits σ σ' [24] [(3, .own 0 y.2.1.length), (4, .int .i64 y.2.2)] [] [.arr 173 3 (y.2.1.map en_S_impl_PlantPlace)] rn | e => Q e σ'))) : Lp F hv Q σ := by
  unfold Lp
  refine ⟨Nat × (List S_impl_PlantPlace) × Int, fun x => laws_toPlantPlaceS.l0 x.1 l0 x.2.1 x.2.2 = some r ∧ x.1 < k + 1, fun x => x.1, [24], fun x => [(3, .own 0 x.2.1.length), (4, .int .i64 x.2.2)], fun x => [], fun x => [.arr 173 3 (x.2.1.map en_S_impl_PlantPlace)], ⟨(k, x3, x4), rn, ⟨H, Nat.lt_succ_self _⟩, h1⟩, ?_⟩
  rintro ⟨k, x3, x4⟩ ⟨H, hk⟩
  exact h2 k x3 x4 hk H
theorem laws_toPlantPlaceS.acO {k : Nat} {l0 : List S_laws_PlantPlace} {r : List S_impl_PlantPlace} (H : laws_toPlantPlaceS.f k l0 = some r) : ACalls Try.prog G 121 [] [(sv_S_laws_PlantPlace l0)] [.arr 173 3 (r.map en_S_impl_PlantPlace)] (.own 0 r.length) := by
  refine acalls_of tok hP Try.func121 rfl (by kernel_rfl) [.tmp 2] rfl (by kernel_rfl) (Nat.le_of_ble_eq_true rfl) (.l .n (.l .n (.l (.l .n (.l (.c .n .n) .n)) .n))) rfl ?_
  unfold laws_toPlantPlaceS.f at H
  conv => whnf
  refine Nd.mk (Int.natCast_nonneg _) ?_
  conv => whnf
  refine Nd.mk (Int.le_refl _) ?_
  conv => whnf
  refine nd_ H (fun c H => ?_)
  conv => whnf
  refine laws_toPlantPlaceS.l0_lpO (l0 := l0) (k := k) H [some 24] (fits_of ⟨mt_own lm_, ⟨.inl ⟨rfl, rfl⟩, trivial⟩⟩ ⟨fm_, trivial⟩ fi_ trivial rfl) ?_
  intro k x3 x4 hk H; rcases k with _ | k; exact none_elim H; rw [laws_toPlantPlaceS.l0] at H; conv => whnf
  refine cut_ 81 [(0, (sv_S_laws_PlantPlace l0)), (3, .own 48 x3.length), (4, .int .i64 x4), (11, .bool (decide (x4 < (l0.length : Int))))] [(48, .arr 173 3 (x3.map en_S_impl_PlantPlace))] rfl ⟨.inl rfl, ⟨.inl rfl, ⟨.inl rfl, ⟨.inl rfl, trivial⟩⟩⟩⟩ ⟨rfl, trivial⟩ ?_
  conv => whnf
  refine br_d H (fun c H => ?_) (fun c H => ?_)
  conv => whnf
  refine nd_ H (fun c H => ?_)
  conv => whnf
  refine Nd.mk nf_ ?_
  conv => whnf
  refine El.mk (rdm_en_S_laws_PlantPlace _ _ nf_ nf_) ?_
  conv => whnf
  revert H; refine bind_elim (fun t1318 A H => ?_)
  refine call_mk (laws_toPlantPlace.ac A) (avAL_cons (avA_agg (avL_cons (av_shut' rfl) (avL_cons (av_shut' rfl) (avL_cons (av_shut' rfl) (avL_nil))))) (avAL_nil)) (Or.inl rfl) rfl rfl (Nat.le_of_ble_eq_true rfl) ?_
  conv => whnf
  refine Nd.mk nf_ ?_
  conv => whnf
  refine nd_ H (fun c H => ?_)
  conv => whnf
  refine El.mk (rdm_en_S_impl_PlantPlace _ _ nf_ nf_) ?_
  conv => whnf
  exact ⟨(k, (x3.set (x4).toNat (⟨t1318.1, t1318.2.1, t1318.2.2⟩ : S_impl_PlantPlace)), wrap64 (x4 + 1)), [some 48], ⟨H, lt_⟩, lt_, (fits_of ⟨mt_own lm_, ⟨.inl ⟨rfl, rfl⟩, trivial⟩⟩ ⟨fm_, trivial⟩ fi_ trivial rfl)⟩
  conv => whnf
  injection H with H; subst H
  exact ret_gen [some 48] [] ((rfl)) ⟨rfl, trivial⟩ rfl
theorem laws_toPlantValve.ac {a0_0 : ByteArray} {a0_1 : ByteArray} {a0_2 : ByteArray} {a0_3 : ByteArray} {r : ByteArray × ByteArray × ByteArray × ByteArray} (H : laws_toPlantValve.f a0_0 a0_1 a0_2 a0_3 = some r) : ACalls Try.prog G 192 [] [.agg [.str a0_0, .str a0_1, .str a0_2, .str a0_3]] [] (.agg [.str r.1, .str r.2.1, .str r.2.2.1, .str r.2.2.2]) := by
  refine acalls_of tok hP Try.func192 rfl (by kernel_rfl) [.cell 2 175] rfl (by kernel_rfl) (Nat.le_of_ble_eq_true rfl) (.l .n (.l .n (.l .n (.l .n (.c .n .n))))) rfl ?_
  unfold laws_toPlantValve.f at H
  conv => whnf
  refine cut_ 120 [(1, .bp 0 0), (2, .bp 8 0), (3, .bp 16 0)] [(0, .box [.str a0_0, .str a0_1, .str a0_2, .str a0_3]), (8, .box [.str (⟨#[]⟩ : ByteArray), .str (⟨#[]⟩ : ByteArray), .str (⟨#[]⟩ : ByteArray), .str (⟨#[]⟩ : ByteArray)]), (16, .box [.str a0_0, .str a0_1, .str a0_2, .str (⟨#[]⟩ : ByteArray)])] rfl ⟨.inl rfl, ⟨.inl rfl, ⟨.inl rfl, trivial⟩⟩⟩ ⟨rfl, ⟨rfl, ⟨rfl, trivial⟩⟩⟩ ?_
  conv => whnf
  injection H with H; subst H
  exact ret_fz [] (rtA_agg (rtL_cons (rt_eq rfl) (rtL_cons (rt_eq rfl) (rtL_cons (rt_eq rfl) (rtL_cons (rt_eq rfl) (rtL_nil))))))
theorem laws_toPlantValveS.l0_lp {F : (Exit → St → Prop) → St → Prop} {hv : List Tmp} {Q : Exit → St → Prop} {σ : St} {r : List S_impl_PlantValve} {k : Nat} {l0 : List S_laws_PlantValve} {x3 : List S_impl_PlantValve} {x4 : Int} (H : laws_toPlantValveS.l0 k l0 x3 x4 = some r) (rn : List (Option Nat)) (h1 : Fits σ σ [24] [(3, .own 0 x3.length), (4, .int .i64 x4)] [] [.arr 175 4 (x3.map en_S_impl_PlantValve)] rn)
    (h2 : ∀ (k0 : Nat) (x3 : List S_impl_PlantValve) (x4 : Int), k0 < k + 1 → laws_toPlantValveS.l0 k0 l0 x3 x4 = some r → headN σ hv [24] [(3, .own 0 x3.length), (4, .int .i64 x4)] [] [.arr 175 4 (x3.map en_S_impl_PlantValve)] (F (fun e σ' => match e with | .normal => ∃ (y : Nat × (List S_impl_PlantValve) × Int) (rn : List (Option Nat)), (laws_toPlantValveS.l0 y.1 l0 y.2.1 y.2.2 = some r ∧ y.1 < k + 1) ∧ y.1 < k0 ∧ Fits σ σ' [24] [(3, .own 0 y.2.1.length), (4, .int .i64 y.2.2)] [] [.arr 175 4 (y.2.1.map en_S_impl_PlantValve)] rn | e => Q e σ'))) : Lp F hv Q σ := by
  unfold Lp
  refine ⟨Nat × (List S_impl_PlantValve) × Int, fun x => laws_toPlantValveS.l0 x.1 l0 x.2.1 x.2.2 = some r ∧ x.1 < k + 1, fun x => x.1, [24], fun x => [(3, .own 0 x.2.1.length), (4, .int .i64 x.2.2)], fun x => [], fun x => [.arr 175 4 (x.2.1.map en_S_impl_PlantValve)], ⟨(k, x3, x4), rn, ⟨H, Nat.lt_succ_self _⟩, h1⟩, ?_⟩
  rintro ⟨k, x3, x4⟩ ⟨H, hk⟩
  exact h2 k x3 x4 hk H
theorem laws_toPlantValveS.ac {k : Nat} {l0 : List S_laws_PlantValve} {r : List S_impl_PlantValve} (H : laws_toPlantValveS.f k l0 = some r) : ACalls Try.prog G 122 [] [(sv_S_laws_PlantValve l0)] [] ((sv_S_impl_PlantValve r)) := by
  refine acalls_of tok hP Try.func122 rfl (by kernel_rfl) [.tmp 2] rfl (by kernel_rfl) (Nat.le_of_ble_eq_true rfl) (.l .n (.l .n (.l (.l .n (.l (.c .n .n) .n)) .n))) rfl ?_
  unfold laws_toPlantValveS.f at H
  conv => whnf
  refine Nd.mk (Int.natCast_nonneg _) ?_
  conv => whnf
  refine Nd.mk (Int.le_refl _) ?_
  conv => whnf
  refine nd_ H (fun c H => ?_)
  conv => whnf
  refine laws_toPlantValveS.l0_lp (l0 := l0) (k := k) H [some 24] (fits_of ⟨mt_own lm_, ⟨.inl ⟨rfl, rfl⟩, trivial⟩⟩ ⟨fm_, trivial⟩ fi_ trivial rfl) ?_
  intro k x3 x4 hk H; rcases k with _ | k; exact none_elim H; rw [laws_toPlantValveS.l0] at H; conv => whnf
  refine cut_ 81 [(0, (sv_S_laws_PlantValve l0)), (3, .own 48 x3.length), (4, .int .i64 x4), (11, .bool (decide (x4 < (l0.length : Int))))] [(48, .arr 175 4 (x3.map en_S_impl_PlantValve))] rfl ⟨.inl rfl, ⟨.inl rfl, ⟨.inl rfl, ⟨.inl rfl, trivial⟩⟩⟩⟩ ⟨rfl, trivial⟩ ?_
  conv => whnf
  refine br_d H (fun c H => ?_) (fun c H => ?_)
  conv => whnf
  refine nd_ H (fun c H => ?_)
  conv => whnf
  refine Nd.mk nf_ ?_
  conv => whnf
  refine El.mk (rdm_en_S_laws_PlantValve _ _ nf_ nf_) ?_
  conv => whnf
  revert H; refine bind_elim (fun t99 A H => ?_)
  refine call_mk (laws_toPlantValve.ac A) (avAL_cons (avA_agg (avL_cons (av_shut' rfl) (avL_cons (av_shut' rfl) (avL_cons (av_shut' rfl) (avL_cons (av_shut' rfl) (avL_nil)))))) (avAL_nil)) (Or.inl rfl) rfl rfl (Nat.le_of_ble_eq_true rfl) ?_
  conv => whnf
  refine Nd.mk nf_ ?_
  conv => whnf
  refine nd_ H (fun c H => ?_)
  conv => whnf
  refine El.mk (rdm_en_S_impl_PlantValve _ _ nf_ nf_) ?_
  conv => whnf
  exact ⟨(k, (x3.set (x4).toNat (⟨t99.1, t99.2.1, t99.2.2.1, t99.2.2.2⟩ : S_impl_PlantValve)), wrap64 (x4 + 1)), [some 48], ⟨H, lt_⟩, lt_, (fits_of ⟨mt_own lm_, ⟨.inl ⟨rfl, rfl⟩, trivial⟩⟩ ⟨fm_, trivial⟩ fi_ trivial rfl)⟩
  conv => whnf
  injection H with H; subst H
  exact ret_fz [48] (rtA_fz' rfl rfl)
theorem laws_toPlantValveS.l0_lpO {F : (Exit → St → Prop) → St → Prop} {hv : List Tmp} {Q : Exit → St → Prop} {σ : St} {r : List S_impl_PlantValve} {k : Nat} {l0 : List S_laws_PlantValve} {x3 : List S_impl_PlantValve} {x4 : Int} (H : laws_toPlantValveS.l0 k l0 x3 x4 = some r) (rn : List (Option Nat)) (h1 : Fits σ σ [24] [(3, .own 0 x3.length), (4, .int .i64 x4)] [] [.arr 175 4 (x3.map en_S_impl_PlantValve)] rn)
    (h2 : ∀ (k0 : Nat) (x3 : List S_impl_PlantValve) (x4 : Int), k0 < k + 1 → laws_toPlantValveS.l0 k0 l0 x3 x4 = some r → headN σ hv [24] [(3, .own 0 x3.length), (4, .int .i64 x4)] [] [.arr 175 4 (x3.map en_S_impl_PlantValve)] (F (fun e σ' => match e with | .normal => ∃ (y : Nat × (List S_impl_PlantValve) × Int) (rn : List (Option Nat)), (laws_toPlantValveS.l0 y.1 l0 y.2.1 y.2.2 = some r ∧ y.1 < k + 1) ∧ y.1 < k0 ∧ Fits σ σ' [24] [(3, .own 0 y.2.1.length), (4, .int .i64 y.2.2)] [] [.arr 175 4 (y.2.1.map en_S_impl_PlantValve)] rn | e => Q e σ'))) : Lp F hv Q σ := by
  unfold Lp
  refine ⟨Nat × (List S_impl_PlantValve) × Int, fun x => laws_toPlantValveS.l0 x.1 l0 x.2.1 x.2.2 = some r ∧ x.1 < k + 1, fun x => x.1, [24], fun x => [(3, .own 0 x.2.1.length), (4, .int .i64 x.2.2)], fun x => [], fun x => [.arr 175 4 (x.2.1.map en_S_impl_PlantValve)], ⟨(k, x3, x4), rn, ⟨H, Nat.lt_succ_self _⟩, h1⟩, ?_⟩
  rintro ⟨k, x3, x4⟩ ⟨H, hk⟩
  exact h2 k x3 x4 hk H
theorem laws_toPlantValveS.acO {k : Nat} {l0 : List S_laws_PlantValve} {r : List S_impl_PlantValve} (H : laws_toPlantValveS.f k l0 = some r) : ACalls Try.prog G 122 [] [(sv_S_laws_PlantValve l0)] [.arr 175 4 (r.map en_S_impl_PlantValve)] (.own 0 r.length) := by
  refine acalls_of tok hP Try.func122 rfl (by kernel_rfl) [.tmp 2] rfl (by kernel_rfl) (Nat.le_of_ble_eq_true rfl) (.l .n (.l .n (.l (.l .n (.l (.c .n .n) .n)) .n))) rfl ?_
  unfold laws_toPlantValveS.f at H
  conv => whnf
  refine Nd.mk (Int.natCast_nonneg _) ?_
  conv => whnf
  refine Nd.mk (Int.le_refl _) ?_
  conv => whnf
  refine nd_ H (fun c H => ?_)
  conv => whnf
  refine laws_toPlantValveS.l0_lpO (l0 := l0) (k := k) H [some 24] (fits_of ⟨mt_own lm_, ⟨.inl ⟨rfl, rfl⟩, trivial⟩⟩ ⟨fm_, trivial⟩ fi_ trivial rfl) ?_
  intro k x3 x4 hk H; rcases k with _ | k; exact none_elim H; rw [laws_toPlantValveS.l0] at H; conv => whnf
  refine cut_ 81 [(0, (sv_S_laws_PlantValve l0)), (3, .own 48 x3.length), (4, .int .i64 x4), (11, .bool (decide (x4 < (l0.length : Int))))] [(48, .arr 175 4 (x3.map en_S_impl_PlantValve))] rfl ⟨.inl rfl, ⟨.inl rfl, ⟨.inl rfl, ⟨.inl rfl, trivial⟩⟩⟩⟩ ⟨rfl, trivial⟩ ?_
  conv => whnf
  refine br_d H (fun c H => ?_) (fun c H => ?_)
  conv => whnf
  refine nd_ H (fun c H => ?_)
  conv => whnf
  refine Nd.mk nf_ ?_
  conv => whnf
  refine El.mk (rdm_en_S_laws_PlantValve _ _ nf_ nf_) ?_
  conv => whnf
  revert H; refine bind_elim (fun t1357 A H => ?_)
  refine call_mk (laws_toPlantValve.ac A) (avAL_cons (avA_agg (avL_cons (av_shut' rfl) (avL_cons (av_shut' rfl) (avL_cons (av_shut' rfl) (avL_cons (av_shut' rfl) (avL_nil)))))) (avAL_nil)) (Or.inl rfl) rfl rfl (Nat.le_of_ble_eq_true rfl) ?_
  conv => whnf
  refine Nd.mk nf_ ?_
  conv => whnf
  refine nd_ H (fun c H => ?_)
  conv => whnf
  refine El.mk (rdm_en_S_impl_PlantValve _ _ nf_ nf_) ?_
  conv => whnf
  exact ⟨(k, (x3.set (x4).toNat (⟨t1357.1, t1357.2.1, t1357.2.2.1, t1357.2.2.2⟩ : S_impl_PlantValve)), wrap64 (x4 + 1)), [some 48], ⟨H, lt_⟩, lt_, (fits_of ⟨mt_own lm_, ⟨.inl ⟨rfl, rfl⟩, trivial⟩⟩ ⟨fm_, trivial⟩ fi_ trivial rfl)⟩
  conv => whnf
  injection H with H; subst H
  exact ret_gen [some 48] [] ((rfl)) ⟨rfl, trivial⟩ rfl
theorem laws_toPlant.ac {k : Nat} {a0_0 : List ByteArray} {a0_1 : List S_laws_PlantFoe} {a0_2 : List S_laws_PlantPlace} {a0_3 : List S_laws_PlantValve} {r : (List ByteArray) × (List S_impl_PlantFoe) × (List S_impl_PlantPlace) × (List S_impl_PlantValve)} (H : laws_toPlant.f k a0_0 a0_1 a0_2 a0_3 = some r) : ACalls Try.prog G 43 [] [.agg [(sv_str a0_0), (sv_S_laws_PlantFoe a0_1), (sv_S_laws_PlantPlace a0_2), (sv_S_laws_PlantValve a0_3)]] [] (.agg [(sv_str r.1), (sv_S_impl_PlantFoe r.2.1), (sv_S_impl_PlantPlace r.2.2.1), (sv_S_impl_PlantValve r.2.2.2)]) := by
  refine acalls_of tok hP Try.func43 rfl (by kernel_rfl) [.cell 2 82] rfl (by kernel_rfl) (Nat.le_of_ble_eq_true rfl) (.l .n (.l .n (.l .n (.c .n .n)))) rfl ?_
  unfold laws_toPlant.f at H
  conv => whnf
  revert H; refine bind_elim (fun t1359 A H => ?_)
  refine call_mk (laws_toStringS.ac A) (avAL_cons (avA_shut' rfl) (avAL_nil)) (Or.inl rfl) rfl rfl (Nat.le_of_ble_eq_true rfl) ?_
  conv => whnf
  revert H; refine bind_elim (fun t1361 A H => ?_)
  refine call_mk (laws_toPlantFoeS.ac A) (avAL_cons (avA_shut' rfl) (avAL_nil)) (Or.inl rfl) rfl rfl (Nat.le_of_ble_eq_true rfl) ?_
  conv => whnf
  refine cut_ 104 [(1, .bp 0 0), (2, .bp 8 0), (3, .bp 16 0)] [(0, .box [(sv_str a0_0), (sv_S_laws_PlantFoe a0_1), (sv_S_laws_PlantPlace a0_2), (sv_S_laws_PlantValve a0_3)]), (8, .box [.nil, .nil, .nil, .nil]), (16, .box [(sv_str t1359), (sv_S_impl_PlantFoe t1361), .nil, .nil])] rfl ⟨.inl rfl, ⟨.inl rfl, ⟨.inl rfl, trivial⟩⟩⟩ ⟨rfl, ⟨rfl, ⟨rfl, trivial⟩⟩⟩ ?_
  conv => whnf
  revert H; refine bind_elim (fun t1363 A H => ?_)
  refine call_mk (laws_toPlantPlaceS.ac A) (avAL_cons (avA_shut' rfl) (avAL_nil)) (Or.inl rfl) rfl rfl (Nat.le_of_ble_eq_true rfl) ?_
  conv => whnf
  revert H; refine bind_elim (fun t1365 A H => ?_)
  refine call_mk (laws_toPlantValveS.ac A) (avAL_cons (avA_shut' rfl) (avAL_nil)) (Or.inl rfl) rfl rfl (Nat.le_of_ble_eq_true rfl) ?_
  conv => whnf
  injection H with H; subst H
  exact ret_fz [] (rtA_agg (rtL_cons (rt_eq rfl) (rtL_cons (rt_eq rfl) (rtL_cons (rt_eq rfl) (rtL_cons (rt_eq rfl) (rtL_nil))))))
theorem laws_toPlant.acO {k : Nat} {a0_0 : List ByteArray} {a0_1 : List S_laws_PlantFoe} {a0_2 : List S_laws_PlantPlace} {a0_3 : List S_laws_PlantValve} {r : (List ByteArray) × (List S_impl_PlantFoe) × (List S_impl_PlantPlace) × (List S_impl_PlantValve)} (H : laws_toPlant.f k a0_0 a0_1 a0_2 a0_3 = some r) : ACalls Try.prog G 43 [] [.agg [(sv_str a0_0), (sv_S_laws_PlantFoe a0_1), (sv_S_laws_PlantPlace a0_2), (sv_S_laws_PlantValve a0_3)]] [.arr 9 1 (r.1.map en_str), .arr 170 2 (r.2.1.map en_S_impl_PlantFoe), .arr 173 3 (r.2.2.1.map en_S_impl_PlantPlace), .arr 175 4 (r.2.2.2.map en_S_impl_PlantValve)] (.agg [.own 0 r.1.length, .own 1 r.2.1.length, .own 2 r.2.2.1.length, .own 3 r.2.2.2.length]) := by
  refine acalls_of tok hP Try.func43 rfl (by kernel_rfl) [.cell 2 82] rfl (by kernel_rfl) (Nat.le_of_ble_eq_true rfl) (.l .n (.l .n (.l .n (.c .n .n)))) rfl ?_
  unfold laws_toPlant.f at H
  conv => whnf
  revert H; refine bind_elim (fun t1367 A H => ?_)
  refine call_mk (laws_toStringS.acO A) (avAL_cons (avA_shut' rfl) (avAL_nil)) (Or.inl rfl) rfl rfl (Nat.le_of_ble_eq_true rfl) ?_
  conv => whnf
  revert H; refine bind_elim (fun t1369 A H => ?_)
  refine call_mk (laws_toPlantFoeS.acO A) (avAL_cons (avA_shut' rfl) (avAL_nil)) (Or.inl rfl) rfl rfl (Nat.le_of_ble_eq_true rfl) ?_
  conv => whnf
  refine cut_ 104 [(1, .bp 0 0), (2, .bp 8 0), (3, .bp 16 0)] [(0, .box [(sv_str a0_0), (sv_S_laws_PlantFoe a0_1), (sv_S_laws_PlantPlace a0_2), (sv_S_laws_PlantValve a0_3)]), (8, .box [.nil, .nil, .nil, .nil]), (16, .box [.own 40 t1367.length, .own 80 t1369.length, .nil, .nil]), (40, .arr 9 1 (t1367.map en_str)), (80, .arr 170 2 (t1369.map en_S_impl_PlantFoe))] rfl ⟨.inl rfl, ⟨.inl rfl, ⟨.inl rfl, trivial⟩⟩⟩ ⟨rfl, ⟨rfl, ⟨rfl, ⟨rfl, ⟨rfl, trivial⟩⟩⟩⟩⟩ ?_
  conv => whnf
  revert H; refine bind_elim (fun t1371 A H => ?_)
  refine call_mk (laws_toPlantPlaceS.acO A) (avAL_cons (avA_shut' rfl) (avAL_nil)) (Or.inl rfl) rfl rfl (Nat.le_of_ble_eq_true rfl) ?_
  conv => whnf
  revert H; refine bind_elim (fun t1373 A H => ?_)
  refine call_mk (laws_toPlantValveS.acO A) (avAL_cons (avA_shut' rfl) (avAL_nil)) (Or.inl rfl) rfl rfl (Nat.le_of_ble_eq_true rfl) ?_
  conv => whnf
  injection H with H; subst H
  exact ret_gen [some 40, some 80, some 120, some 160] [] ((rtA_agg (rtL_cons (rfl) (rtL_cons (rfl) (rtL_cons (rfl) (rtL_cons (rfl) (rtL_nil))))))) ⟨rfl, ⟨rfl, ⟨rfl, ⟨rfl, trivial⟩⟩⟩⟩ rfl
theorem spec_l1In.ac {a0 : Int} {a1 : Int} {a2 : Int} {r : Bool} (H : spec_l1In.f a0 a1 a2 = some r) : ACalls Try.prog G 137 [] [.int .i64 a0, .int .i64 a1, .int .i64 a2] [] (.bool r) := by
  refine acalls_of tok hP Try.func137 rfl (by kernel_rfl) [.tmp 6] rfl (by kernel_rfl) (Nat.le_of_ble_eq_true rfl) (.l .n (.c .n .n)) rfl ?_
  unfold spec_l1In.f at H
  conv => whnf
  refine br_d H (fun c H => ?_) (fun c H => ?_)
  conv => whnf
  refine Br.t ft_ ?_
  conv => whnf
  refine Br.t ft_ ?_
  conv => whnf
  refine Br.t ft_ ?_
  conv => whnf
  refine cut_ 80 [(6, .bool (decide (a0 ≤ a2)))] [] rfl ⟨.inl rfl, trivial⟩ trivial ?_
  conv => whnf
  injection H with H; subst H
  exact ret_fz [] (rtA_eq rfl)
  conv => whnf
  refine Br.f ff_ ?_
  conv => whnf
  refine Br.f ff_ ?_
  conv => whnf
  refine Br.f ff_ ?_
  conv => whnf
  refine cut_ 80 [(6, .bool false)] [] rfl ⟨.inl rfl, trivial⟩ trivial ?_
  conv => whnf
  injection H with H; subst H
  exact ret_fz [] (rtA_eq rfl)
theorem spec_l2NameOk.l0_lp {F : (Exit → St → Prop) → St → Prop} {hv : List Tmp} {Q : Exit → St → Prop} {σ : St} {r : Bool} {k : Nat} {a0 : ByteArray} {x3 : Int} (H : spec_l2NameOk.l0 k a0 x3 = some r) (rn : List (Option Nat)) (h1 : Fits σ σ [] [(3, .int .i64 x3)] [] [] rn)
    (h2 : ∀ (k0 : Nat) (x3 : Int), k0 < k + 1 → spec_l2NameOk.l0 k0 a0 x3 = some r → headN σ hv [] [(3, .int .i64 x3)] [] [] (F (fun e σ' => match e with | .normal => ∃ (y : Nat × Int) (rn : List (Option Nat)), (spec_l2NameOk.l0 y.1 a0 y.2 = some r ∧ y.1 < k + 1) ∧ y.1 < k0 ∧ Fits σ σ' [] [(3, .int .i64 y.2)] [] [] rn | e => Q e σ'))) : Lp F hv Q σ := by
  unfold Lp
  refine ⟨Nat × Int, fun x => spec_l2NameOk.l0 x.1 a0 x.2 = some r ∧ x.1 < k + 1, fun x => x.1, [], fun x => [(3, .int .i64 x.2)], fun x => [], fun x => [], ⟨(k, x3), rn, ⟨H, Nat.lt_succ_self _⟩, h1⟩, ?_⟩
  rintro ⟨k, x3⟩ ⟨H, hk⟩
  exact h2 k x3 hk H
theorem spec_l2NameOk.ac {k : Nat} {a0 : ByteArray} {r : Bool} (H : spec_l2NameOk.f k a0 = some r) : ACalls Try.prog G 213 [] [.str a0] [] (.bool r) := by
  refine acalls_of tok hP Try.func213 rfl (by kernel_rfl) [.tmp 2] rfl (by kernel_rfl) (Nat.le_of_ble_eq_true rfl) (.l .n (.l .n (.l (.l .n (.l (.c .n .n) (.l (.l .n (.c .n .n)) .n))) .n))) rfl ?_
  unfold spec_l2NameOk.f at H
  conv => whnf
  revert H; refine bind_elim (fun t125 A H => ?_)
  refine call_mk (spec_l1In.ac A) (avAL_cons (avA_shut' rfl) (avAL_cons (avA_shut' rfl) (avAL_cons (avA_shut' rfl) (avAL_nil)))) (Or.inl rfl) rfl rfl (Nat.le_of_ble_eq_true rfl) ?_
  conv => whnf
  refine br_nt H (fun c H => ?_) (fun c H => ?_)
  conv => whnf
  refine spec_l2NameOk.l0_lp (a0 := a0) (k := k) H [] (fits_of ⟨.inl ⟨rfl, rfl⟩, trivial⟩ trivial fi_ trivial rfl) ?_
  intro k x3 hk H; rcases k with _ | k; exact none_elim H; rw [spec_l2NameOk.l0] at H; conv => whnf
  refine cut_ 80 [(0, .str a0), (3, .int .i64 x3), (12, .bool (decide (x3 < (a0.size : Int))))] [] rfl ⟨.inl rfl, ⟨.inl rfl, ⟨.inl rfl, trivial⟩⟩⟩ trivial ?_
  conv => whnf
  refine br_d H (fun c H => ?_) (fun c H => ?_)
  conv => whnf
  refine nd_ H (fun c H => ?_)
  conv => whnf
  refine Nd.mk nf_ ?_
  conv => whnf
  refine br_d H (fun c H => ?_) (fun c H => ?_)
  conv => whnf
  refine Br.t ft_ ?_
  conv => whnf
  refine Br.t ft_ ?_
  conv => whnf
  refine br_d H (fun c H => ?_) (fun c H => ?_)
  conv => whnf
  refine Br.t ft_ ?_
  conv => whnf
  refine Br.t ft_ ?_
  conv => whnf
  refine Br.t ft_ ?_
  conv => whnf
  refine Br.t ft_ ?_
  conv => whnf
  refine Br.t rfl ?_
  conv => whnf
  refine Br.t rfl ?_
  conv => whnf
  refine Br.t rfl ?_
  conv => whnf
  refine cut_ 264 [(0, .str a0), (3, .int .i64 x3), (36, .bool (!true))] [] rfl ⟨.inl rfl, ⟨.inl rfl, ⟨.inl rfl, trivial⟩⟩⟩ trivial ?_
  conv => whnf
  refine Br.f rfl ?_
  conv => whnf
  exact ⟨(k, wrap64 (x3 + 1)), [], ⟨H, lt_⟩, lt_, (fits_of ⟨.inl ⟨rfl, rfl⟩, trivial⟩ trivial fi_ trivial rfl)⟩
  conv => whnf
  refine Br.f ff_ ?_
  conv => whnf
  refine Br.f ff_ ?_
  conv => whnf
  refine br_d H (fun c H => ?_) (fun c H => ?_)
  conv => whnf
  refine Br.t ft_ ?_
  conv => whnf
  refine Br.f ff_ ?_
  conv => whnf
  refine Br.t ft_ ?_
  conv => whnf
  refine Br.f ff_ ?_
  conv => whnf
  refine br_d H (fun c H => ?_) (fun c H => ?_)
  conv => whnf
  refine Br.t ft_ ?_
  conv => whnf
  refine Br.t ft_ ?_
  conv => whnf
  refine cut_ 264 [(0, .str a0), (3, .int .i64 x3), (36, .bool (!true))] [] rfl ⟨.inl rfl, ⟨.inl rfl, ⟨.inl rfl, trivial⟩⟩⟩ trivial ?_
  conv => whnf
  refine Br.f rfl ?_
  conv => whnf
  exact ⟨(k, wrap64 (x3 + 1)), [], ⟨H, lt_⟩, lt_, (fits_of ⟨.inl ⟨rfl, rfl⟩, trivial⟩ trivial fi_ trivial rfl)⟩
  conv => whnf
  refine Br.f ff_ ?_
  conv => whnf
  refine Br.f ff_ ?_
  conv => whnf
  refine cut_ 264 [(0, .str a0), (3, .int .i64 x3), (36, .bool (!(decide ((bt a0 x3) = 45))))] [] rfl ⟨.inl rfl, ⟨.inl rfl, ⟨.inl rfl, trivial⟩⟩⟩ trivial ?_
  conv => whnf
  refine br_nd H (fun c H => ?_) (fun c H => ?_)
  conv => whnf
  exact ⟨(k, wrap64 (x3 + 1)), [], ⟨H, lt_⟩, lt_, (fits_of ⟨.inl ⟨rfl, rfl⟩, trivial⟩ trivial fi_ trivial rfl)⟩
  conv => whnf
  injection H with H; subst H
  exact ret_fz [] (rtA_eq rfl)
  conv => whnf
  refine Br.f ff_ ?_
  conv => whnf
  refine Br.f ff_ ?_
  conv => whnf
  refine Br.f ff_ ?_
  conv => whnf
  refine Br.f ff_ ?_
  conv => whnf
  refine Br.f rfl ?_
  conv => whnf
  refine Br.f rfl ?_
  conv => whnf
  refine Br.f rfl ?_
  conv => whnf
  refine cut_ 264 [(0, .str a0), (3, .int .i64 x3), (36, .bool (!(decide ((bt a0 x3) = 45))))] [] rfl ⟨.inl rfl, ⟨.inl rfl, ⟨.inl rfl, trivial⟩⟩⟩ trivial ?_
  conv => whnf
  refine br_nd H (fun c H => ?_) (fun c H => ?_)
  conv => whnf
  exact ⟨(k, wrap64 (x3 + 1)), [], ⟨H, lt_⟩, lt_, (fits_of ⟨.inl ⟨rfl, rfl⟩, trivial⟩ trivial fi_ trivial rfl)⟩
  conv => whnf
  injection H with H; subst H
  exact ret_fz [] (rtA_eq rfl)
  conv => whnf
  refine Br.f ff_ ?_
  conv => whnf
  refine Br.f ff_ ?_
  conv => whnf
  refine Br.f rfl ?_
  conv => whnf
  refine Br.f rfl ?_
  conv => whnf
  refine Br.f rfl ?_
  conv => whnf
  refine br_d H (fun c H => ?_) (fun c H => ?_)
  conv => whnf
  refine Br.t ft_ ?_
  conv => whnf
  refine Br.f rfl ?_
  conv => whnf
  refine Br.t ft_ ?_
  conv => whnf
  refine Br.f rfl ?_
  conv => whnf
  refine br_d H (fun c H => ?_) (fun c H => ?_)
  conv => whnf
  refine Br.t ft_ ?_
  conv => whnf
  refine Br.t ft_ ?_
  conv => whnf
  refine cut_ 264 [(0, .str a0), (3, .int .i64 x3), (36, .bool (!true))] [] rfl ⟨.inl rfl, ⟨.inl rfl, ⟨.inl rfl, trivial⟩⟩⟩ trivial ?_
  conv => whnf
  refine Br.f rfl ?_
  conv => whnf
  exact ⟨(k, wrap64 (x3 + 1)), [], ⟨H, lt_⟩, lt_, (fits_of ⟨.inl ⟨rfl, rfl⟩, trivial⟩ trivial fi_ trivial rfl)⟩
  conv => whnf
  refine Br.f ff_ ?_
  conv => whnf
  refine Br.f ff_ ?_
  conv => whnf
  refine cut_ 264 [(0, .str a0), (3, .int .i64 x3), (36, .bool (!(decide ((bt a0 x3) = 45))))] [] rfl ⟨.inl rfl, ⟨.inl rfl, ⟨.inl rfl, trivial⟩⟩⟩ trivial ?_
  conv => whnf
  refine br_nd H (fun c H => ?_) (fun c H => ?_)
  conv => whnf
  exact ⟨(k, wrap64 (x3 + 1)), [], ⟨H, lt_⟩, lt_, (fits_of ⟨.inl ⟨rfl, rfl⟩, trivial⟩ trivial fi_ trivial rfl)⟩
  conv => whnf
  injection H with H; subst H
  exact ret_fz [] (rtA_eq rfl)
  conv => whnf
  refine Br.f ff_ ?_
  conv => whnf
  refine Br.f rfl ?_
  conv => whnf
  refine Br.f ff_ ?_
  conv => whnf
  refine Br.f rfl ?_
  conv => whnf
  refine Br.f rfl ?_
  conv => whnf
  refine Br.f rfl ?_
  conv => whnf
  refine Br.f rfl ?_
  conv => whnf
  refine cut_ 264 [(0, .str a0), (3, .int .i64 x3), (36, .bool (!(decide ((bt a0 x3) = 45))))] [] rfl ⟨.inl rfl, ⟨.inl rfl, ⟨.inl rfl, trivial⟩⟩⟩ trivial ?_
  conv => whnf
  refine br_nd H (fun c H => ?_) (fun c H => ?_)
  conv => whnf
  exact ⟨(k, wrap64 (x3 + 1)), [], ⟨H, lt_⟩, lt_, (fits_of ⟨.inl ⟨rfl, rfl⟩, trivial⟩ trivial fi_ trivial rfl)⟩
  conv => whnf
  injection H with H; subst H
  exact ret_fz [] (rtA_eq rfl)
  conv => whnf
  injection H with H; subst H
  exact ret_fz [] (rtA_eq rfl)
  conv => whnf
  injection H with H; subst H
  exact ret_fz [] (rtA_eq rfl)
theorem spec_l2Has.l0_lp {F : (Exit → St → Prop) → St → Prop} {hv : List Tmp} {Q : Exit → St → Prop} {σ : St} {r : Bool} {k : Nat} {l0 : List ByteArray} {a1 : ByteArray} {x5 : Int} (H : spec_l2Has.l0 k l0 a1 x5 = some r) (rn : List (Option Nat)) (h1 : Fits σ σ [] [(5, .int .i64 x5)] [] [] rn)
    (h2 : ∀ (k0 : Nat) (x5 : Int), k0 < k + 1 → spec_l2Has.l0 k0 l0 a1 x5 = some r → headN σ hv [] [(5, .int .i64 x5)] [] [] (F (fun e σ' => match e with | .normal => ∃ (y : Nat × Int) (rn : List (Option Nat)), (spec_l2Has.l0 y.1 l0 a1 y.2 = some r ∧ y.1 < k + 1) ∧ y.1 < k0 ∧ Fits σ σ' [] [(5, .int .i64 y.2)] [] [] rn | e => Q e σ'))) : Lp F hv Q σ := by
  unfold Lp
  refine ⟨Nat × Int, fun x => spec_l2Has.l0 x.1 l0 a1 x.2 = some r ∧ x.1 < k + 1, fun x => x.1, [], fun x => [(5, .int .i64 x.2)], fun x => [], fun x => [], ⟨(k, x5), rn, ⟨H, Nat.lt_succ_self _⟩, h1⟩, ?_⟩
  rintro ⟨k, x5⟩ ⟨H, hk⟩
  exact h2 k x5 hk H
theorem spec_l2Has.ac {k : Nat} {l0 : List ByteArray} {a1 : ByteArray} {r : Bool} (H : spec_l2Has.f k l0 a1 = some r) : ACalls Try.prog G 138 [] [(sv_str l0), .str a1] [] (.bool r) := by
  refine acalls_of tok hP Try.func138 rfl (by kernel_rfl) [.tmp 4] rfl (by kernel_rfl) (Nat.le_of_ble_eq_true rfl) (.l .n (.l (.l .n (.l .n (.l (.c .n .n) .n))) .n)) rfl ?_
  unfold spec_l2Has.f at H
  conv => whnf
  refine spec_l2Has.l0_lp (l0 := l0) (a1 := a1) (k := k) H [] (fits_of ⟨.inl ⟨rfl, rfl⟩, trivial⟩ trivial fi_ trivial rfl) ?_
  intro k x5 hk H; rcases k with _ | k; exact none_elim H; rw [spec_l2Has.l0] at H; conv => whnf
  refine br_d H (fun c H => ?_) (fun c H => ?_)
  conv => whnf
  refine nd_ H (fun c H => ?_)
  conv => whnf
  refine Nd.mk nf_ ?_
  conv => whnf
  refine El.mk (rdm_en_str _ _ nf_ nf_) ?_
  conv => whnf
  refine cut_ 96 [(0, (sv_str l0)), (1, .str a1), (5, .int .i64 x5), (17, .bool (decide ((rdOf ByteArray.empty l0 x5).toList = a1.toList)))] [] rfl ⟨.inl rfl, ⟨.inl rfl, ⟨.inl rfl, ⟨.inl rfl, trivial⟩⟩⟩⟩ trivial ?_
  conv => whnf
  refine br_d H (fun c H => ?_) (fun c H => ?_)
  conv => whnf
  injection H with H; subst H
  exact ret_fz [] (rtA_eq rfl)
  conv => whnf
  exact ⟨(k, wrap64 (x5 + 1)), [], ⟨H, lt_⟩, lt_, (fits_of ⟨.inl ⟨rfl, rfl⟩, trivial⟩ trivial fi_ trivial rfl)⟩
  conv => whnf
  injection H with H; subst H
  exact ret_fz [] (rtA_eq rfl)
theorem spec_l2Before.ac {a0_0 : ByteArray} {a0_1 : ByteArray} {a1_0 : ByteArray} {a1_1 : ByteArray} {r : Bool} (H : spec_l2Before.f a0_0 a0_1 a1_0 a1_1 = some r) : ACalls Try.prog G 214 [] [.agg [.str a0_0, .str a0_1], .agg [.str a1_0, .str a1_1]] [] (.bool r) := by
  refine acalls_of tok hP Try.func214 rfl (by kernel_rfl) [.tmp 4] rfl (by kernel_rfl) (Nat.le_of_ble_eq_true rfl) (.l .n (.c .n .n)) rfl ?_
  unfold spec_l2Before.f at H
  conv => whnf
  refine br_t H (fun c H => ?_) (fun c H => ?_)
  conv => whnf
  refine Br.t ft_ ?_
  conv => whnf
  refine Br.t ft_ ?_
  conv => whnf
  refine Br.t ft_ ?_
  conv => whnf
  refine Br.t ft_ ?_
  conv => whnf
  refine Br.t ft_ ?_
  conv => whnf
  refine Br.t ft_ ?_
  conv => whnf
  refine Br.t ft_ ?_
  conv => whnf
  refine cut_ 184 [(4, .bool true)] [] rfl ⟨.inl rfl, trivial⟩ trivial ?_
  conv => whnf
  injection H with H; subst H
  exact ret_fz [] (rtA_eq rfl)
  conv => whnf
  refine Br.f ff_ ?_
  conv => whnf
  refine Br.f ff_ ?_
  conv => whnf
  refine Br.f ff_ ?_
  conv => whnf
  refine Br.f ff_ ?_
  conv => whnf
  refine Br.f ff_ ?_
  conv => whnf
  refine br_d H (fun c H => ?_) (fun c H => ?_)
  conv => whnf
  refine Br.t ft_ ?_
  conv => whnf
  refine Br.t ft_ ?_
  conv => whnf
  refine Br.t ft_ ?_
  conv => whnf
  refine Br.t ft_ ?_
  conv => whnf
  refine Br.f ff_ ?_
  conv => whnf
  refine Br.t ft_ ?_
  conv => whnf
  refine Br.f ff_ ?_
  conv => whnf
  refine cut_ 184 [(4, .bool (Op.bytesLess a0_1.toList a1_1.toList))] [] rfl ⟨.inl rfl, trivial⟩ trivial ?_
  conv => whnf
  injection H with H; subst H
  exact ret_fz [] (rtA_eq rfl)
  conv => whnf
  refine Br.f ff_ ?_
  conv => whnf
  refine Br.f ff_ ?_
  conv => whnf
  refine Br.f ff_ ?_
  conv => whnf
  refine Br.f ff_ ?_
  conv => whnf
  refine Br.f ff_ ?_
  conv => whnf
  refine Br.f ff_ ?_
  conv => whnf
  refine Br.f ff_ ?_
  conv => whnf
  refine cut_ 184 [(4, .bool false)] [] rfl ⟨.inl rfl, trivial⟩ trivial ?_
  conv => whnf
  injection H with H; subst H
  exact ret_fz [] (rtA_eq rfl)
theorem spec_l2StuffsOk.l1_lp {F : (Exit → St → Prop) → St → Prop} {hv : List Tmp} {Q : Exit → St → Prop} {σ : St} {r : Bool} {k : Nat} {a0_0 : List ByteArray} {a0_1 : List S_impl_PlantFoe} {x4 : Int} (H : spec_l2StuffsOk.l1 k a0_0 a0_1 x4 = some r) (rn : List (Option Nat)) (h1 : Fits σ σ [] [(4, .int .i64 x4)] [] [] rn)
    (h2 : ∀ (k0 : Nat) (x4 : Int), k0 < k + 1 → spec_l2StuffsOk.l1 k0 a0_0 a0_1 x4 = some r → headN σ hv [] [(4, .int .i64 x4)] [] [] (F (fun e σ' => match e with | .normal => ∃ (y : Nat × Int) (rn : List (Option Nat)), (spec_l2StuffsOk.l1 y.1 a0_0 a0_1 y.2 = some r ∧ y.1 < k + 1) ∧ y.1 < k0 ∧ Fits σ σ' [] [(4, .int .i64 y.2)] [] [] rn | e => Q e σ'))) : Lp F hv Q σ := by
  unfold Lp
  refine ⟨Nat × Int, fun x => spec_l2StuffsOk.l1 x.1 a0_0 a0_1 x.2 = some r ∧ x.1 < k + 1, fun x => x.1, [], fun x => [(4, .int .i64 x.2)], fun x => [], fun x => [], ⟨(k, x4), rn, ⟨H, Nat.lt_succ_self _⟩, h1⟩, ?_⟩
  rintro ⟨k, x4⟩ ⟨H, hk⟩
  exact h2 k x4 hk H
theorem spec_l2StuffsOk.l0_lp {F : (Exit → St → Prop) → St → Prop} {hv : List Tmp} {Q : Exit → St → Prop} {σ : St} {r : Bool} {k : Nat} {a0_0 : List ByteArray} {a0_1 : List S_impl_PlantFoe} {x3 : Int} (H : spec_l2StuffsOk.l0 k a0_0 a0_1 x3 = some r) (rn : List (Option Nat)) (h1 : Fits σ σ [] [(3, .int .i64 x3)] [] [] rn)
    (h2 : ∀ (k0 : Nat) (x3 : Int), k0 < k + 1 → spec_l2StuffsOk.l0 k0 a0_0 a0_1 x3 = some r → headN σ hv [] [(3, .int .i64 x3)] [] [] (F (fun e σ' => match e with | .normal => ∃ (y : Nat × Int) (rn : List (Option Nat)), (spec_l2StuffsOk.l0 y.1 a0_0 a0_1 y.2 = some r ∧ y.1 < k + 1) ∧ y.1 < k0 ∧ Fits σ σ' [] [(3, .int .i64 y.2)] [] [] rn | e => Q e σ'))) : Lp F hv Q σ := by
  unfold Lp
  refine ⟨Nat × Int, fun x => spec_l2StuffsOk.l0 x.1 a0_0 a0_1 x.2 = some r ∧ x.1 < k + 1, fun x => x.1, [], fun x => [(3, .int .i64 x.2)], fun x => [], fun x => [], ⟨(k, x3), rn, ⟨H, Nat.lt_succ_self _⟩, h1⟩, ?_⟩
  rintro ⟨k, x3⟩ ⟨H, hk⟩
  exact h2 k x3 hk H
theorem spec_l2StuffsOk.ac {k : Nat} {a0_0 : List ByteArray} {a0_1 : List S_impl_PlantFoe} {a0_2 : List S_impl_PlantPlace} {a0_3 : List S_impl_PlantValve} {r : Bool} (H : spec_l2StuffsOk.f k a0_0 a0_1 a0_2 a0_3 = some r) : ACalls Try.prog G 187 [] [.agg [(sv_str a0_0), (sv_S_impl_PlantFoe a0_1), (sv_S_impl_PlantPlace a0_2), (sv_S_impl_PlantValve a0_3)]] [] (.bool r) := by
  refine acalls_of tok hP Try.func187 rfl (by kernel_rfl) [.tmp 2] rfl (by kernel_rfl) (Nat.le_of_ble_eq_true rfl) (.l .n (.l (.c .n (.l (.c .n .n) .n)) (.l (.l .n (.l .n (.l (.c .n (.l (.c .n .n) .n)) .n))) (.l (.l .n (.l (.c .n .n) (.l (.l .n (.c .n (.l (.c .n .n) .n))) .n))) .n)))) rfl ?_
  unfold spec_l2StuffsOk.f at H
  conv => whnf
  refine br_d H (fun c H => ?_) (fun c H => ?_)
  conv => whnf
  refine Br.t ft_ ?_
  conv => whnf
  refine Br.t ft_ ?_
  conv => whnf
  refine Br.t ft_ ?_
  conv => whnf
  refine Br.t ft_ ?_
  conv => whnf
  refine cut_ 96 [(1, .bp 0 0), (15, .bool true)] [(0, .box [(sv_str a0_0), (sv_S_impl_PlantFoe a0_1), (sv_S_impl_PlantPlace a0_2), (sv_S_impl_PlantValve a0_3)])] rfl ⟨.inl rfl, ⟨.inl rfl, trivial⟩⟩ ⟨rfl, trivial⟩ ?_
  conv => whnf
  refine Br.t rfl ?_
  conv => whnf
  refine cut_ 104 [(2, .bool false)] [] rfl ⟨.inl rfl, trivial⟩ trivial ?_
  conv => whnf
  injection H with H; subst H
  exact ret_fz [] (rtA_eq rfl)
  conv => whnf
  refine Br.f ff_ ?_
  conv => whnf
  refine Br.f ff_ ?_
  conv => whnf
  refine Br.f ff_ ?_
  conv => whnf
  refine Br.f ff_ ?_
  conv => whnf
  refine cut_ 96 [(1, .bp 0 0), (15, .bool (decide ((a0_1.length : Int) > 12)))] [(0, .box [(sv_str a0_0), (sv_S_impl_PlantFoe a0_1), (sv_S_impl_PlantPlace a0_2), (sv_S_impl_PlantValve a0_3)])] rfl ⟨.inl rfl, ⟨.inl rfl, trivial⟩⟩ ⟨rfl, trivial⟩ ?_
  conv => whnf
  refine br_d H (fun c H => ?_) (fun c H => ?_)
  conv => whnf
  refine cut_ 104 [(2, .bool false)] [] rfl ⟨.inl rfl, trivial⟩ trivial ?_
  conv => whnf
  injection H with H; subst H
  exact ret_fz [] (rtA_eq rfl)
  conv => whnf
  refine spec_l2StuffsOk.l0_lp (a0_0 := a0_0) (a0_1 := a0_1) (k := k) H [] (fits_of ⟨.inl ⟨rfl, rfl⟩, trivial⟩ trivial fi_ trivial rfl) ?_
  intro k x3 hk H; rcases k with _ | k; exact none_elim H; rw [spec_l2StuffsOk.l0] at H; conv => whnf
  refine br_d H (fun c H => ?_) (fun c H => ?_)
  conv => whnf
  refine nd_ H (fun c H => ?_)
  conv => whnf
  refine Nd.mk nf_ ?_
  conv => whnf
  refine El.mk (rdm_en_str _ _ nf_ nf_) ?_
  conv => whnf
  revert H; refine bind_elim (fun t145 A H => ?_)
  refine call_mk (spec_l2NameOk.ac A) (avAL_cons (avA_shut' rfl) (avAL_nil)) (Or.inl rfl) rfl rfl (Nat.le_of_ble_eq_true rfl) ?_
  conv => whnf
  refine br_nt H (fun c H => ?_) (fun c H => ?_)
  conv => whnf
  refine Br.f ff_ ?_
  conv => whnf
  refine Br.f ff_ ?_
  conv => whnf
  refine br_d H (fun c H => ?_) (fun c H => ?_)
  conv => whnf
  refine Br.t ft_ ?_
  conv => whnf
  refine Br.t ft_ ?_
  conv => whnf
  refine Br.t ft_ ?_
  conv => whnf
  refine Br.t ft_ ?_
  conv => whnf
  refine nd_ H (fun c H => ?_)
  conv => whnf
  refine nd_ H (fun c H => ?_)
  conv => whnf
  refine El.mk (rdm_en_str _ _ nf_ nf_) ?_
  conv => whnf
  refine Br.t ft_ ?_
  conv => whnf
  refine Br.t ft_ ?_
  conv => whnf
  refine Br.t ft_ ?_
  conv => whnf
  refine Br.t ft_ ?_
  conv => whnf
  refine Br.t ft_ ?_
  conv => whnf
  refine Nd.mk nf_ ?_
  conv => whnf
  refine Nd.mk nf_ ?_
  conv => whnf
  refine El.mk (rdm_en_str _ _ nf_ nf_) ?_
  conv => whnf
  refine Br.t ft_ ?_
  conv => whnf
  refine Br.t ft_ ?_
  conv => whnf
  refine Br.f ff_ ?_
  conv => whnf
  refine Br.t ft_ ?_
  conv => whnf
  refine Br.f ff_ ?_
  conv => whnf
  refine cut_ 344 [(1, .bp 0 0), (3, .int .i64 x3), (47, .bool (!(Op.bytesLess (rdOf ByteArray.empty a0_0 (wrap64 (x3 - 1))).toList (rdOf ByteArray.empty a0_0 x3).toList)))] [(0, .box [(sv_str a0_0), (sv_S_impl_PlantFoe a0_1), (sv_S_impl_PlantPlace a0_2), (sv_S_impl_PlantValve a0_3)])] rfl ⟨.inl rfl, ⟨.inl rfl, ⟨.inl rfl, trivial⟩⟩⟩ ⟨rfl, trivial⟩ ?_
  conv => whnf
  refine br_nt H (fun c H => ?_) (fun c H => ?_)
  conv => whnf
  exact ⟨(k, wrap64 (x3 + 1)), [], ⟨H, lt_⟩, lt_, (fits_of ⟨.inl ⟨rfl, rfl⟩, trivial⟩ trivial fi_ trivial rfl)⟩
  conv => whnf
  refine cut_ 352 [(2, .bool false)] [] rfl ⟨.inl rfl, trivial⟩ trivial ?_
  conv => whnf
  injection H with H; subst H
  exact ret_fz [] (rtA_eq rfl)
  conv => whnf
  refine Br.f ff_ ?_
  conv => whnf
  refine Br.f ff_ ?_
  conv => whnf
  refine Br.f ff_ ?_
  conv => whnf
  refine Br.f ff_ ?_
  conv => whnf
  refine Br.f ff_ ?_
  conv => whnf
  refine Br.f ff_ ?_
  conv => whnf
  refine Br.f ff_ ?_
  conv => whnf
  refine Br.f ff_ ?_
  conv => whnf
  refine Br.f ff_ ?_
  conv => whnf
  refine Br.f ff_ ?_
  conv => whnf
  refine Br.f ff_ ?_
  conv => whnf
  refine Br.f ff_ ?_
  conv => whnf
  refine Br.f ff_ ?_
  conv => whnf
  refine Br.f ff_ ?_
  conv => whnf
  refine cut_ 344 [(1, .bp 0 0), (3, .int .i64 x3), (47, .bool false)] [(0, .box [(sv_str a0_0), (sv_S_impl_PlantFoe a0_1), (sv_S_impl_PlantPlace a0_2), (sv_S_impl_PlantValve a0_3)])] rfl ⟨.inl rfl, ⟨.inl rfl, ⟨.inl rfl, trivial⟩⟩⟩ ⟨rfl, trivial⟩ ?_
  conv => whnf
  refine Br.f rfl ?_
  conv => whnf
  exact ⟨(k, wrap64 (x3 + 1)), [], ⟨H, lt_⟩, lt_, (fits_of ⟨.inl ⟨rfl, rfl⟩, trivial⟩ trivial fi_ trivial rfl)⟩
  conv => whnf
  refine Br.t ft_ ?_
  conv => whnf
  refine Br.t ft_ ?_
  conv => whnf
  refine Br.t ft_ ?_
  conv => whnf
  refine Br.t ft_ ?_
  conv => whnf
  refine cut_ 344 [(1, .bp 0 0), (3, .int .i64 x3), (47, .bool true)] [(0, .box [(sv_str a0_0), (sv_S_impl_PlantFoe a0_1), (sv_S_impl_PlantPlace a0_2), (sv_S_impl_PlantValve a0_3)])] rfl ⟨.inl rfl, ⟨.inl rfl, ⟨.inl rfl, trivial⟩⟩⟩ ⟨rfl, trivial⟩ ?_
  conv => whnf
  refine Br.t rfl ?_
  conv => whnf
  refine cut_ 352 [(2, .bool false)] [] rfl ⟨.inl rfl, trivial⟩ trivial ?_
  conv => whnf
  injection H with H; subst H
  exact ret_fz [] (rtA_eq rfl)
  conv => whnf
  refine spec_l2StuffsOk.l1_lp (a0_0 := a0_0) (a0_1 := a0_1) (k := k) H [] (fits_of ⟨.inl ⟨rfl, rfl⟩, trivial⟩ trivial fi_ trivial rfl) ?_
  intro k x4 hk H; rcases k with _ | k; exact none_elim H; rw [spec_l2StuffsOk.l1] at H; conv => whnf
  refine cut_ 192 [(1, .bp 0 0), (4, .int .i64 x4), (52, .bool (decide (x4 < (a0_1.length : Int))))] [(0, .box [(sv_str a0_0), (sv_S_impl_PlantFoe a0_1), (sv_S_impl_PlantPlace a0_2), (sv_S_impl_PlantValve a0_3)])] rfl ⟨.inl rfl, ⟨.inl rfl, ⟨.inl rfl, trivial⟩⟩⟩ ⟨rfl, trivial⟩ ?_
  conv => whnf
  refine br_d H (fun c H => ?_) (fun c H => ?_)
  conv => whnf
  refine nd_ H (fun c H => ?_)
  conv => whnf
  refine Nd.mk nf_ ?_
  conv => whnf
  refine El.mk (rdm_en_S_impl_PlantFoe _ _ nf_ nf_) ?_
  conv => whnf
  refine br_nt H (fun c H => ?_) (fun c H => ?_)
  conv => whnf
  refine Br.f ff_ ?_
  conv => whnf
  refine Br.f ff_ ?_
  conv => whnf
  refine Br.f ff_ ?_
  conv => whnf
  refine Br.f ff_ ?_
  conv => whnf
  revert H; refine bind_elim (fun t155 A H => ?_)
  refine call_mk (spec_l2Has.ac A) (avAL_cons (avA_shut' rfl) (avAL_cons (avA_shut' rfl) (avAL_nil))) (Or.inl rfl) rfl rfl (Nat.le_of_ble_eq_true rfl) ?_
  conv => whnf
  refine Br.f ff_ ?_
  conv => whnf
  refine Br.f ff_ ?_
  conv => whnf
  refine br_nt H (fun c H => ?_) (fun c H => ?_)
  conv => whnf
  refine Br.f ff_ ?_
  conv => whnf
  refine Br.f ff_ ?_
  conv => whnf
  refine Br.f ff_ ?_
  conv => whnf
  refine Br.f ff_ ?_
  conv => whnf
  revert H; refine bind_elim (fun t156 A H => ?_)
  refine call_mk (spec_l2Has.ac A) (avAL_cons (avA_shut' rfl) (avAL_cons (avA_shut' rfl) (avAL_nil))) (Or.inl rfl) rfl rfl (Nat.le_of_ble_eq_true rfl) ?_
  conv => whnf
  refine Br.f ff_ ?_
  conv => whnf
  refine Br.f ff_ ?_
  conv => whnf
  refine br_nt H (fun c H => ?_) (fun c H => ?_)
  conv => whnf
  refine Br.f ff_ ?_
  conv => whnf
  refine Br.f ff_ ?_
  conv => whnf
  refine br_d H (fun c H => ?_) (fun c H => ?_)
  conv => whnf
  refine Br.t ft_ ?_
  conv => whnf
  refine Br.t ft_ ?_
  conv => whnf
  refine Br.t ft_ ?_
  conv => whnf
  refine Br.t ft_ ?_
  conv => whnf
  refine nd_ H (fun c H => ?_)
  conv => whnf
  refine nd_ H (fun c H => ?_)
  conv => whnf
  refine El.mk (rdm_en_S_impl_PlantFoe _ _ nf_ nf_) ?_
  conv => whnf
  refine Br.t ft_ ?_
  conv => whnf
  refine Br.t ft_ ?_
  conv => whnf
  refine Br.t ft_ ?_
  conv => whnf
  revert H; refine bind_elim (fun t157 A H => ?_)
  refine call_mk (spec_l2Before.ac A) (avAL_cons (avA_agg (avL_cons (av_shut' rfl) (avL_cons (av_shut' rfl) (avL_nil)))) (avAL_cons (avA_agg (avL_cons (av_shut' rfl) (avL_cons (av_shut' rfl) (avL_nil)))) (avAL_nil))) (Or.inl rfl) rfl rfl (Nat.le_of_ble_eq_true rfl) ?_
  conv => whnf
  refine Br.t ft_ ?_
  conv => whnf
  refine Br.f ff_ ?_
  conv => whnf
  refine Br.t ft_ ?_
  conv => whnf
  refine Br.f ff_ ?_
  conv => whnf
  refine cut_ 536 [(1, .bp 0 0), (4, .int .i64 x4), (95, .bool (!t157))] [(0, .box [(sv_str a0_0), (sv_S_impl_PlantFoe a0_1), (sv_S_impl_PlantPlace a0_2), (sv_S_impl_PlantValve a0_3)])] rfl ⟨.inl rfl, ⟨.inl rfl, ⟨.inl rfl, trivial⟩⟩⟩ ⟨rfl, trivial⟩ ?_
  conv => whnf
  refine br_nt H (fun c H => ?_) (fun c H => ?_)
  conv => whnf
  exact ⟨(k, wrap64 (x4 + 1)), [], ⟨H, lt_⟩, lt_, (fits_of ⟨.inl ⟨rfl, rfl⟩, trivial⟩ trivial fi_ trivial rfl)⟩
  conv => whnf
  refine cut_ 544 [(2, .bool false)] [] rfl ⟨.inl rfl, trivial⟩ trivial ?_
  conv => whnf
  injection H with H; subst H
  exact ret_fz [] (rtA_eq rfl)
  conv => whnf
  refine Br.f ff_ ?_
  conv => whnf
  refine Br.f ff_ ?_
  conv => whnf
  refine Br.f ff_ ?_
  conv => whnf
  refine Br.f ff_ ?_
  conv => whnf
  refine Br.f ff_ ?_
  conv => whnf
  refine Br.f ff_ ?_
  conv => whnf
  refine Br.f ff_ ?_
  conv => whnf
  refine Br.f ff_ ?_
  conv => whnf
  refine Br.f ff_ ?_
  conv => whnf
  refine Br.f ff_ ?_
  conv => whnf
  refine Br.f ff_ ?_
  conv => whnf
  refine cut_ 536 [(1, .bp 0 0), (4, .int .i64 x4), (95, .bool false)] [(0, .box [(sv_str a0_0), (sv_S_impl_PlantFoe a0_1), (sv_S_impl_PlantPlace a0_2), (sv_S_impl_PlantValve a0_3)])] rfl ⟨.inl rfl, ⟨.inl rfl, ⟨.inl rfl, trivial⟩⟩⟩ ⟨rfl, trivial⟩ ?_
  conv => whnf
  refine Br.f rfl ?_
  conv => whnf
  exact ⟨(k, wrap64 (x4 + 1)), [], ⟨H, lt_⟩, lt_, (fits_of ⟨.inl ⟨rfl, rfl⟩, trivial⟩ trivial fi_ trivial rfl)⟩
  conv => whnf
  refine Br.t ft_ ?_
  conv => whnf
  refine Br.t ft_ ?_
  conv => whnf
  refine Br.t ft_ ?_
  conv => whnf
  refine Br.t ft_ ?_
  conv => whnf
  refine cut_ 536 [(1, .bp 0 0), (4, .int .i64 x4), (95, .bool true)] [(0, .box [(sv_str a0_0), (sv_S_impl_PlantFoe a0_1), (sv_S_impl_PlantPlace a0_2), (sv_S_impl_PlantValve a0_3)])] rfl ⟨.inl rfl, ⟨.inl rfl, ⟨.inl rfl, trivial⟩⟩⟩ ⟨rfl, trivial⟩ ?_
  conv => whnf
  refine Br.t rfl ?_
  conv => whnf
  refine cut_ 544 [(2, .bool false)] [] rfl ⟨.inl rfl, trivial⟩ trivial ?_
  conv => whnf
  injection H with H; subst H
  exact ret_fz [] (rtA_eq rfl)
  conv => whnf
  refine Br.t ft_ ?_
  conv => whnf
  refine Br.t ft_ ?_
  conv => whnf
  refine Br.t ft_ ?_
  conv => whnf
  refine Br.t ft_ ?_
  conv => whnf
  refine Br.t ft_ ?_
  conv => whnf
  refine Br.t ft_ ?_
  conv => whnf
  refine Br.t rfl ?_
  conv => whnf
  refine Br.t rfl ?_
  conv => whnf
  refine Br.t rfl ?_
  conv => whnf
  refine Br.t rfl ?_
  conv => whnf
  refine Br.t rfl ?_
  conv => whnf
  refine cut_ 536 [(1, .bp 0 0), (4, .int .i64 x4), (95, .bool true)] [(0, .box [(sv_str a0_0), (sv_S_impl_PlantFoe a0_1), (sv_S_impl_PlantPlace a0_2), (sv_S_impl_PlantValve a0_3)])] rfl ⟨.inl rfl, ⟨.inl rfl, ⟨.inl rfl, trivial⟩⟩⟩ ⟨rfl, trivial⟩ ?_
  conv => whnf
  refine Br.t rfl ?_
  conv => whnf
  refine cut_ 544 [(2, .bool false)] [] rfl ⟨.inl rfl, trivial⟩ trivial ?_
  conv => whnf
  injection H with H; subst H
  exact ret_fz [] (rtA_eq rfl)
  conv => whnf
  refine Br.t ft_ ?_
  conv => whnf
  refine Br.t ft_ ?_
  conv => whnf
  refine Br.t ft_ ?_
  conv => whnf
  refine Br.t ft_ ?_
  conv => whnf
  refine Br.t ft_ ?_
  conv => whnf
  refine Br.t ft_ ?_
  conv => whnf
  refine Br.t rfl ?_
  conv => whnf
  refine Br.t rfl ?_
  conv => whnf
  refine Br.t rfl ?_
  conv => whnf
  refine Br.t rfl ?_
  conv => whnf
  refine Br.t rfl ?_
  conv => whnf
  refine Br.t rfl ?_
  conv => whnf
  refine Br.t rfl ?_
  conv => whnf
  refine Br.t rfl ?_
  conv => whnf
  refine Br.t rfl ?_
  conv => whnf
  refine Br.t rfl ?_
  conv => whnf
  refine Br.t rfl ?_
  conv => whnf
  refine Br.t rfl ?_
  conv => whnf
  refine cut_ 536 [(1, .bp 0 0), (4, .int .i64 x4), (95, .bool true)] [(0, .box [(sv_str a0_0), (sv_S_impl_PlantFoe a0_1), (sv_S_impl_PlantPlace a0_2), (sv_S_impl_PlantValve a0_3)])] rfl ⟨.inl rfl, ⟨.inl rfl, ⟨.inl rfl, trivial⟩⟩⟩ ⟨rfl, trivial⟩ ?_
  conv => whnf
  refine Br.t rfl ?_
  conv => whnf
  refine cut_ 544 [(2, .bool false)] [] rfl ⟨.inl rfl, trivial⟩ trivial ?_
  conv => whnf
  injection H with H; subst H
  exact ret_fz [] (rtA_eq rfl)
  conv => whnf
  injection H with H; subst H
  exact ret_fz [] (rtA_eq rfl)
theorem spec_l2PlacesOk.l0_lp {F : (Exit → St → Prop) → St → Prop} {hv : List Tmp} {Q : Exit → St → Prop} {σ : St} {r : Bool} {k : Nat} {a0_2 : List S_impl_PlantPlace} {x3 : Int} (H : spec_l2PlacesOk.l0 k a0_2 x3 = some r) (rn : List (Option Nat)) (h1 : Fits σ σ [] [(3, .int .i64 x3)] [] [] rn)
    (h2 : ∀ (k0 : Nat) (x3 : Int), k0 < k + 1 → spec_l2PlacesOk.l0 k0 a0_2 x3 = some r → headN σ hv [] [(3, .int .i64 x3)] [] [] (F (fun e σ' => match e with | .normal => ∃ (y : Nat × Int) (rn : List (Option Nat)), (spec_l2PlacesOk.l0 y.1 a0_2 y.2 = some r ∧ y.1 < k + 1) ∧ y.1 < k0 ∧ Fits σ σ' [] [(3, .int .i64 y.2)] [] [] rn | e => Q e σ'))) : Lp F hv Q σ := by
  unfold Lp
  refine ⟨Nat × Int, fun x => spec_l2PlacesOk.l0 x.1 a0_2 x.2 = some r ∧ x.1 < k + 1, fun x => x.1, [], fun x => [(3, .int .i64 x.2)], fun x => [], fun x => [], ⟨(k, x3), rn, ⟨H, Nat.lt_succ_self _⟩, h1⟩, ?_⟩
  rintro ⟨k, x3⟩ ⟨H, hk⟩
  exact h2 k x3 hk H
theorem spec_l2PlacesOk.ac {k : Nat} {a0_0 : List ByteArray} {a0_1 : List S_impl_PlantFoe} {a0_2 : List S_impl_PlantPlace} {a0_3 : List S_impl_PlantValve} {r : Bool} (H : spec_l2PlacesOk.f k a0_0 a0_1 a0_2 a0_3 = some r) : ACalls Try.prog G 188 [] [.agg [(sv_str a0_0), (sv_S_impl_PlantFoe a0_1), (sv_S_impl_PlantPlace a0_2), (sv_S_impl_PlantValve a0_3)]] [] (.bool r) := by
  refine acalls_of tok hP Try.func188 rfl (by kernel_rfl) [.tmp 2] rfl (by kernel_rfl) (Nat.le_of_ble_eq_true rfl) (.l .n (.l .n (.l (.l .n (.l (.c .n .n) (.l (.l .n (.c .n (.l (.c .n .n) .n))) .n))) .n))) rfl ?_
  unfold spec_l2PlacesOk.f at H
  conv => whnf
  refine br_d H (fun c H => ?_) (fun c H => ?_)
  conv => whnf
  injection H with H; subst H
  exact ret_fz [] (rtA_eq rfl)
  conv => whnf
  refine spec_l2PlacesOk.l0_lp (a0_2 := a0_2) (k := k) H [] (fits_of ⟨.inl ⟨rfl, rfl⟩, trivial⟩ trivial fi_ trivial rfl) ?_
  intro k x3 hk H; rcases k with _ | k; exact none_elim H; rw [spec_l2PlacesOk.l0] at H; conv => whnf
  refine cut_ 96 [(1, .bp 0 0), (3, .int .i64 x3), (13, .bool (decide (x3 < (a0_2.length : Int))))] [(0, .box [(sv_str a0_0), (sv_S_impl_PlantFoe a0_1), (sv_S_impl_PlantPlace a0_2), (sv_S_impl_PlantValve a0_3)])] rfl ⟨.inl rfl, ⟨.inl rfl, ⟨.inl rfl, trivial⟩⟩⟩ ⟨rfl, trivial⟩ ?_
  conv => whnf
  refine br_d H (fun c H => ?_) (fun c H => ?_)
  conv => whnf
  refine nd_ H (fun c H => ?_)
  conv => whnf
  refine Nd.mk nf_ ?_
  conv => whnf
  refine El.mk (rdm_en_S_impl_PlantPlace _ _ nf_ nf_) ?_
  conv => whnf
  revert H; refine bind_elim (fun t177 A H => ?_)
  refine call_mk (spec_l2NameOk.ac A) (avAL_cons (avA_shut' rfl) (avAL_nil)) (Or.inl rfl) rfl rfl (Nat.le_of_ble_eq_true rfl) ?_
  conv => whnf
  refine br_nt H (fun c H => ?_) (fun c H => ?_)
  conv => whnf
  refine Br.f ff_ ?_
  conv => whnf
  refine Br.f ff_ ?_
  conv => whnf
  refine br_d H (fun c H => ?_) (fun c H => ?_)
  conv => whnf
  refine Br.t ft_ ?_
  conv => whnf
  refine Br.t ft_ ?_
  conv => whnf
  refine Br.t ft_ ?_
  conv => whnf
  refine Br.t ft_ ?_
  conv => whnf
  refine nd_ H (fun c H => ?_)
  conv => whnf
  refine nd_ H (fun c H => ?_)
  conv => whnf
  refine El.mk (rdm_en_S_impl_PlantPlace _ _ nf_ nf_) ?_
  conv => whnf
  refine Br.t ft_ ?_
  conv => whnf
  refine Br.t ft_ ?_
  conv => whnf
  refine Br.t ft_ ?_
  conv => whnf
  refine Br.t ft_ ?_
  conv => whnf
  refine Br.t ft_ ?_
  conv => whnf
  refine Br.f ff_ ?_
  conv => whnf
  refine Br.t ft_ ?_
  conv => whnf
  refine Br.f ff_ ?_
  conv => whnf
  refine br_nt H (fun c H => ?_) (fun c H => ?_)
  conv => whnf
  refine Br.f ff_ ?_
  conv => whnf
  refine Br.f ff_ ?_
  conv => whnf
  revert H; refine bind_elim (fun t178 A H => ?_)
  refine call_mk (spec_l1In.ac A) (avAL_cons (avA_shut' rfl) (avAL_cons (avA_shut' rfl) (avAL_cons (avA_shut' rfl) (avAL_nil)))) (Or.inl rfl) rfl rfl (Nat.le_of_ble_eq_true rfl) ?_
  conv => whnf
  refine Br.f ff_ ?_
  conv => whnf
  refine Br.f ff_ ?_
  conv => whnf
  refine br_nt H (fun c H => ?_) (fun c H => ?_)
  conv => whnf
  refine Br.f ff_ ?_
  conv => whnf
  refine Br.f ff_ ?_
  conv => whnf
  revert H; refine bind_elim (fun t179 A H => ?_)
  refine call_mk (spec_l2NameOk.ac A) (avAL_cons (avA_shut' rfl) (avAL_nil)) (Or.inl rfl) rfl rfl (Nat.le_of_ble_eq_true rfl) ?_
  conv => whnf
  refine Br.f ff_ ?_
  conv => whnf
  refine Br.f ff_ ?_
  conv => whnf
  refine cut_ 408 [(1, .bp 0 0), (3, .int .i64 x3), (52, .bool (!t179))] [(0, .box [(sv_str a0_0), (sv_S_impl_PlantFoe a0_1), (sv_S_impl_PlantPlace a0_2), (sv_S_impl_PlantValve a0_3)])] rfl ⟨.inl rfl, ⟨.inl rfl, ⟨.inl rfl, trivial⟩⟩⟩ ⟨rfl, trivial⟩ ?_
  conv => whnf
  refine br_nt H (fun c H => ?_) (fun c H => ?_)
  conv => whnf
  exact ⟨(k, wrap64 (x3 + 1)), [], ⟨H, lt_⟩, lt_, (fits_of ⟨.inl ⟨rfl, rfl⟩, trivial⟩ trivial fi_ trivial rfl)⟩
  conv => whnf
  refine cut_ 416 [(2, .bool false)] [] rfl ⟨.inl rfl, trivial⟩ trivial ?_
  conv => whnf
  injection H with H; subst H
  exact ret_fz [] (rtA_eq rfl)
  conv => whnf
  refine Br.t ft_ ?_
  conv => whnf
  refine Br.t ft_ ?_
  conv => whnf
  refine Br.t ft_ ?_
  conv => whnf
  refine Br.t ft_ ?_
  conv => whnf
  refine cut_ 408 [(1, .bp 0 0), (3, .int .i64 x3), (52, .bool true)] [(0, .box [(sv_str a0_0), (sv_S_impl_PlantFoe a0_1), (sv_S_impl_PlantPlace a0_2), (sv_S_impl_PlantValve a0_3)])] rfl ⟨.inl rfl, ⟨.inl rfl, ⟨.inl rfl, trivial⟩⟩⟩ ⟨rfl, trivial⟩ ?_
  conv => whnf
  refine Br.t rfl ?_
  conv => whnf
  refine cut_ 416 [(2, .bool false)] [] rfl ⟨.inl rfl, trivial⟩ trivial ?_
  conv => whnf
  injection H with H; subst H
  exact ret_fz [] (rtA_eq rfl)
  conv => whnf
  refine Br.t ft_ ?_
  conv => whnf
  refine Br.t ft_ ?_
  conv => whnf
  refine Br.t ft_ ?_
  conv => whnf
  refine Br.t ft_ ?_
  conv => whnf
  refine Br.t rfl ?_
  conv => whnf
  refine Br.t rfl ?_
  conv => whnf
  refine Br.t rfl ?_
  conv => whnf
  refine Br.t rfl ?_
  conv => whnf
  refine Br.t rfl ?_
  conv => whnf
  refine cut_ 408 [(1, .bp 0 0), (3, .int .i64 x3), (52, .bool true)] [(0, .box [(sv_str a0_0), (sv_S_impl_PlantFoe a0_1), (sv_S_impl_PlantPlace a0_2), (sv_S_impl_PlantValve a0_3)])] rfl ⟨.inl rfl, ⟨.inl rfl, ⟨.inl rfl, trivial⟩⟩⟩ ⟨rfl, trivial⟩ ?_
  conv => whnf
  refine Br.t rfl ?_
  conv => whnf
  refine cut_ 416 [(2, .bool false)] [] rfl ⟨.inl rfl, trivial⟩ trivial ?_
  conv => whnf
  injection H with H; subst H
  exact ret_fz [] (rtA_eq rfl)
  conv => whnf
  refine Br.f ff_ ?_
  conv => whnf
  refine Br.f ff_ ?_
  conv => whnf
  refine Br.f ff_ ?_
  conv => whnf
  refine Br.f ff_ ?_
  conv => whnf
  refine Br.f ff_ ?_
  conv => whnf
  refine Br.f ff_ ?_
  conv => whnf
  refine Br.f ff_ ?_
  conv => whnf
  refine Br.f ff_ ?_
  conv => whnf
  refine Br.f ff_ ?_
  conv => whnf
  refine Br.f ff_ ?_
  conv => whnf
  refine Br.f ff_ ?_
  conv => whnf
  refine Br.f ff_ ?_
  conv => whnf
  refine Br.f rfl ?_
  conv => whnf
  refine Br.f rfl ?_
  conv => whnf
  refine Br.f rfl ?_
  conv => whnf
  revert H; refine bind_elim (fun t180 A H => ?_)
  refine call_mk (spec_l1In.ac A) (avAL_cons (avA_shut' rfl) (avAL_cons (avA_shut' rfl) (avAL_cons (avA_shut' rfl) (avAL_nil)))) (Or.inl rfl) rfl rfl (Nat.le_of_ble_eq_true rfl) ?_
  conv => whnf
  refine Br.f rfl ?_
  conv => whnf
  refine Br.f rfl ?_
  conv => whnf
  refine br_nt H (fun c H => ?_) (fun c H => ?_)
  conv => whnf
  refine Br.f ff_ ?_
  conv => whnf
  refine Br.f ff_ ?_
  conv => whnf
  revert H; refine bind_elim (fun t181 A H => ?_)
  refine call_mk (spec_l2NameOk.ac A) (avAL_cons (avA_shut' rfl) (avAL_nil)) (Or.inl rfl) rfl rfl (Nat.le_of_ble_eq_true rfl) ?_
  conv => whnf
  refine Br.f ff_ ?_
  conv => whnf
  refine Br.f ff_ ?_
  conv => whnf
  refine cut_ 408 [(1, .bp 0 0), (3, .int .i64 x3), (52, .bool (!t181))] [(0, .box [(sv_str a0_0), (sv_S_impl_PlantFoe a0_1), (sv_S_impl_PlantPlace a0_2), (sv_S_impl_PlantValve a0_3)])] rfl ⟨.inl rfl, ⟨.inl rfl, ⟨.inl rfl, trivial⟩⟩⟩ ⟨rfl, trivial⟩ ?_
  conv => whnf
  refine br_nt H (fun c H => ?_) (fun c H => ?_)
  conv => whnf
  exact ⟨(k, wrap64 (x3 + 1)), [], ⟨H, lt_⟩, lt_, (fits_of ⟨.inl ⟨rfl, rfl⟩, trivial⟩ trivial fi_ trivial rfl)⟩
  conv => whnf
  refine cut_ 416 [(2, .bool false)] [] rfl ⟨.inl rfl, trivial⟩ trivial ?_
  conv => whnf
  injection H with H; subst H
  exact ret_fz [] (rtA_eq rfl)
  conv => whnf
  refine Br.t ft_ ?_
  conv => whnf
  refine Br.t ft_ ?_
  conv => whnf
  refine Br.t ft_ ?_
  conv => whnf
  refine Br.t ft_ ?_
  conv => whnf
  refine cut_ 408 [(1, .bp 0 0), (3, .int .i64 x3), (52, .bool true)] [(0, .box [(sv_str a0_0), (sv_S_impl_PlantFoe a0_1), (sv_S_impl_PlantPlace a0_2), (sv_S_impl_PlantValve a0_3)])] rfl ⟨.inl rfl, ⟨.inl rfl, ⟨.inl rfl, trivial⟩⟩⟩ ⟨rfl, trivial⟩ ?_
  conv => whnf
  refine Br.t rfl ?_
  conv => whnf
  refine cut_ 416 [(2, .bool false)] [] rfl ⟨.inl rfl, trivial⟩ trivial ?_
  conv => whnf
  injection H with H; subst H
  exact ret_fz [] (rtA_eq rfl)
  conv => whnf
  refine Br.t ft_ ?_
  conv => whnf
  refine Br.t ft_ ?_
  conv => whnf
  refine Br.t ft_ ?_
  conv => whnf
  refine Br.t ft_ ?_
  conv => whnf
  refine Br.t rfl ?_
  conv => whnf
  refine Br.t rfl ?_
  conv => whnf
  refine Br.t rfl ?_
  conv => whnf
  refine Br.t rfl ?_
  conv => whnf
  refine Br.t rfl ?_
  conv => whnf
  refine Br.t rfl ?_
  conv => whnf
  refine Br.t rfl ?_
  conv => whnf
  refine Br.t rfl ?_
  conv => whnf
  refine Br.t rfl ?_
  conv => whnf
  refine Br.t rfl ?_
  conv => whnf
  refine cut_ 408 [(1, .bp 0 0), (3, .int .i64 x3), (52, .bool true)] [(0, .box [(sv_str a0_0), (sv_S_impl_PlantFoe a0_1), (sv_S_impl_PlantPlace a0_2), (sv_S_impl_PlantValve a0_3)])] rfl ⟨.inl rfl, ⟨.inl rfl, ⟨.inl rfl, trivial⟩⟩⟩ ⟨rfl, trivial⟩ ?_
  conv => whnf
  refine Br.t rfl ?_
  conv => whnf
  refine cut_ 416 [(2, .bool false)] [] rfl ⟨.inl rfl, trivial⟩ trivial ?_
  conv => whnf
  injection H with H; subst H
  exact ret_fz [] (rtA_eq rfl)
  conv => whnf
  injection H with H; subst H
  exact ret_fz [] (rtA_eq rfl)
theorem spec_l2Place.l0_lp {F : (Exit → St → Prop) → St → Prop} {hv : List Tmp} {Q : Exit → St → Prop} {σ : St} {r : Int} {k : Nat} {a0_2 : List S_impl_PlantPlace} {a1 : ByteArray} {x5 : Int} (H : spec_l2Place.l0 k a0_2 a1 x5 = some r) (rn : List (Option Nat)) (h1 : Fits σ σ [] [(5, .int .i64 x5)] [] [] rn)
    (h2 : ∀ (k0 : Nat) (x5 : Int), k0 < k + 1 → spec_l2Place.l0 k0 a0_2 a1 x5 = some r → headN σ hv [] [(5, .int .i64 x5)] [] [] (F (fun e σ' => match e with | .normal => ∃ (y : Nat × Int) (rn : List (Option Nat)), (spec_l2Place.l0 y.1 a0_2 a1 y.2 = some r ∧ y.1 < k + 1) ∧ y.1 < k0 ∧ Fits σ σ' [] [(5, .int .i64 y.2)] [] [] rn | e => Q e σ'))) : Lp F hv Q σ := by
  unfold Lp
  refine ⟨Nat × Int, fun x => spec_l2Place.l0 x.1 a0_2 a1 x.2 = some r ∧ x.1 < k + 1, fun x => x.1, [], fun x => [(5, .int .i64 x.2)], fun x => [], fun x => [], ⟨(k, x5), rn, ⟨H, Nat.lt_succ_self _⟩, h1⟩, ?_⟩
  rintro ⟨k, x5⟩ ⟨H, hk⟩
  exact h2 k x5 hk H
theorem spec_l2Place.ac {k : Nat} {a0_0 : List ByteArray} {a0_1 : List S_impl_PlantFoe} {a0_2 : List S_impl_PlantPlace} {a0_3 : List S_impl_PlantValve} {a1 : ByteArray} {r : Int} (H : spec_l2Place.f k a0_0 a0_1 a0_2 a0_3 a1 = some r) : ACalls Try.prog G 215 [] [.agg [(sv_str a0_0), (sv_S_impl_PlantFoe a0_1), (sv_S_impl_PlantPlace a0_2), (sv_S_impl_PlantValve a0_3)], .str a1] [] (.int .i64 r) := by
  refine acalls_of tok hP Try.func215 rfl (by kernel_rfl) [.tmp 4] rfl (by kernel_rfl) (Nat.le_of_ble_eq_true rfl) (.l .n (.l (.l .n (.l .n (.l (.c .n .n) .n))) .n)) rfl ?_
  unfold spec_l2Place.f at H
  conv => whnf
  refine spec_l2Place.l0_lp (a0_2 := a0_2) (a1 := a1) (k := k) H [] (fits_of ⟨.inl ⟨rfl, rfl⟩, trivial⟩ trivial fi_ trivial rfl) ?_
  intro k x5 hk H; rcases k with _ | k; exact none_elim H; rw [spec_l2Place.l0] at H; conv => whnf
  refine br_d H (fun c H => ?_) (fun c H => ?_)
  conv => whnf
  refine nd_ H (fun c H => ?_)
  conv => whnf
  refine Nd.mk nf_ ?_
  conv => whnf
  refine El.mk (rdm_en_S_impl_PlantPlace _ _ nf_ nf_) ?_
  conv => whnf
  refine cut_ 128 [(1, .str a1), (2, .bp 0 0), (5, .int .i64 x5), (20, .bool (decide (((rd_impl_PlantPlace a0_2 x5).f0).toList = a1.toList)))] [(0, .box [(sv_str a0_0), (sv_S_impl_PlantFoe a0_1), (sv_S_impl_PlantPlace a0_2), (sv_S_impl_PlantValve a0_3)])] rfl ⟨.inl rfl, ⟨.inl rfl, ⟨.inl rfl, ⟨.inl rfl, trivial⟩⟩⟩⟩ ⟨rfl, trivial⟩ ?_
  conv => whnf
  refine br_d H (fun c H => ?_) (fun c H => ?_)
  conv => whnf
  injection H with H; subst H
  exact ret_fz [] (rtA_eq rfl)
  conv => whnf
  exact ⟨(k, wrap64 (x5 + 1)), [], ⟨H, lt_⟩, lt_, (fits_of ⟨.inl ⟨rfl, rfl⟩, trivial⟩ trivial fi_ trivial rfl)⟩
  conv => whnf
  injection H with H; subst H
  exact ret_fz [] (rtA_eq rfl)
theorem spec_l2ValvesOk.l0_lp {F : (Exit → St → Prop) → St → Prop} {hv : List Tmp} {Q : Exit → St → Prop} {σ : St} {r : Bool} {k : Nat} {a0_0 : List ByteArray} {a0_1 : List S_impl_PlantFoe} {a0_2 : List S_impl_PlantPlace} {a0_3 : List S_impl_PlantValve} {x3 : Int} (H : spec_l2ValvesOk.l0 k a0_0 a0_1 a0_2 a0_3 x3 = some r) (rn : List (Option Nat)) (h1 : Fits σ σ [] [(3, .int .i64 x3)] [] [] rn)
    (h2 : ∀ (k0 : Nat) (x3 : Int), k0 < k + 1 → spec_l2ValvesOk.l0 k0 a0_0 a0_1 a0_2 a0_3 x3 = some r → headN σ hv [] [(3, .int .i64 x3)] [] [] (F (fun e σ' => match e with | .normal => ∃ (y : Nat × Int) (rn : List (Option Nat)), (spec_l2ValvesOk.l0 y.1 a0_0 a0_1 a0_2 a0_3 y.2 = some r ∧ y.1 < k + 1) ∧ y.1 < k0 ∧ Fits σ σ' [] [(3, .int .i64 y.2)] [] [] rn | e => Q e σ'))) : Lp F hv Q σ := by
  unfold Lp
  refine ⟨Nat × Int, fun x => spec_l2ValvesOk.l0 x.1 a0_0 a0_1 a0_2 a0_3 x.2 = some r ∧ x.1 < k + 1, fun x => x.1, [], fun x => [(3, .int .i64 x.2)], fun x => [], fun x => [], ⟨(k, x3), rn, ⟨H, Nat.lt_succ_self _⟩, h1⟩, ?_⟩
  rintro ⟨k, x3⟩ ⟨H, hk⟩
  exact h2 k x3 hk H
theorem spec_l2ValvesOk.ac {k : Nat} {a0_0 : List ByteArray} {a0_1 : List S_impl_PlantFoe} {a0_2 : List S_impl_PlantPlace} {a0_3 : List S_impl_PlantValve} {r : Bool} (H : spec_l2ValvesOk.f k a0_0 a0_1 a0_2 a0_3 = some r) : ACalls Try.prog G 189 [] [.agg [(sv_str a0_0), (sv_S_impl_PlantFoe a0_1), (sv_S_impl_PlantPlace a0_2), (sv_S_impl_PlantValve a0_3)]] [] (.bool r) := by
  refine acalls_of tok hP Try.func189 rfl (by kernel_rfl) [.tmp 2] rfl (by kernel_rfl) (Nat.le_of_ble_eq_true rfl) (.l .n (.l .n (.l (.l .n (.l (.c .n .n) (.l (.l .n (.c .n (.l (.c .n .n) .n))) .n))) .n))) rfl ?_
  unfold spec_l2ValvesOk.f at H
  conv => whnf
  refine br_d H (fun c H => ?_) (fun c H => ?_)
  conv => whnf
  injection H with H; subst H
  exact ret_fz [] (rtA_eq rfl)
  conv => whnf
  refine spec_l2ValvesOk.l0_lp (a0_0 := a0_0) (a0_1 := a0_1) (a0_2 := a0_2) (a0_3 := a0_3) (k := k) H [] (fits_of ⟨.inl ⟨rfl, rfl⟩, trivial⟩ trivial fi_ trivial rfl) ?_
  intro k x3 hk H; rcases k with _ | k; exact none_elim H; rw [spec_l2ValvesOk.l0] at H; conv => whnf
  refine cut_ 96 [(1, .bp 0 0), (3, .int .i64 x3), (13, .bool (decide (x3 < (a0_3.length : Int))))] [(0, .box [(sv_str a0_0), (sv_S_impl_PlantFoe a0_1), (sv_S_impl_PlantPlace a0_2), (sv_S_impl_PlantValve a0_3)])] rfl ⟨.inl rfl, ⟨.inl rfl, ⟨.inl rfl, trivial⟩⟩⟩ ⟨rfl, trivial⟩ ?_
  conv => whnf
  refine br_d H (fun c H => ?_) (fun c H => ?_)
  conv => whnf
  refine nd_ H (fun c H => ?_)
  conv => whnf
  refine Nd.mk nf_ ?_
  conv => whnf
  refine El.mk (rdm_en_S_impl_PlantValve _ _ nf_ nf_) ?_
  conv => whnf
  revert H; refine bind_elim (fun t214 A H => ?_)
  refine call_mk (spec_l2NameOk.ac A) (avAL_cons (avA_shut' rfl) (avAL_nil)) (Or.inl rfl) rfl rfl (Nat.le_of_ble_eq_true rfl) ?_
  conv => whnf
  refine br_nt H (fun c H => ?_) (fun c H => ?_)
  conv => whnf
  refine Br.f ff_ ?_
  conv => whnf
  refine Br.f ff_ ?_
  conv => whnf
  refine br_d H (fun c H => ?_) (fun c H => ?_)
  conv => whnf
  refine Br.t ft_ ?_
  conv => whnf
  refine Br.t ft_ ?_
  conv => whnf
  refine Br.t ft_ ?_
  conv => whnf
  refine Br.t ft_ ?_
  conv => whnf
  refine nd_ H (fun c H => ?_)
  conv => whnf
  refine nd_ H (fun c H => ?_)
  conv => whnf
  refine El.mk (rdm_en_S_impl_PlantValve _ _ nf_ nf_) ?_
  conv => whnf
  refine Br.t ft_ ?_
  conv => whnf
  refine Br.t ft_ ?_
  conv => whnf
  refine Br.t ft_ ?_
  conv => whnf
  refine Br.t ft_ ?_
  conv => whnf
  refine Br.t ft_ ?_
  conv => whnf
  refine Br.f ff_ ?_
  conv => whnf
  refine Br.t ft_ ?_
  conv => whnf
  refine Br.f ff_ ?_
  conv => whnf
  refine br_nt H (fun c H => ?_) (fun c H => ?_)
  conv => whnf
  refine Br.f ff_ ?_
  conv => whnf
  refine Br.f ff_ ?_
  conv => whnf
  refine Br.f ff_ ?_
  conv => whnf
  refine Br.f ff_ ?_
  conv => whnf
  refine Br.f ff_ ?_
  conv => whnf
  refine br_nt H (fun c H => ?_) (fun c H => ?_)
  conv => whnf
  refine Br.f ff_ ?_
  conv => whnf
  refine Br.f ff_ ?_
  conv => whnf
  refine Br.f ff_ ?_
  conv => whnf
  revert H; refine bind_elim (fun t215 A H => ?_)
  refine call_mk (spec_l2Place.ac A) (avAL_cons (avA_agg (avL_cons (av_shut' rfl) (avL_cons (av_shut' rfl) (avL_cons (av_shut' rfl) (avL_cons (av_shut' rfl) (avL_nil)))))) (avAL_cons (avA_shut' rfl) (avAL_nil))) (Or.inl rfl) rfl rfl (Nat.le_of_ble_eq_true rfl) ?_
  conv => whnf
  refine Br.f ff_ ?_
  conv => whnf
  refine Br.f ff_ ?_
  conv => whnf
  refine br_d H (fun c H => ?_) (fun c H => ?_)
  conv => whnf
  refine Br.t ft_ ?_
  conv => whnf
  refine Br.t ft_ ?_
  conv => whnf
  refine Br.t ft_ ?_
  conv => whnf
  refine Br.t ft_ ?_
  conv => whnf
  refine Br.t ft_ ?_
  conv => whnf
  refine Br.t rfl ?_
  conv => whnf
  refine Br.t rfl ?_
  conv => whnf
  refine Br.t rfl ?_
  conv => whnf
  refine Br.t rfl ?_
  conv => whnf
  refine Br.t rfl ?_
  conv => whnf
  refine cut_ 528 [(1, .bp 0 0), (3, .int .i64 x3), (67, .bool true)] [(0, .box [(sv_str a0_0), (sv_S_impl_PlantFoe a0_1), (sv_S_impl_PlantPlace a0_2), (sv_S_impl_PlantValve a0_3)])] rfl ⟨.inl rfl, ⟨.inl rfl, ⟨.inl rfl, trivial⟩⟩⟩ ⟨rfl, trivial⟩ ?_
  conv => whnf
  refine Br.t rfl ?_
  conv => whnf
  refine cut_ 536 [(2, .bool false)] [] rfl ⟨.inl rfl, trivial⟩ trivial ?_
  conv => whnf
  injection H with H; subst H
  exact ret_fz [] (rtA_eq rfl)
  conv => whnf
  refine Br.f ff_ ?_
  conv => whnf
  refine Br.f ff_ ?_
  conv => whnf
  refine Br.f ff_ ?_
  conv => whnf
  revert H; refine bind_elim (fun t216 A H => ?_)
  refine call_mk (spec_l2Place.ac A) (avAL_cons (avA_agg (avL_cons (av_shut' rfl) (avL_cons (av_shut' rfl) (avL_cons (av_shut' rfl) (avL_cons (av_shut' rfl) (avL_nil)))))) (avAL_cons (avA_shut' rfl) (avAL_nil))) (Or.inl rfl) rfl rfl (Nat.le_of_ble_eq_true rfl) ?_
  conv => whnf
  refine Br.f ff_ ?_
  conv => whnf
  refine Br.f ff_ ?_
  conv => whnf
  refine br_d H (fun c H => ?_) (fun c H => ?_)
  conv => whnf
  refine Br.t ft_ ?_
  conv => whnf
  refine Br.t ft_ ?_
  conv => whnf
  refine Br.t ft_ ?_
  conv => whnf
  refine Br.t ft_ ?_
  conv => whnf
  refine cut_ 528 [(1, .bp 0 0), (3, .int .i64 x3), (67, .bool true)] [(0, .box [(sv_str a0_0), (sv_S_impl_PlantFoe a0_1), (sv_S_impl_PlantPlace a0_2), (sv_S_impl_PlantValve a0_3)])] rfl ⟨.inl rfl, ⟨.inl rfl, ⟨.inl rfl, trivial⟩⟩⟩ ⟨rfl, trivial⟩ ?_
  conv => whnf
  refine Br.t rfl ?_
  conv => whnf
  refine cut_ 536 [(2, .bool false)] [] rfl ⟨.inl rfl, trivial⟩ trivial ?_
  conv => whnf
  injection H with H; subst H
  exact ret_fz [] (rtA_eq rfl)
  conv => whnf
  refine Br.f ff_ ?_
  conv => whnf
  refine Br.f ff_ ?_
  conv => whnf
  revert H; refine bind_elim (fun t217 A H => ?_)
  refine call_mk (spec_l2NameOk.ac A) (avAL_cons (avA_shut' rfl) (avAL_nil)) (Or.inl rfl) rfl rfl (Nat.le_of_ble_eq_true rfl) ?_
  conv => whnf
  refine Br.f ff_ ?_
  conv => whnf
  refine Br.f ff_ ?_
  conv => whnf
  refine cut_ 528 [(1, .bp 0 0), (3, .int .i64 x3), (67, .bool (!t217))] [(0, .box [(sv_str a0_0), (sv_S_impl_PlantFoe a0_1), (sv_S_impl_PlantPlace a0_2), (sv_S_impl_PlantValve a0_3)])] rfl ⟨.inl rfl, ⟨.inl rfl, ⟨.inl rfl, trivial⟩⟩⟩ ⟨rfl, trivial⟩ ?_
  conv => whnf
  refine br_nt H (fun c H => ?_) (fun c H => ?_)
  conv => whnf
  exact ⟨(k, wrap64 (x3 + 1)), [], ⟨H, lt_⟩, lt_, (fits_of ⟨.inl ⟨rfl, rfl⟩, trivial⟩ trivial fi_ trivial rfl)⟩
  conv => whnf
  refine cut_ 536 [(2, .bool false)] [] rfl ⟨.inl rfl, trivial⟩ trivial ?_
  conv => whnf
  injection H with H; subst H
  exact ret_fz [] (rtA_eq rfl)
  conv => whnf
  refine Br.t ft_ ?_
  conv => whnf
  refine Br.t ft_ ?_
  conv => whnf
  refine Br.t ft_ ?_
  conv => whnf
  refine Br.t ft_ ?_
  conv => whnf
  refine Br.t ft_ ?_
  conv => whnf
  refine Br.t rfl ?_
  conv => whnf
  refine Br.t rfl ?_
  conv => whnf
  refine Br.t rfl ?_
  conv => whnf
  refine Br.t rfl ?_
  conv => whnf
  refine Br.t rfl ?_
  conv => whnf
  refine Br.t rfl ?_
  conv => whnf
  refine Br.t rfl ?_
  conv => whnf
  refine Br.t rfl ?_
  conv => whnf
  refine Br.t rfl ?_
  conv => whnf
  refine Br.t rfl ?_
  conv => whnf
  refine Br.t rfl ?_
  conv => whnf
  refine cut_ 528 [(1, .bp 0 0), (3, .int .i64 x3), (67, .bool true)] [(0, .box [(sv_str a0_0), (sv_S_impl_PlantFoe a0_1), (sv_S_impl_PlantPlace a0_2), (sv_S_impl_PlantValve a0_3)])] rfl ⟨.inl rfl, ⟨.inl rfl, ⟨.inl rfl, trivial⟩⟩⟩ ⟨rfl, trivial⟩ ?_
  conv => whnf
  refine Br.t rfl ?_
  conv => whnf
  refine cut_ 536 [(2, .bool false)] [] rfl ⟨.inl rfl, trivial⟩ trivial ?_
  conv => whnf
  injection H with H; subst H
  exact ret_fz [] (rtA_eq rfl)
  conv => whnf
  refine Br.t ft_ ?_
  conv => whnf
  refine Br.t ft_ ?_
  conv => whnf
  refine Br.t ft_ ?_
  conv => whnf
  refine Br.t ft_ ?_
  conv => whnf
  refine Br.t ft_ ?_
  conv => whnf
  refine Br.t rfl ?_
  conv => whnf
  refine Br.t rfl ?_
  conv => whnf
  refine Br.t rfl ?_
  conv => whnf
  refine Br.t rfl ?_
  conv => whnf
  refine Br.t rfl ?_
  conv => whnf
  refine Br.t rfl ?_
  conv => whnf
  refine Br.t rfl ?_
  conv => whnf
  refine Br.t rfl ?_
  conv => whnf
  refine Br.t rfl ?_
  conv => whnf
  refine Br.t rfl ?_
  conv => whnf
  refine Br.t rfl ?_
  conv => whnf
  refine Br.t rfl ?_
  conv => whnf
  refine Br.t rfl ?_
  conv => whnf
  refine Br.t rfl ?_
  conv => whnf
  refine Br.t rfl ?_
  conv => whnf
  refine Br.t rfl ?_
  conv => whnf
  refine Br.t rfl ?_
  conv => whnf
  refine cut_ 528 [(1, .bp 0 0), (3, .int .i64 x3), (67, .bool true)] [(0, .box [(sv_str a0_0), (sv_S_impl_PlantFoe a0_1), (sv_S_impl_PlantPlace a0_2), (sv_S_impl_PlantValve a0_3)])] rfl ⟨.inl rfl, ⟨.inl rfl, ⟨.inl rfl, trivial⟩⟩⟩ ⟨rfl, trivial⟩ ?_
  conv => whnf
  refine Br.t rfl ?_
  conv => whnf
  refine cut_ 536 [(2, .bool false)] [] rfl ⟨.inl rfl, trivial⟩ trivial ?_
  conv => whnf
  injection H with H; subst H
  exact ret_fz [] (rtA_eq rfl)
  conv => whnf
  refine Br.f ff_ ?_
  conv => whnf
  refine Br.f ff_ ?_
  conv => whnf
  refine Br.f ff_ ?_
  conv => whnf
  refine Br.f ff_ ?_
  conv => whnf
  refine Br.f ff_ ?_
  conv => whnf
  refine Br.f ff_ ?_
  conv => whnf
  refine Br.f ff_ ?_
  conv => whnf
  refine Br.f ff_ ?_
  conv => whnf
  refine Br.f ff_ ?_
  conv => whnf
  refine Br.f ff_ ?_
  conv => whnf
  refine Br.f ff_ ?_
  conv => whnf
  refine Br.f ff_ ?_
  conv => whnf
  refine Br.f rfl ?_
  conv => whnf
  refine Br.f rfl ?_
  conv => whnf
  refine Br.f rfl ?_
  conv => whnf
  refine Br.f rfl ?_
  conv => whnf
  refine Br.f rfl ?_
  conv => whnf
  refine Br.f rfl ?_
  conv => whnf
  refine br_nt H (fun c H => ?_) (fun c H => ?_)
  conv => whnf
  refine Br.f ff_ ?_
  conv => whnf
  refine Br.f ff_ ?_
  conv => whnf
  refine Br.f ff_ ?_
  conv => whnf
  revert H; refine bind_elim (fun t218 A H => ?_)
  refine call_mk (spec_l2Place.ac A) (avAL_cons (avA_agg (avL_cons (av_shut' rfl) (avL_cons (av_shut' rfl) (avL_cons (av_shut' rfl) (avL_cons (av_shut' rfl) (avL_nil)))))) (avAL_cons (avA_shut' rfl) (avAL_nil))) (Or.inl rfl) rfl rfl (Nat.le_of_ble_eq_true rfl) ?_
  conv => whnf
  refine Br.f ff_ ?_
  conv => whnf
  refine Br.f ff_ ?_
  conv => whnf
  refine br_d H (fun c H => ?_) (fun c H => ?_)
  conv => whnf
  refine Br.t ft_ ?_
  conv => whnf
  refine Br.t ft_ ?_
  conv => whnf
  refine Br.t ft_ ?_
  conv => whnf
  refine Br.t ft_ ?_
  conv => whnf
  refine Br.t ft_ ?_
  conv => whnf
  refine Br.t rfl ?_
  conv => whnf
  refine Br.t rfl ?_
  conv => whnf
  refine Br.t rfl ?_
  conv => whnf
  refine Br.t rfl ?_
  conv => whnf
  refine Br.t rfl ?_
  conv => whnf
  refine cut_ 528 [(1, .bp 0 0), (3, .int .i64 x3), (67, .bool true)] [(0, .box [(sv_str a0_0), (sv_S_impl_PlantFoe a0_1), (sv_S_impl_PlantPlace a0_2), (sv_S_impl_PlantValve a0_3)])] rfl ⟨.inl rfl, ⟨.inl rfl, ⟨.inl rfl, trivial⟩⟩⟩ ⟨rfl, trivial⟩ ?_
  conv => whnf
  refine Br.t rfl ?_
  conv => whnf
  refine cut_ 536 [(2, .bool false)] [] rfl ⟨.inl rfl, trivial⟩ trivial ?_
  conv => whnf
  injection H with H; subst H
  exact ret_fz [] (rtA_eq rfl)
  conv => whnf
  refine Br.f ff_ ?_
  conv => whnf
  refine Br.f ff_ ?_
  conv => whnf
  refine Br.f ff_ ?_
  conv => whnf
  revert H; refine bind_elim (fun t219 A H => ?_)
  refine call_mk (spec_l2Place.ac A) (avAL_cons (avA_agg (avL_cons (av_shut' rfl) (avL_cons (av_shut' rfl) (avL_cons (av_shut' rfl) (avL_cons (av_shut' rfl) (avL_nil)))))) (avAL_cons (avA_shut' rfl) (avAL_nil))) (Or.inl rfl) rfl rfl (Nat.le_of_ble_eq_true rfl) ?_
  conv => whnf
  refine Br.f ff_ ?_
  conv => whnf
  refine Br.f ff_ ?_
  conv => whnf
  refine br_d H (fun c H => ?_) (fun c H => ?_)
  conv => whnf
  refine Br.t ft_ ?_
  conv => whnf
  refine Br.t ft_ ?_
  conv => whnf
  refine Br.t ft_ ?_
  conv => whnf
  refine Br.t ft_ ?_
  conv => whnf
  refine cut_ 528 [(1, .bp 0 0), (3, .int .i64 x3), (67, .bool true)] [(0, .box [(sv_str a0_0), (sv_S_impl_PlantFoe a0_1), (sv_S_impl_PlantPlace a0_2), (sv_S_impl_PlantValve a0_3)])] rfl ⟨.inl rfl, ⟨.inl rfl, ⟨.inl rfl, trivial⟩⟩⟩ ⟨rfl, trivial⟩ ?_
  conv => whnf
  refine Br.t rfl ?_
  conv => whnf
  refine cut_ 536 [(2, .bool false)] [] rfl ⟨.inl rfl, trivial⟩ trivial ?_
  conv => whnf
  injection H with H; subst H
  exact ret_fz [] (rtA_eq rfl)
  conv => whnf
  refine Br.f ff_ ?_
  conv => whnf
  refine Br.f ff_ ?_
  conv => whnf
  revert H; refine bind_elim (fun t220 A H => ?_)
  refine call_mk (spec_l2NameOk.ac A) (avAL_cons (avA_shut' rfl) (avAL_nil)) (Or.inl rfl) rfl rfl (Nat.le_of_ble_eq_true rfl) ?_
  conv => whnf
  refine Br.f ff_ ?_
  conv => whnf
  refine Br.f ff_ ?_
  conv => whnf
  refine cut_ 528 [(1, .bp 0 0), (3, .int .i64 x3), (67, .bool (!t220))] [(0, .box [(sv_str a0_0), (sv_S_impl_PlantFoe a0_1), (sv_S_impl_PlantPlace a0_2), (sv_S_impl_PlantValve a0_3)])] rfl ⟨.inl rfl, ⟨.inl rfl, ⟨.inl rfl, trivial⟩⟩⟩ ⟨rfl, trivial⟩ ?_
  conv => whnf
  refine br_nt H (fun c H => ?_) (fun c H => ?_)
  conv => whnf
  exact ⟨(k, wrap64 (x3 + 1)), [], ⟨H, lt_⟩, lt_, (fits_of ⟨.inl ⟨rfl, rfl⟩, trivial⟩ trivial fi_ trivial rfl)⟩
  conv => whnf
  refine cut_ 536 [(2, .bool false)] [] rfl ⟨.inl rfl, trivial⟩ trivial ?_
  conv => whnf
  injection H with H; subst H
  exact ret_fz [] (rtA_eq rfl)
  conv => whnf
  refine Br.t ft_ ?_
  conv => whnf
  refine Br.t ft_ ?_
  conv => whnf
  refine Br.t ft_ ?_
  conv => whnf
  refine Br.t ft_ ?_
  conv => whnf
  refine Br.t ft_ ?_
  conv => whnf
  refine Br.t rfl ?_
  conv => whnf
  refine Br.t rfl ?_
  conv => whnf
  refine Br.t rfl ?_
  conv => whnf
  refine Br.t rfl ?_
  conv => whnf
  refine Br.t rfl ?_
  conv => whnf
  refine Br.t rfl ?_
  conv => whnf
  refine Br.t rfl ?_
  conv => whnf
  refine Br.t rfl ?_
  conv => whnf
  refine Br.t rfl ?_
  conv => whnf
  refine Br.t rfl ?_
  conv => whnf
  refine Br.t rfl ?_
  conv => whnf
  refine cut_ 528 [(1, .bp 0 0), (3, .int .i64 x3), (67, .bool true)] [(0, .box [(sv_str a0_0), (sv_S_impl_PlantFoe a0_1), (sv_S_impl_PlantPlace a0_2), (sv_S_impl_PlantValve a0_3)])] rfl ⟨.inl rfl, ⟨.inl rfl, ⟨.inl rfl, trivial⟩⟩⟩ ⟨rfl, trivial⟩ ?_
  conv => whnf
  refine Br.t rfl ?_
  conv => whnf
  refine cut_ 536 [(2, .bool false)] [] rfl ⟨.inl rfl, trivial⟩ trivial ?_
  conv => whnf
  injection H with H; subst H
  exact ret_fz [] (rtA_eq rfl)
  conv => whnf
  refine Br.t ft_ ?_
  conv => whnf
  refine Br.t ft_ ?_
  conv => whnf
  refine Br.t ft_ ?_
  conv => whnf
  refine Br.t ft_ ?_
  conv => whnf
  refine Br.t rfl ?_
  conv => whnf
  refine Br.t rfl ?_
  conv => whnf
  refine Br.t rfl ?_
  conv => whnf
  refine Br.t rfl ?_
  conv => whnf
  refine Br.t rfl ?_
  conv => whnf
  refine Br.t rfl ?_
  conv => whnf
  refine Br.t rfl ?_
  conv => whnf
  refine Br.t rfl ?_
  conv => whnf
  refine Br.t rfl ?_
  conv => whnf
  refine Br.t rfl ?_
  conv => whnf
  refine Br.t rfl ?_
  conv => whnf
  refine Br.t rfl ?_
  conv => whnf
  refine Br.t rfl ?_
  conv => whnf
  refine Br.t rfl ?_
  conv => whnf
  refine Br.t rfl ?_
  conv => whnf
  refine Br.t rfl ?_
  conv => whnf
  refine Br.t rfl ?_
  conv => whnf
  refine Br.t rfl ?_
  conv => whnf
  refine Br.t rfl ?_
  conv => whnf
  refine Br.t rfl ?_
  conv => whnf
  refine Br.t rfl ?_
  conv => whnf
  refine Br.t rfl ?_
  conv => whnf
  refine Br.t rfl ?_
  conv => whnf
  refine cut_ 528 [(1, .bp 0 0), (3, .int .i64 x3), (67, .bool true)] [(0, .box [(sv_str a0_0), (sv_S_impl_PlantFoe a0_1), (sv_S_impl_PlantPlace a0_2), (sv_S_impl_PlantValve a0_3)])] rfl ⟨.inl rfl, ⟨.inl rfl, ⟨.inl rfl, trivial⟩⟩⟩ ⟨rfl, trivial⟩ ?_
  conv => whnf
  refine Br.t rfl ?_
  conv => whnf
  refine cut_ 536 [(2, .bool false)] [] rfl ⟨.inl rfl, trivial⟩ trivial ?_
  conv => whnf
  injection H with H; subst H
  exact ret_fz [] (rtA_eq rfl)
  conv => whnf
  injection H with H; subst H
  exact ret_fz [] (rtA_eq rfl)
theorem spec_PlantValid.ac {k : Nat} {a0_0 : List ByteArray} {a0_1 : List S_impl_PlantFoe} {a0_2 : List S_impl_PlantPlace} {a0_3 : List S_impl_PlantValve} {r : Bool} (H : spec_PlantValid.f k a0_0 a0_1 a0_2 a0_3 = some r) : ACalls Try.prog G 119 [] [.agg [(sv_str a0_0), (sv_S_impl_PlantFoe a0_1), (sv_S_impl_PlantPlace a0_2), (sv_S_impl_PlantValve a0_3)]] [] (.bool r) := by
  refine acalls_of tok hP Try.func119 rfl (by kernel_rfl) [.tmp 2] rfl (by kernel_rfl) (Nat.le_of_ble_eq_true rfl) (.l .n (.c .n .n)) rfl ?_
  unfold spec_PlantValid.f at H
  conv => whnf
  revert H; refine bind_elim (fun t224 A H => ?_)
  refine call_mk (spec_l2StuffsOk.ac A) (avAL_cons (avA_agg (avL_cons (av_shut' rfl) (avL_cons (av_shut' rfl) (avL_cons (av_shut' rfl) (avL_cons (av_shut' rfl) (avL_nil)))))) (avAL_nil)) (Or.inl rfl) rfl rfl (Nat.le_of_ble_eq_true rfl) ?_
  conv => whnf
  refine br_t H (fun c H => ?_) (fun c H => ?_)
  conv => whnf
  refine Br.t ft_ ?_
  conv => whnf
  revert H; refine bind_elim (fun t225 A H => ?_)
  refine call_mk (spec_l2PlacesOk.ac A) (avAL_cons (avA_agg (avL_cons (av_shut' rfl) (avL_cons (av_shut' rfl) (avL_cons (av_shut' rfl) (avL_cons (av_shut' rfl) (avL_nil)))))) (avAL_nil)) (Or.inl rfl) rfl rfl (Nat.le_of_ble_eq_true rfl) ?_
  conv => whnf
  refine Br.t ft_ ?_
  conv => whnf
  refine br_t H (fun c H => ?_) (fun c H => ?_)
  conv => whnf
  refine Br.t ft_ ?_
  conv => whnf
  revert H; refine bind_elim (fun t226 A H => ?_)
  refine call_mk (spec_l2ValvesOk.ac A) (avAL_cons (avA_agg (avL_cons (av_shut' rfl) (avL_cons (av_shut' rfl) (avL_cons (av_shut' rfl) (avL_cons (av_shut' rfl) (avL_nil)))))) (avAL_nil)) (Or.inl rfl) rfl rfl (Nat.le_of_ble_eq_true rfl) ?_
  conv => whnf
  refine Br.t ft_ ?_
  conv => whnf
  refine cut_ 104 [(2, .bool t226)] [] rfl ⟨.inl rfl, trivial⟩ trivial ?_
  conv => whnf
  injection H with H; subst H
  exact ret_fz [] (rtA_eq rfl)
  conv => whnf
  refine Br.f ff_ ?_
  conv => whnf
  refine Br.f ff_ ?_
  conv => whnf
  refine cut_ 104 [(2, .bool false)] [] rfl ⟨.inl rfl, trivial⟩ trivial ?_
  conv => whnf
  injection H with H; subst H
  exact ret_fz [] (rtA_eq rfl)
  conv => whnf
  refine Br.f ff_ ?_
  conv => whnf
  refine Br.f ff_ ?_
  conv => whnf
  refine Br.f rfl ?_
  conv => whnf
  refine Br.f rfl ?_
  conv => whnf
  refine Br.f rfl ?_
  conv => whnf
  refine cut_ 104 [(2, .bool false)] [] rfl ⟨.inl rfl, trivial⟩ trivial ?_
  conv => whnf
  injection H with H; subst H
  exact ret_fz [] (rtA_eq rfl)
theorem spec_CtlBook.l2_lp {F : (Exit → St → Prop) → St → Prop} {hv : List Tmp} {Q : Exit → St → Prop} {σ : St} {r : (List S_impl_ClaimFoe) × (List S_impl_ClaimSpot) × (List ByteArray) × (List S_impl_ClaimPart) × Int} {k : Nat} {a0_3 : List S_impl_PlantValve} {a1 : ByteArray} {x8 : Int} {x1024000_2 : List S_impl_ClaimFoe} {x1024001_2 : List S_impl_ClaimSpot} {x1024002_2 : List ByteArray} {x1024003_2 : List S_impl_ClaimPart} {x1024004_2 : Int} (H : spec_CtlBook.l2 k a0_3 a1 x8 x1024000_2 x1024001_2 x1024002_2 x1024003_2 x1024004_2 = some r) (rn : List (Option Nat)) (h1 : Fits σ σ [24, 124, 125, 126, 127] [(8, .int .i64 x8)] [(24, .box [.own 0 x1024000_2.length, .own 1 x1024001_2.length, .own 2 x1024002_2.length, .own 3 x1024003_2.length, .int .i64 x1024004_2])] [.arr 171 2 (x1024000_2.map en_S_impl_ClaimFoe), .arr 150 5 (x1024001_2.map en_S_impl_ClaimSpot), .arr 9 1 (x1024002_2.map en_str), .arr 156 7 (x1024003_2.map en_S_impl_ClaimPart)] rn)
    (h2 : ∀ (k0 : Nat) (x8 : Int) (x1024000_2 : List S_impl_ClaimFoe) (x1024001_2 : List S_impl_ClaimSpot) (x1024002_2 : List ByteArray) (x1024003_2 : List S_impl_ClaimPart) (x1024004_2 : Int), k0 < k + 1 → spec_CtlBook.l2 k0 a0_3 a1 x8 x1024000_2 x1024001_2 x1024002_2 x1024003_2 x1024004_2 = some r → headN σ hv [24, 124, 125, 126, 127] [(8, .int .i64 x8)] [(24, .box [.own 0 x1024000_2.length, .own 1 x1024001_2.length, .own 2 x1024002_2.length, .own 3 x1024003_2.length, .int .i64 x1024004_2])] [.arr 171 2 (x1024000_2.map en_S_impl_ClaimFoe), .arr 150 5 (x1024001_2.map en_S_impl_ClaimSpot), .arr 9 1 (x1024002_2.map en_str), .arr 156 7 (x1024003_2.map en_S_impl_ClaimPart)] (F (fun e σ' => match e with | .normal => ∃ (y : Nat × Int × (List S_impl_ClaimFoe) × (List S_impl_ClaimSpot) × (List ByteArray) × (List S_impl_ClaimPart) × Int) (rn : List (Option Nat)), (spec_CtlBook.l2 y.1 a0_3 a1 y.2.1 y.2.2.1 y.2.2.2.1 y.2.2.2.2.1 y.2.2.2.2.2.1 y.2.2.2.2.2.2 = some r ∧ y.1 < k + 1) ∧ y.1 < k0 ∧ Fits σ σ' [24, 124, 125, 126, 127] [(8, .int .i64 y.2.1)] [(24, .box [.own 0 y.2.2.1.length, .own 1 y.2.2.2.1.length, .own 2 y.2.2.2.2.1.length, .own 3 y.2.2.2.2.2.1.length, .int .i64 y.2.2.2.2.2.2])] [.arr 171 2 (y.2.2.1.map en_S_impl_ClaimFoe), .arr 150 5 (y.2.2.2.1.map en_S_impl_ClaimSpot), .arr 9 1 (y.2.2.2.2.1.map en_str), .arr 156 7 (y.2.2.2.2.2.1.map en_S_impl_ClaimPart)] rn | e => Q e σ'))) : Lp F hv Q σ := by
  unfold Lp
  refine ⟨Nat × Int × (List S_impl_ClaimFoe) × (List S_impl_ClaimSpot) × (List ByteArray) × (List S_impl_ClaimPart) × Int, fun x => spec_CtlBook.l2 x.1 a0_3 a1 x.2.1 x.2.2.1 x.2.2.2.1 x.2.2.2.2.1 x.2.2.2.2.2.1 x.2.2.2.2.2.2 = some r ∧ x.1 < k + 1, fun x => x.1, [24, 124, 125, 126, 127], fun x => [(8, .int .i64 x.2.1)], fun x => [(24, .box [.own 0 x.2.2.1.length, .own 1 x.2.2.2.1.length, .own 2 x.2.2.2.2.1.length, .own 3 x.2.2.2.2.2.1.length, .int .i64 x.2.2.2.2.2.2])], fun x => [.arr 171 2 (x.2.2.1.map en_S_impl_ClaimFoe), .arr 150 5 (x.2.2.2.1.map en_S_impl_ClaimSpot), .arr 9 1 (x.2.2.2.2.1.map en_str), .arr 156 7 (x.2.2.2.2.2.1.map en_S_impl_ClaimPart)], ⟨(k, x8, x1024000_2, x1024001_2, x1024002_2, x1024003_2, x1024004_2), rn, ⟨H, Nat.lt_succ_self _⟩, h1⟩, ?_⟩
  rintro ⟨k, x8, x1024000_2, x1024001_2, x1024002_2, x1024003_2, x1024004_2⟩ ⟨H, hk⟩
  exact h2 k x8 x1024000_2 x1024001_2 x1024002_2 x1024003_2 x1024004_2 hk H
theorem spec_CtlBook.l1_lp {F : (Exit → St → Prop) → St → Prop} {hv : List Tmp} {Q : Exit → St → Prop} {σ : St} {r : (List S_impl_ClaimFoe) × (List S_impl_ClaimSpot) × (List ByteArray) × (List S_impl_ClaimPart) × Int} {k : Nat} {a0_2 : List S_impl_PlantPlace} {a0_3 : List S_impl_PlantValve} {a1 : ByteArray} {x7 : Int} {x1024000_1 : List S_impl_ClaimFoe} {x1024001_1 : List S_impl_ClaimSpot} {x1024002_1 : List ByteArray} {x1024003_1 : List S_impl_ClaimPart} {x1024004_1 : Int} (H : spec_CtlBook.l1 k a0_2 a0_3 a1 x7 x1024000_1 x1024001_1 x1024002_1 x1024003_1 x1024004_1 = some r) (rn : List (Option Nat)) (h1 : Fits σ σ [24, 72, 73, 74, 75] [(7, .int .i64 x7)] [(24, .box [.own 0 x1024000_1.length, .own 1 x1024001_1.length, .own 2 x1024002_1.length, .own 3 x1024003_1.length, .int .i64 x1024004_1])] [.arr 171 2 (x1024000_1.map en_S_impl_ClaimFoe), .arr 150 5 (x1024001_1.map en_S_impl_ClaimSpot), .arr 9 1 (x1024002_1.map en_str), .arr 156 7 (x1024003_1.map en_S_impl_ClaimPart)] rn)
    (h2 : ∀ (k0 : Nat) (x7 : Int) (x1024000_1 : List S_impl_ClaimFoe) (x1024001_1 : List S_impl_ClaimSpot) (x1024002_1 : List ByteArray) (x1024003_1 : List S_impl_ClaimPart) (x1024004_1 : Int), k0 < k + 1 → spec_CtlBook.l1 k0 a0_2 a0_3 a1 x7 x1024000_1 x1024001_1 x1024002_1 x1024003_1 x1024004_1 = some r → headN σ hv [24, 72, 73, 74, 75] [(7, .int .i64 x7)] [(24, .box [.own 0 x1024000_1.length, .own 1 x1024001_1.length, .own 2 x1024002_1.length, .own 3 x1024003_1.length, .int .i64 x1024004_1])] [.arr 171 2 (x1024000_1.map en_S_impl_ClaimFoe), .arr 150 5 (x1024001_1.map en_S_impl_ClaimSpot), .arr 9 1 (x1024002_1.map en_str), .arr 156 7 (x1024003_1.map en_S_impl_ClaimPart)] (F (fun e σ' => match e with | .normal => ∃ (y : Nat × Int × (List S_impl_ClaimFoe) × (List S_impl_ClaimSpot) × (List ByteArray) × (List S_impl_ClaimPart) × Int) (rn : List (Option Nat)), (spec_CtlBook.l1 y.1 a0_2 a0_3 a1 y.2.1 y.2.2.1 y.2.2.2.1 y.2.2.2.2.1 y.2.2.2.2.2.1 y.2.2.2.2.2.2 = some r ∧ y.1 < k + 1) ∧ y.1 < k0 ∧ Fits σ σ' [24, 72, 73, 74, 75] [(7, .int .i64 y.2.1)] [(24, .box [.own 0 y.2.2.1.length, .own 1 y.2.2.2.1.length, .own 2 y.2.2.2.2.1.length, .own 3 y.2.2.2.2.2.1.length, .int .i64 y.2.2.2.2.2.2])] [.arr 171 2 (y.2.2.1.map en_S_impl_ClaimFoe), .arr 150 5 (y.2.2.2.1.map en_S_impl_ClaimSpot), .arr 9 1 (y.2.2.2.2.1.map en_str), .arr 156 7 (y.2.2.2.2.2.1.map en_S_impl_ClaimPart)] rn | e => Q e σ'))) : Lp F hv Q σ := by
  unfold Lp
  refine ⟨Nat × Int × (List S_impl_ClaimFoe) × (List S_impl_ClaimSpot) × (List ByteArray) × (List S_impl_ClaimPart) × Int, fun x => spec_CtlBook.l1 x.1 a0_2 a0_3 a1 x.2.1 x.2.2.1 x.2.2.2.1 x.2.2.2.2.1 x.2.2.2.2.2.1 x.2.2.2.2.2.2 = some r ∧ x.1 < k + 1, fun x => x.1, [24, 72, 73, 74, 75], fun x => [(7, .int .i64 x.2.1)], fun x => [(24, .box [.own 0 x.2.2.1.length, .own 1 x.2.2.2.1.length, .own 2 x.2.2.2.2.1.length, .own 3 x.2.2.2.2.2.1.length, .int .i64 x.2.2.2.2.2.2])], fun x => [.arr 171 2 (x.2.2.1.map en_S_impl_ClaimFoe), .arr 150 5 (x.2.2.2.1.map en_S_impl_ClaimSpot), .arr 9 1 (x.2.2.2.2.1.map en_str), .arr 156 7 (x.2.2.2.2.2.1.map en_S_impl_ClaimPart)], ⟨(k, x7, x1024000_1, x1024001_1, x1024002_1, x1024003_1, x1024004_1), rn, ⟨H, Nat.lt_succ_self _⟩, h1⟩, ?_⟩
  rintro ⟨k, x7, x1024000_1, x1024001_1, x1024002_1, x1024003_1, x1024004_1⟩ ⟨H, hk⟩
  exact h2 k x7 x1024000_1 x1024001_1 x1024002_1 x1024003_1 x1024004_1 hk H
theorem spec_CtlBook.l0_lp {F : (Exit → St → Prop) → St → Prop} {hv : List Tmp} {Q : Exit → St → Prop} {σ : St} {r : (List S_impl_ClaimFoe) × (List S_impl_ClaimSpot) × (List ByteArray) × (List S_impl_ClaimPart) × Int} {k : Nat} {a0_1 : List S_impl_PlantFoe} {a0_2 : List S_impl_PlantPlace} {a0_3 : List S_impl_PlantValve} {a1 : ByteArray} {x6 : Int} {x1024000 : List S_impl_ClaimFoe} {x1024001 : List S_impl_ClaimSpot} {x1024002 : List ByteArray} {x1024003 : List S_impl_ClaimPart} {x1024004 : Int} (H : spec_CtlBook.l0 k a0_1 a0_2 a0_3 a1 x6 x1024000 x1024001 x1024002 x1024003 x1024004 = some r) (rn : List (Option Nat)) (h1 : Fits σ σ [24] [(6, .int .i64 x6)] [(24, .box [.own 0 x1024000.length, .own 1 x1024001.length, .own 2 x1024002.length, .own 3 x1024003.length, .int .i64 x1024004])] [.arr 171 2 (x1024000.map en_S_impl_ClaimFoe), .arr 150 5 (x1024001.map en_S_impl_ClaimSpot), .arr 9 1 (x1024002.map en_str), .arr 156 7 (x1024003.map en_S_impl_ClaimPart)] rn)
    (h2 : ∀ (k0 : Nat) (x6 : Int) (x1024000 : List S_impl_ClaimFoe) (x1024001 : List S_impl_ClaimSpot) (x1024002 : List ByteArray) (x1024003 : List S_impl_ClaimPart) (x1024004 : Int), k0 < k + 1 → spec_CtlBook.l0 k0 a0_1 a0_2 a0_3 a1 x6 x1024000 x1024001 x1024002 x1024003 x1024004 = some r → headN σ hv [24] [(6, .int .i64 x6)] [(24, .box [.own 0 x1024000.length, .own 1 x1024001.length, .own 2 x1024002.length, .own 3 x1024003.length, .int .i64 x1024004])] [.arr 171 2 (x1024000.map en_S_impl_ClaimFoe), .arr 150 5 (x1024001.map en_S_impl_ClaimSpot), .arr 9 1 (x1024002.map en_str), .arr 156 7 (x1024003.map en_S_impl_ClaimPart)] (F (fun e σ' => match e with | .normal => ∃ (y : Nat × Int × (List S_impl_ClaimFoe) × (List S_impl_ClaimSpot) × (List ByteArray) × (List S_impl_ClaimPart) × Int) (rn : List (Option Nat)), (spec_CtlBook.l0 y.1 a0_1 a0_2 a0_3 a1 y.2.1 y.2.2.1 y.2.2.2.1 y.2.2.2.2.1 y.2.2.2.2.2.1 y.2.2.2.2.2.2 = some r ∧ y.1 < k + 1) ∧ y.1 < k0 ∧ Fits σ σ' [24] [(6, .int .i64 y.2.1)] [(24, .box [.own 0 y.2.2.1.length, .own 1 y.2.2.2.1.length, .own 2 y.2.2.2.2.1.length, .own 3 y.2.2.2.2.2.1.length, .int .i64 y.2.2.2.2.2.2])] [.arr 171 2 (y.2.2.1.map en_S_impl_ClaimFoe), .arr 150 5 (y.2.2.2.1.map en_S_impl_ClaimSpot), .arr 9 1 (y.2.2.2.2.1.map en_str), .arr 156 7 (y.2.2.2.2.2.1.map en_S_impl_ClaimPart)] rn | e => Q e σ'))) : Lp F hv Q σ := by
  unfold Lp
  refine ⟨Nat × Int × (List S_impl_ClaimFoe) × (List S_impl_ClaimSpot) × (List ByteArray) × (List S_impl_ClaimPart) × Int, fun x => spec_CtlBook.l0 x.1 a0_1 a0_2 a0_3 a1 x.2.1 x.2.2.1 x.2.2.2.1 x.2.2.2.2.1 x.2.2.2.2.2.1 x.2.2.2.2.2.2 = some r ∧ x.1 < k + 1, fun x => x.1, [24], fun x => [(6, .int .i64 x.2.1)], fun x => [(24, .box [.own 0 x.2.2.1.length, .own 1 x.2.2.2.1.length, .own 2 x.2.2.2.2.1.length, .own 3 x.2.2.2.2.2.1.length, .int .i64 x.2.2.2.2.2.2])], fun x => [.arr 171 2 (x.2.2.1.map en_S_impl_ClaimFoe), .arr 150 5 (x.2.2.2.1.map en_S_impl_ClaimSpot), .arr 9 1 (x.2.2.2.2.1.map en_str), .arr 156 7 (x.2.2.2.2.2.1.map en_S_impl_ClaimPart)], ⟨(k, x6, x1024000, x1024001, x1024002, x1024003, x1024004), rn, ⟨H, Nat.lt_succ_self _⟩, h1⟩, ?_⟩
  rintro ⟨k, x6, x1024000, x1024001, x1024002, x1024003, x1024004⟩ ⟨H, hk⟩
  exact h2 k x6 x1024000 x1024001 x1024002 x1024003 x1024004 hk H
theorem spec_CtlBook.ac {k : Nat} {a0_0 : List ByteArray} {a0_1 : List S_impl_PlantFoe} {a0_2 : List S_impl_PlantPlace} {a0_3 : List S_impl_PlantValve} {a1 : ByteArray} {r : (List S_impl_ClaimFoe) × (List S_impl_ClaimSpot) × (List ByteArray) × (List S_impl_ClaimPart) × Int} (H : spec_CtlBook.f k a0_0 a0_1 a0_2 a0_3 a1 = some r) : ACalls Try.prog G 42 [] [.agg [(sv_str a0_0), (sv_S_impl_PlantFoe a0_1), (sv_S_impl_PlantPlace a0_2), (sv_S_impl_PlantValve a0_3)], .str a1] [] (.agg [(sv_S_impl_ClaimFoe r.1), (sv_S_impl_ClaimSpot r.2.1), (sv_str r.2.2.1), (sv_S_impl_ClaimPart r.2.2.2.1), .int .i64 r.2.2.2.2]) := by
  refine acalls_of tok hP Try.func42 rfl (by kernel_rfl) [.cell 4 60] rfl (by kernel_rfl) (Nat.le_of_ble_eq_true rfl) (.l .n (.l .n (.l .n (.l (.l .n (.l (.c .n .n) (.c .n .n))) (.l (.l .n (.l .n (.c (.c .n .n) .n))) (.l (.l .n (.l (.c .n .n) (.c .n .n))) .n)))))) rfl ?_
  unfold spec_CtlBook.f at H
  conv => whnf
  revert H; refine bind_elim (fun t229 A H => ?_)
  refine call_mk (spec_PlantValid.ac A) (avAL_cons (avA_agg (avL_cons (av_shut' rfl) (avL_cons (av_shut' rfl) (avL_cons (av_shut' rfl) (avL_cons (av_shut' rfl) (avL_nil)))))) (avAL_nil)) (Or.inl rfl) rfl rfl (Nat.le_of_ble_eq_true rfl) ?_
  conv => whnf
  refine br_nt H (fun c H => ?_) (fun c H => ?_)
  conv => whnf
  refine spec_CtlBook.l0_lp (a0_1 := a0_1) (a0_2 := a0_2) (a0_3 := a0_3) (a1 := a1) (k := k) H [none, none, none, none] (fits_of ⟨.inl ⟨rfl, rfl⟩, trivial⟩ ⟨⟨_, _, rfl⟩, ⟨⟨_, _, rfl⟩, ⟨⟨_, _, rfl⟩, ⟨⟨_, _, rfl⟩, trivial⟩⟩⟩⟩ fi_ ⟨⟨_, rfl⟩, ⟨_, rfl, ⟨⟨rfl, rfl⟩, ⟨⟨rfl, rfl⟩, ⟨⟨rfl, rfl⟩, ⟨⟨rfl, rfl⟩, ⟨.inl ⟨rfl, rfl⟩, trivial⟩⟩⟩⟩⟩⟩, trivial⟩ rfl) ?_
  intro k x6 x1024000 x1024001 x1024002 x1024003 x1024004 hk H; rcases k with _ | k; exact none_elim H; rw [spec_CtlBook.l0] at H; conv => whnf
  refine cut_ 116 [(1, .str a1), (2, .bp 0 0), (4, .bp 8 0), (5, .bp 24 0), (6, .int .i64 x6), (18, .bool (decide (x6 < (a0_1.length : Int))))] [(0, .box [(sv_str a0_0), (sv_S_impl_PlantFoe a0_1), (sv_S_impl_PlantPlace a0_2), (sv_S_impl_PlantValve a0_3)]), (8, .box [.nil, .nil, .nil, .nil, .int .i64 0]), (24, .box [.own 72 x1024000.length, .own 73 x1024001.length, .own 74 x1024002.length, .own 75 x1024003.length, .int .i64 x1024004]), (72, .arr 171 2 (x1024000.map en_S_impl_ClaimFoe)), (73, .arr 150 5 (x1024001.map en_S_impl_ClaimSpot)), (74, .arr 9 1 (x1024002.map en_str)), (75, .arr 156 7 (x1024003.map en_S_impl_ClaimPart))] rfl ⟨.inl rfl, ⟨.inl rfl, ⟨.inl rfl, ⟨.inl rfl, ⟨.inl rfl, ⟨.inl rfl, trivial⟩⟩⟩⟩⟩⟩ ⟨rfl, ⟨rfl, ⟨rfl, ⟨rfl, ⟨rfl, ⟨rfl, ⟨rfl, trivial⟩⟩⟩⟩⟩⟩⟩ ?_
  conv => whnf
  refine br_d H (fun c H => ?_) (fun c H => ?_)
  conv => whnf
  refine nd_ H (fun c H => ?_)
  conv => whnf
  refine Nd.mk nf_ ?_
  conv => whnf
  refine El.mk (rdm_en_S_impl_PlantFoe _ _ nf_ nf_) ?_
  conv => whnf
  refine Nd.mk nf_ ?_
  conv => whnf
  refine Nd.mk nf_ ?_
  conv => whnf
  refine El.mk (rdm_en_S_impl_PlantFoe _ _ nf_ nf_) ?_
  conv => whnf
  refine Or.inl ?_
  conv => whnf
  refine nd_ H (fun c H => ?_)
  conv => whnf
  refine cut_ 268 [(1, .str a1), (2, .bp 0 0), (4, .bp 8 0), (5, .bp 24 0), (6, .int .i64 x6)] [(0, .box [(sv_str a0_0), (sv_S_impl_PlantFoe a0_1), (sv_S_impl_PlantPlace a0_2), (sv_S_impl_PlantValve a0_3)]), (8, .box [.nil, .nil, .nil, .nil, .int .i64 0]), (24, .box [.own 244 (x1024000.length + 1), .own 73 x1024001.length, .own 74 x1024002.length, .own 75 x1024003.length, .int .i64 x1024004]), (73, .arr 150 5 (x1024001.map en_S_impl_ClaimSpot)), (74, .arr 9 1 (x1024002.map en_str)), (75, .arr 156 7 (x1024003.map en_S_impl_ClaimPart)), (244, .arr 171 2 ((x1024000 ++ ([(⟨(rd_impl_PlantFoe a0_1 x6).f0, (rd_impl_PlantFoe a0_1 x6).f1⟩ : S_impl_ClaimFoe)] : List S_impl_ClaimFoe)).map en_S_impl_ClaimFoe))] rfl ⟨.inl rfl, ⟨.inl rfl, ⟨.inl rfl, ⟨.inl rfl, ⟨.inl rfl, trivial⟩⟩⟩⟩⟩ ⟨rfl, ⟨rfl, ⟨rfl, ⟨rfl, ⟨rfl, ⟨rfl, ⟨fm_, trivial⟩⟩⟩⟩⟩⟩⟩ ?_
  conv => whnf
  exact ⟨(k, wrap64 (x6 + 1), (x1024000 ++ ([(⟨(rd_impl_PlantFoe a0_1 x6).f0, (rd_impl_PlantFoe a0_1 x6).f1⟩ : S_impl_ClaimFoe)] : List S_impl_ClaimFoe)), x1024001, x1024002, x1024003, _), [some 244, some 73, some 74, some 75], ⟨H, lt_⟩, lt_, (fits_of ⟨.inl ⟨rfl, rfl⟩, trivial⟩ ⟨rfl, ⟨rfl, ⟨rfl, ⟨rfl, trivial⟩⟩⟩⟩ fi_ ⟨⟨_, rfl⟩, ⟨_, rfl, ⟨mt_own lm_, ⟨rfl, ⟨rfl, ⟨rfl, ⟨.inl ⟨rfl, rfl⟩, trivial⟩⟩⟩⟩⟩⟩, trivial⟩ rfl)⟩
  conv => whnf
  refine spec_CtlBook.l1_lp (a0_2 := a0_2) (a0_3 := a0_3) (a1 := a1) (k := k) H [some 72, some 73, some 74, some 75] (fits_of ⟨.inl ⟨rfl, rfl⟩, trivial⟩ ⟨rfl, ⟨rfl, ⟨rfl, ⟨rfl, trivial⟩⟩⟩⟩ fi_ ⟨⟨_, rfl⟩, ⟨_, rfl, ⟨rfl, ⟨rfl, ⟨rfl, ⟨rfl, ⟨.inl ⟨rfl, rfl⟩, trivial⟩⟩⟩⟩⟩⟩, trivial⟩ rfl) ?_
  intro k x7 x1024000_1 x1024001_1 x1024002_1 x1024003_1 x1024004_1 hk H; rcases k with _ | k; exact none_elim H; rw [spec_CtlBook.l1] at H; conv => whnf
  refine br_d H (fun c H => ?_) (fun c H => ?_)
  conv => whnf
  refine nd_ H (fun c H => ?_)
  conv => whnf
  refine Nd.mk nf_ ?_
  conv => whnf
  refine El.mk (rdm_en_S_impl_PlantPlace _ _ nf_ nf_) ?_
  conv => whnf
  refine cut_ 232 [(1, .str a1), (2, .bp 0 0), (4, .bp 8 0), (5, .bp 24 0), (7, .int .i64 x7), (53, .bool (decide (((rd_impl_PlantPlace a0_2 x7).f2).toList = a1.toList)))] [(0, .box [(sv_str a0_0), (sv_S_impl_PlantFoe a0_1), (sv_S_impl_PlantPlace a0_2), (sv_S_impl_PlantValve a0_3)]), (8, .box [.nil, .nil, .nil, .nil, .int .i64 0]), (24, .box [.own 124 x1024000_1.length, .own 125 x1024001_1.length, .own 126 x1024002_1.length, .own 127 x1024003_1.length, .int .i64 x1024004_1]), (124, .arr 171 2 (x1024000_1.map en_S_impl_ClaimFoe)), (125, .arr 150 5 (x1024001_1.map en_S_impl_ClaimSpot)), (126, .arr 9 1 (x1024002_1.map en_str)), (127, .arr 156 7 (x1024003_1.map en_S_impl_ClaimPart))] rfl ⟨.inl rfl, ⟨.inl rfl, ⟨.inl rfl, ⟨.inl rfl, ⟨.inl rfl, ⟨.inl rfl, trivial⟩⟩⟩⟩⟩⟩ ⟨rfl, ⟨rfl, ⟨rfl, ⟨rfl, ⟨rfl, ⟨rfl, ⟨rfl, trivial⟩⟩⟩⟩⟩⟩⟩ ?_
  conv => whnf
  refine br_d H (fun c H => ?_) (fun c H => ?_)
  conv => whnf
  refine Nd.mk nf_ ?_
  conv => whnf
  refine Nd.mk nf_ ?_
  conv => whnf
  refine El.mk (rdm_en_S_impl_PlantPlace _ _ nf_ nf_) ?_
  conv => whnf
  refine Nd.mk nf_ ?_
  conv => whnf
  refine Nd.mk nf_ ?_
  conv => whnf
  refine El.mk (rdm_en_S_impl_PlantPlace _ _ nf_ nf_) ?_
  conv => whnf
  refine Or.inl ?_
  conv => whnf
  refine nd_ H (fun c H => ?_)
  conv => whnf
  refine cut_ 384 [(1, .str a1), (2, .bp 0 0), (4, .bp 8 0), (5, .bp 24 0), (7, .int .i64 x7)] [(0, .box [(sv_str a0_0), (sv_S_impl_PlantFoe a0_1), (sv_S_impl_PlantPlace a0_2), (sv_S_impl_PlantValve a0_3)]), (8, .box [.nil, .nil, .nil, .nil, .int .i64 0]), (24, .box [.own 124 x1024000_1.length, .own 360 (x1024001_1.length + 1), .own 126 x1024002_1.length, .own 127 x1024003_1.length, .int .i64 x1024004_1]), (124, .arr 171 2 (x1024000_1.map en_S_impl_ClaimFoe)), (126, .arr 9 1 (x1024002_1.map en_str)), (127, .arr 156 7 (x1024003_1.map en_S_impl_ClaimPart)), (360, .arr 150 5 ((x1024001_1 ++ ([(⟨(rd_impl_PlantPlace a0_2 x7).f0, (rd_impl_PlantPlace a0_2 x7).f1, 0, 0, []⟩ : S_impl_ClaimSpot)] : List S_impl_ClaimSpot)).map en_S_impl_ClaimSpot))] rfl ⟨.inl rfl, ⟨.inl rfl, ⟨.inl rfl, ⟨.inl rfl, ⟨.inl rfl, trivial⟩⟩⟩⟩⟩ ⟨rfl, ⟨rfl, ⟨rfl, ⟨rfl, ⟨rfl, ⟨rfl, ⟨fm_, trivial⟩⟩⟩⟩⟩⟩⟩ ?_
  conv => whnf
  exact ⟨(k, wrap64 (x7 + 1), x1024000_1, (x1024001_1 ++ ([(⟨(rd_impl_PlantPlace a0_2 x7).f0, (rd_impl_PlantPlace a0_2 x7).f1, 0, 0, []⟩ : S_impl_ClaimSpot)] : List S_impl_ClaimSpot)), x1024002_1, x1024003_1, _), [some 124, some 360, some 126, some 127], ⟨H, lt_⟩, lt_, (fits_of ⟨.inl ⟨rfl, rfl⟩, trivial⟩ ⟨rfl, ⟨rfl, ⟨rfl, ⟨rfl, trivial⟩⟩⟩⟩ fi_ ⟨⟨_, rfl⟩, ⟨_, rfl, ⟨rfl, ⟨mt_own lm_, ⟨rfl, ⟨rfl, ⟨.inl ⟨rfl, rfl⟩, trivial⟩⟩⟩⟩⟩⟩, trivial⟩ rfl)⟩
  conv => whnf
  refine cut_ 232 [(1, .str a1), (2, .bp 0 0), (4, .bp 8 0), (5, .bp 24 0), (7, .int .i64 x7)] [(0, .box [(sv_str a0_0), (sv_S_impl_PlantFoe a0_1), (sv_S_impl_PlantPlace a0_2), (sv_S_impl_PlantValve a0_3)]), (8, .box [.nil, .nil, .nil, .nil, .int .i64 0]), (24, .box [.own 124 x1024000_1.length, .own 125 x1024001_1.length, .own 126 x1024002_1.length, .own 127 x1024003_1.length, .int .i64 x1024004_1]), (124, .arr 171 2 (x1024000_1.map en_S_impl_ClaimFoe)), (125, .arr 150 5 (x1024001_1.map en_S_impl_ClaimSpot)), (126, .arr 9 1 (x1024002_1.map en_str)), (127, .arr 156 7 (x1024003_1.map en_S_impl_ClaimPart))] rfl ⟨.inl rfl, ⟨.inl rfl, ⟨.inl rfl, ⟨.inl rfl, ⟨.inl rfl, trivial⟩⟩⟩⟩⟩ ⟨rfl, ⟨rfl, ⟨rfl, ⟨rfl, ⟨rfl, ⟨rfl, ⟨rfl, trivial⟩⟩⟩⟩⟩⟩⟩ ?_
  conv => whnf
  exact ⟨(k, wrap64 (x7 + 1), x1024000_1, x1024001_1, x1024002_1, x1024003_1, _), [some 124, some 125, some 126, some 127], ⟨H, lt_⟩, lt_, (fits_of ⟨.inl ⟨rfl, rfl⟩, trivial⟩ ⟨rfl, ⟨rfl, ⟨rfl, ⟨rfl, trivial⟩⟩⟩⟩ fi_ ⟨⟨_, rfl⟩, ⟨_, rfl, ⟨rfl, ⟨rfl, ⟨rfl, ⟨rfl, ⟨.inl ⟨rfl, rfl⟩, trivial⟩⟩⟩⟩⟩⟩, trivial⟩ rfl)⟩
  conv => whnf
  refine spec_CtlBook.l2_lp (a0_3 := a0_3) (a1 := a1) (k := k) H [some 124, some 125, some 126, some 127] (fits_of ⟨.inl ⟨rfl, rfl⟩, trivial⟩ ⟨rfl, ⟨rfl, ⟨rfl, ⟨rfl, trivial⟩⟩⟩⟩ fi_ ⟨⟨_, rfl⟩, ⟨_, rfl, ⟨rfl, ⟨rfl, ⟨rfl, ⟨rfl, ⟨.inl ⟨rfl, rfl⟩, trivial⟩⟩⟩⟩⟩⟩, trivial⟩ rfl) ?_
  intro k x8 x1024000_2 x1024001_2 x1024002_2 x1024003_2 x1024004_2 hk H; rcases k with _ | k; exact none_elim H; rw [spec_CtlBook.l2] at H; conv => whnf
  refine cut_ 220 [(1, .str a1), (2, .bp 0 0), (4, .bp 8 0), (5, .bp 24 0), (8, .int .i64 x8), (76, .bool (decide (x8 < (a0_3.length : Int))))] [(0, .box [(sv_str a0_0), (sv_S_impl_PlantFoe a0_1), (sv_S_impl_PlantPlace a0_2), (sv_S_impl_PlantValve a0_3)]), (8, .box [.nil, .nil, .nil, .nil, .int .i64 0]), (24, .box [.own 176 x1024000_2.length, .own 177 x1024001_2.length, .own 178 x1024002_2.length, .own 179 x1024003_2.length, .int .i64 x1024004_2]), (176, .arr 171 2 (x1024000_2.map en_S_impl_ClaimFoe)), (177, .arr 150 5 (x1024001_2.map en_S_impl_ClaimSpot)), (178, .arr 9 1 (x1024002_2.map en_str)), (179, .arr 156 7 (x1024003_2.map en_S_impl_ClaimPart))] rfl ⟨.inl rfl, ⟨.inl rfl, ⟨.inl rfl, ⟨.inl rfl, ⟨.inl rfl, ⟨.inl rfl, trivial⟩⟩⟩⟩⟩⟩ ⟨rfl, ⟨rfl, ⟨rfl, ⟨rfl, ⟨rfl, ⟨rfl, ⟨rfl, trivial⟩⟩⟩⟩⟩⟩⟩ ?_
  conv => whnf
  refine br_d H (fun c H => ?_) (fun c H => ?_)
  conv => whnf
  refine nd_ H (fun c H => ?_)
  conv => whnf
  refine Nd.mk nf_ ?_
  conv => whnf
  refine El.mk (rdm_en_S_impl_PlantValve _ _ nf_ nf_) ?_
  conv => whnf
  refine br_d H (fun c H => ?_) (fun c H => ?_)
  conv => whnf
  refine Nd.mk nf_ ?_
  conv => whnf
  refine Nd.mk nf_ ?_
  conv => whnf
  refine El.mk (rdm_en_S_impl_PlantValve _ _ nf_ nf_) ?_
  conv => whnf
  refine Or.inl ?_
  conv => whnf
  refine nd_ H (fun c H => ?_)
  conv => whnf
  refine cut_ 380 [(1, .str a1), (2, .bp 0 0), (4, .bp 8 0), (5, .bp 24 0), (8, .int .i64 x8)] [(0, .box [(sv_str a0_0), (sv_S_impl_PlantFoe a0_1), (sv_S_impl_PlantPlace a0_2), (sv_S_impl_PlantValve a0_3)]), (8, .box [.nil, .nil, .nil, .nil, .int .i64 0]), (24, .box [.own 176 x1024000_2.length, .own 177 x1024001_2.length, .own 356 (x1024002_2.length + 1), .own 179 x1024003_2.length, .int .i64 x1024004_2]), (176, .arr 171 2 (x1024000_2.map en_S_impl_ClaimFoe)), (177, .arr 150 5 (x1024001_2.map en_S_impl_ClaimSpot)), (179, .arr 156 7 (x1024003_2.map en_S_impl_ClaimPart)), (356, .arr 9 1 ((x1024002_2 ++ ([(rd_impl_PlantValve a0_3 x8).f0] : List ByteArray)).map en_str))] rfl ⟨.inl rfl, ⟨.inl rfl, ⟨.inl rfl, ⟨.inl rfl, ⟨.inl rfl, trivial⟩⟩⟩⟩⟩ ⟨rfl, ⟨rfl, ⟨rfl, ⟨rfl, ⟨rfl, ⟨rfl, ⟨fm_, trivial⟩⟩⟩⟩⟩⟩⟩ ?_
  conv => whnf
  exact ⟨(k, wrap64 (x8 + 1), x1024000_2, x1024001_2, (x1024002_2 ++ ([(rd_impl_PlantValve a0_3 x8).f0] : List ByteArray)), x1024003_2, _), [some 176, some 177, some 356, some 179], ⟨H, lt_⟩, lt_, (fits_of ⟨.inl ⟨rfl, rfl⟩, trivial⟩ ⟨rfl, ⟨rfl, ⟨rfl, ⟨rfl, trivial⟩⟩⟩⟩ fi_ ⟨⟨_, rfl⟩, ⟨_, rfl, ⟨rfl, ⟨rfl, ⟨mt_own lm_, ⟨rfl, ⟨.inl ⟨rfl, rfl⟩, trivial⟩⟩⟩⟩⟩⟩, trivial⟩ rfl)⟩
  conv => whnf
  refine cut_ 284 [(1, .str a1), (2, .bp 0 0), (4, .bp 8 0), (5, .bp 24 0), (8, .int .i64 x8)] [(0, .box [(sv_str a0_0), (sv_S_impl_PlantFoe a0_1), (sv_S_impl_PlantPlace a0_2), (sv_S_impl_PlantValve a0_3)]), (8, .box [.nil, .nil, .nil, .nil, .int .i64 0]), (24, .box [.own 176 x1024000_2.length, .own 177 x1024001_2.length, .own 178 x1024002_2.length, .own 179 x1024003_2.length, .int .i64 x1024004_2]), (176, .arr 171 2 (x1024000_2.map en_S_impl_ClaimFoe)), (177, .arr 150 5 (x1024001_2.map en_S_impl_ClaimSpot)), (178, .arr 9 1 (x1024002_2.map en_str)), (179, .arr 156 7 (x1024003_2.map en_S_impl_ClaimPart))] rfl ⟨.inl rfl, ⟨.inl rfl, ⟨.inl rfl, ⟨.inl rfl, ⟨.inl rfl, trivial⟩⟩⟩⟩⟩ ⟨rfl, ⟨rfl, ⟨rfl, ⟨rfl, ⟨rfl, ⟨rfl, ⟨rfl, trivial⟩⟩⟩⟩⟩⟩⟩ ?_
  conv => whnf
  exact ⟨(k, wrap64 (x8 + 1), x1024000_2, x1024001_2, x1024002_2, x1024003_2, _), [some 176, some 177, some 178, some 179], ⟨H, lt_⟩, lt_, (fits_of ⟨.inl ⟨rfl, rfl⟩, trivial⟩ ⟨rfl, ⟨rfl, ⟨rfl, ⟨rfl, trivial⟩⟩⟩⟩ fi_ ⟨⟨_, rfl⟩, ⟨_, rfl, ⟨rfl, ⟨rfl, ⟨rfl, ⟨rfl, ⟨.inl ⟨rfl, rfl⟩, trivial⟩⟩⟩⟩⟩⟩, trivial⟩ rfl)⟩
  conv => whnf
  injection H with H; subst H
  exact ret_fz [176, 177, 178, 179] (rtA_agg (rtL_cons (rt_fz' rfl rfl) (rtL_cons (rt_fz' rfl rfl) (rtL_cons (rt_fz' rfl rfl) (rtL_cons (rt_fz' rfl rfl) (rtL_cons (rt_eq rfl) (rtL_nil)))))))
  conv => whnf
  injection H with H; subst H
  exact ret_fz [] (rtA_agg (rtL_cons (rt_nil) (rtL_cons (rt_nil) (rtL_cons (rt_nil) (rtL_cons (rt_nil) (rtL_cons (rt_eq rfl) (rtL_nil)))))))
theorem impl_isName.l0_lp {F : (Exit → St → Prop) → St → Prop} {hv : List Tmp} {Q : Exit → St → Prop} {σ : St} {r : Bool} {k : Nat} {a0 : ByteArray} {x7 : Int} (H : impl_isName.l0 k a0 x7 = some r) (rn : List (Option Nat)) (h1 : Fits σ σ [] [(7, .int .i64 x7)] [] [] rn)
    (h2 : ∀ (k0 : Nat) (x7 : Int), k0 < k + 1 → impl_isName.l0 k0 a0 x7 = some r → headN σ hv [] [(7, .int .i64 x7)] [] [] (F (fun e σ' => match e with | .normal => ∃ (y : Nat × Int) (rn : List (Option Nat)), (impl_isName.l0 y.1 a0 y.2 = some r ∧ y.1 < k + 1) ∧ y.1 < k0 ∧ Fits σ σ' [] [(7, .int .i64 y.2)] [] [] rn | e => Q e σ'))) : Lp F hv Q σ := by
  unfold Lp
  refine ⟨Nat × Int, fun x => impl_isName.l0 x.1 a0 x.2 = some r ∧ x.1 < k + 1, fun x => x.1, [], fun x => [(7, .int .i64 x.2)], fun x => [], fun x => [], ⟨(k, x7), rn, ⟨H, Nat.lt_succ_self _⟩, h1⟩, ?_⟩
  rintro ⟨k, x7⟩ ⟨H, hk⟩
  exact h2 k x7 hk H
theorem impl_isName.ac {k : Nat} {a0 : ByteArray} {r : Bool} (H : impl_isName.f k a0 = some r) : ACalls Try.prog G 71 [] [.str a0] [] (.bool r) := by
  refine acalls_of tok hP Try.func71 rfl (by kernel_rfl) [.tmp 2] rfl (by kernel_rfl) (Nat.le_of_ble_eq_true rfl) (.l .n (.l (.l .n (.l .n (.l .n (.l (.l .n (.c .n (.c .n (.l (.c .n .n) .n)))) .n)))) (.c .n .n))) rfl ?_
  unfold impl_isName.f at H
  conv => whnf
  refine impl_isName.l0_lp (a0 := a0) (k := k) H [] (fits_of ⟨.inl ⟨rfl, rfl⟩, trivial⟩ trivial fi_ trivial rfl) ?_
  intro k x7 hk H; rcases k with _ | k; exact none_elim H; rw [impl_isName.l0] at H; conv => whnf
  refine br_d H (fun c H => ?_) (fun c H => ?_)
  conv => whnf
  refine nd_ H (fun c H => ?_)
  conv => whnf
  refine Nd.mk nf_ ?_
  conv => whnf
  refine cut_ 88 [(0, .str a0), (4, .int .u8 (bt a0 x7)), (6, .int .i64 (a0.size : Int)), (7, .int .i64 x7)] [] rfl ⟨.inl rfl, ⟨.inl rfl, ⟨.inl rfl, ⟨.inl rfl, trivial⟩⟩⟩⟩ trivial ?_
  conv => whnf
  refine br_d H (fun c H => ?_) (fun c H => ?_)
  conv => whnf
  refine Br.t ft_ ?_
  conv => whnf
  refine Br.t ft_ ?_
  conv => whnf
  refine Br.t rfl ?_
  conv => whnf
  refine Br.t rfl ?_
  conv => whnf
  refine Br.t rfl ?_
  conv => whnf
  refine br_d H (fun c H => ?_) (fun c H => ?_)
  conv => whnf
  refine Br.t ft_ ?_
  conv => whnf
  refine Br.t rfl ?_
  conv => whnf
  refine Br.t ft_ ?_
  conv => whnf
  refine Br.t rfl ?_
  conv => whnf
  refine Br.t rfl ?_
  conv => whnf
  refine Br.t rfl ?_
  conv => whnf
  refine Br.t rfl ?_
  conv => whnf
  refine cut_ 232 [(0, .str a0), (6, .int .i64 (a0.size : Int)), (7, .int .i64 x7), (30, .bool (!(decide ((bt a0 x7) = 45))))] [] rfl ⟨.inl rfl, ⟨.inl rfl, ⟨.inl rfl, ⟨.inl rfl, trivial⟩⟩⟩⟩ trivial ?_
  conv => whnf
  refine br_nd H (fun c H => ?_) (fun c H => ?_)
  conv => whnf
  exact ⟨(k, wrap64 (x7 + 1)), [], ⟨H, lt_⟩, lt_, (fits_of ⟨.inl ⟨rfl, rfl⟩, trivial⟩ trivial fi_ trivial rfl)⟩
  conv => whnf
  refine cut_ 240 [(2, .bool false)] [] rfl ⟨.inl rfl, trivial⟩ trivial ?_
  conv => whnf
  injection H with H; subst H
  exact ret_fz [] (rtA_eq rfl)
  conv => whnf
  refine Br.f ff_ ?_
  conv => whnf
  refine Br.t rfl ?_
  conv => whnf
  refine Br.f ff_ ?_
  conv => whnf
  refine Br.t rfl ?_
  conv => whnf
  refine br_d H (fun c H => ?_) (fun c H => ?_)
  conv => whnf
  refine Br.t ft_ ?_
  conv => whnf
  refine Br.t ft_ ?_
  conv => whnf
  refine cut_ 232 [(0, .str a0), (6, .int .i64 (a0.size : Int)), (7, .int .i64 x7), (30, .bool (!(decide ((bt a0 x7) = 45))))] [] rfl ⟨.inl rfl, ⟨.inl rfl, ⟨.inl rfl, ⟨.inl rfl, trivial⟩⟩⟩⟩ trivial ?_
  conv => whnf
  refine br_nd H (fun c H => ?_) (fun c H => ?_)
  conv => whnf
  exact ⟨(k, wrap64 (x7 + 1)), [], ⟨H, lt_⟩, lt_, (fits_of ⟨.inl ⟨rfl, rfl⟩, trivial⟩ trivial fi_ trivial rfl)⟩
  conv => whnf
  refine cut_ 240 [(2, .bool false)] [] rfl ⟨.inl rfl, trivial⟩ trivial ?_
  conv => whnf
  injection H with H; subst H
  exact ret_fz [] (rtA_eq rfl)
  conv => whnf
  refine Br.f ff_ ?_
  conv => whnf
  refine Br.f ff_ ?_
  conv => whnf
  refine cut_ 232 [(0, .str a0), (6, .int .i64 (a0.size : Int)), (7, .int .i64 x7), (30, .bool false)] [] rfl ⟨.inl rfl, ⟨.inl rfl, ⟨.inl rfl, ⟨.inl rfl, trivial⟩⟩⟩⟩ trivial ?_
  conv => whnf
  refine Br.f rfl ?_
  conv => whnf
  exact ⟨(k, wrap64 (x7 + 1)), [], ⟨H, lt_⟩, lt_, (fits_of ⟨.inl ⟨rfl, rfl⟩, trivial⟩ trivial fi_ trivial rfl)⟩
  conv => whnf
  refine Br.f ff_ ?_
  conv => whnf
  refine Br.f ff_ ?_
  conv => whnf
  refine br_d H (fun c H => ?_) (fun c H => ?_)
  conv => whnf
  refine Br.t ft_ ?_
  conv => whnf
  refine Br.t ft_ ?_
  conv => whnf
  refine br_d H (fun c H => ?_) (fun c H => ?_)
  conv => whnf
  refine Br.t ft_ ?_
  conv => whnf
  refine Br.t ft_ ?_
  conv => whnf
  refine Br.t ft_ ?_
  conv => whnf
  refine Br.t ft_ ?_
  conv => whnf
  refine Br.t rfl ?_
  conv => whnf
  refine Br.t rfl ?_
  conv => whnf
  refine Br.t rfl ?_
  conv => whnf
  refine cut_ 232 [(0, .str a0), (6, .int .i64 (a0.size : Int)), (7, .int .i64 x7), (30, .bool (!(decide ((bt a0 x7) = 45))))] [] rfl ⟨.inl rfl, ⟨.inl rfl, ⟨.inl rfl, ⟨.inl rfl, trivial⟩⟩⟩⟩ trivial ?_
  conv => whnf
  refine br_nd H (fun c H => ?_) (fun c H => ?_)
  conv => whnf
  exact ⟨(k, wrap64 (x7 + 1)), [], ⟨H, lt_⟩, lt_, (fits_of ⟨.inl ⟨rfl, rfl⟩, trivial⟩ trivial fi_ trivial rfl)⟩
  conv => whnf
  refine cut_ 240 [(2, .bool false)] [] rfl ⟨.inl rfl, trivial⟩ trivial ?_
  conv => whnf
  injection H with H; subst H
  exact ret_fz [] (rtA_eq rfl)
  conv => whnf
  refine Br.f ff_ ?_
  conv => whnf
  refine Br.t ft_ ?_
  conv => whnf
  refine Br.f ff_ ?_
  conv => whnf
  refine Br.t ft_ ?_
  conv => whnf
  refine br_d H (fun c H => ?_) (fun c H => ?_)
  conv => whnf
  refine Br.t ft_ ?_
  conv => whnf
  refine Br.t ft_ ?_
  conv => whnf
  refine cut_ 232 [(0, .str a0), (6, .int .i64 (a0.size : Int)), (7, .int .i64 x7), (30, .bool (!(decide ((bt a0 x7) = 45))))] [] rfl ⟨.inl rfl, ⟨.inl rfl, ⟨.inl rfl, ⟨.inl rfl, trivial⟩⟩⟩⟩ trivial ?_
  conv => whnf
  refine br_nd H (fun c H => ?_) (fun c H => ?_)
  conv => whnf
  exact ⟨(k, wrap64 (x7 + 1)), [], ⟨H, lt_⟩, lt_, (fits_of ⟨.inl ⟨rfl, rfl⟩, trivial⟩ trivial fi_ trivial rfl)⟩
  conv => whnf
  refine cut_ 240 [(2, .bool false)] [] rfl ⟨.inl rfl, trivial⟩ trivial ?_
  conv => whnf
  injection H with H; subst H
  exact ret_fz [] (rtA_eq rfl)
  conv => whnf
  refine Br.f ff_ ?_
  conv => whnf
  refine Br.f ff_ ?_
  conv => whnf
  refine cut_ 232 [(0, .str a0), (6, .int .i64 (a0.size : Int)), (7, .int .i64 x7), (30, .bool false)] [] rfl ⟨.inl rfl, ⟨.inl rfl, ⟨.inl rfl, ⟨.inl rfl, trivial⟩⟩⟩⟩ trivial ?_
  conv => whnf
  refine Br.f rfl ?_
  conv => whnf
  exact ⟨(k, wrap64 (x7 + 1)), [], ⟨H, lt_⟩, lt_, (fits_of ⟨.inl ⟨rfl, rfl⟩, trivial⟩ trivial fi_ trivial rfl)⟩
  conv => whnf
  refine Br.f ff_ ?_
  conv => whnf
  refine Br.f ff_ ?_
  conv => whnf
  refine Br.f ff_ ?_
  conv => whnf
  refine Br.f ff_ ?_
  conv => whnf
  refine Br.f rfl ?_
  conv => whnf
  refine Br.f rfl ?_
  conv => whnf
  refine Br.f rfl ?_
  conv => whnf
  refine cut_ 232 [(0, .str a0), (6, .int .i64 (a0.size : Int)), (7, .int .i64 x7), (30, .bool false)] [] rfl ⟨.inl rfl, ⟨.inl rfl, ⟨.inl rfl, ⟨.inl rfl, trivial⟩⟩⟩⟩ trivial ?_
  conv => whnf
  refine Br.f rfl ?_
  conv => whnf
  exact ⟨(k, wrap64 (x7 + 1)), [], ⟨H, lt_⟩, lt_, (fits_of ⟨.inl ⟨rfl, rfl⟩, trivial⟩ trivial fi_ trivial rfl)⟩
  conv => whnf
  refine br_d H (fun c H => ?_) (fun c H => ?_)
  conv => whnf
  refine Br.t ft_ ?_
  conv => whnf
  refine Br.t ft_ ?_
  conv => whnf
  refine Br.t ft_ ?_
  conv => whnf
  refine cut_ 112 [(2, .bool (decide ((a0.size : Int) ≤ 8)))] [] rfl ⟨.inl rfl, trivial⟩ trivial ?_
  conv => whnf
  injection H with H; subst H
  exact ret_fz [] (rtA_eq rfl)
  conv => whnf
  refine Br.f ff_ ?_
  conv => whnf
  refine Br.f ff_ ?_
  conv => whnf
  refine Br.f ff_ ?_
  conv => whnf
  refine cut_ 112 [(2, .bool false)] [] rfl ⟨.inl rfl, trivial⟩ trivial ?_
  conv => whnf
  injection H with H; subst H
  exact ret_fz [] (rtA_eq rfl)
theorem impl_rising.l0_lp {F : (Exit → St → Prop) → St → Prop} {hv : List Tmp} {Q : Exit → St → Prop} {σ : St} {r : Bool} {k : Nat} {l0 : List ByteArray} {x3 : Int} (H : impl_rising.l0 k l0 x3 = some r) (rn : List (Option Nat)) (h1 : Fits σ σ [] [(3, .int .i64 x3)] [] [] rn)
    (h2 : ∀ (k0 : Nat) (x3 : Int), k0 < k + 1 → impl_rising.l0 k0 l0 x3 = some r → headN σ hv [] [(3, .int .i64 x3)] [] [] (F (fun e σ' => match e with | .normal => ∃ (y : Nat × Int) (rn : List (Option Nat)), (impl_rising.l0 y.1 l0 y.2 = some r ∧ y.1 < k + 1) ∧ y.1 < k0 ∧ Fits σ σ' [] [(3, .int .i64 y.2)] [] [] rn | e => Q e σ'))) : Lp F hv Q σ := by
  unfold Lp
  refine ⟨Nat × Int, fun x => impl_rising.l0 x.1 l0 x.2 = some r ∧ x.1 < k + 1, fun x => x.1, [], fun x => [(3, .int .i64 x.2)], fun x => [], fun x => [], ⟨(k, x3), rn, ⟨H, Nat.lt_succ_self _⟩, h1⟩, ?_⟩
  rintro ⟨k, x3⟩ ⟨H, hk⟩
  exact h2 k x3 hk H
theorem impl_rising.ac {k : Nat} {l0 : List ByteArray} {r : Bool} (H : impl_rising.f k l0 = some r) : ACalls Try.prog G 155 [] [(sv_str l0)] [] (.bool r) := by
  refine acalls_of tok hP Try.func155 rfl (by kernel_rfl) [.tmp 2] rfl (by kernel_rfl) (Nat.le_of_ble_eq_true rfl) (.l .n (.l (.l .n (.l .n (.l (.c .n .n) .n))) .n)) rfl ?_
  unfold impl_rising.f at H
  conv => whnf
  refine impl_rising.l0_lp (l0 := l0) (k := k) H [] (fits_of ⟨.inl ⟨rfl, rfl⟩, trivial⟩ trivial fi_ trivial rfl) ?_
  intro k x3 hk H; rcases k with _ | k; exact none_elim H; rw [impl_rising.l0] at H; conv => whnf
  refine br_d H (fun c H => ?_) (fun c H => ?_)
  conv => whnf
  refine nd_ H (fun c H => ?_)
  conv => whnf
  refine nd_ H (fun c H => ?_)
  conv => whnf
  refine El.mk (rdm_en_str _ _ nf_ nf_) ?_
  conv => whnf
  refine nd_ H (fun c H => ?_)
  conv => whnf
  refine Nd.mk nf_ ?_
  conv => whnf
  refine El.mk (rdm_en_str _ _ nf_ nf_) ?_
  conv => whnf
  refine cut_ 128 [(0, (sv_str l0)), (3, .int .i64 x3), (19, .bool (!(Op.bytesLess (rdOf ByteArray.empty l0 (wrap64 (x3 - 1))).toList (rdOf ByteArray.empty l0 x3).toList)))] [] rfl ⟨.inl rfl, ⟨.inl rfl, ⟨.inl rfl, trivial⟩⟩⟩ trivial ?_
  conv => whnf
  refine br_nt H (fun c H => ?_) (fun c H => ?_)
  conv => whnf
  exact ⟨(k, wrap64 (x3 + 1)), [], ⟨H, lt_⟩, lt_, (fits_of ⟨.inl ⟨rfl, rfl⟩, trivial⟩ trivial fi_ trivial rfl)⟩
  conv => whnf
  injection H with H; subst H
  exact ret_fz [] (rtA_eq rfl)
  conv => whnf
  injection H with H; subst H
  exact ret_fz [] (rtA_eq rfl)
theorem impl_names.l0_lp {F : (Exit → St → Prop) → St → Prop} {hv : List Tmp} {Q : Exit → St → Prop} {σ : St} {r : Bool} {k : Nat} {l0 : List ByteArray} {x7 : Int} (H : impl_names.l0 k l0 x7 = some r) (rn : List (Option Nat)) (h1 : Fits σ σ [] [(7, .int .i64 x7)] [] [] rn)
    (h2 : ∀ (k0 : Nat) (x7 : Int), k0 < k + 1 → impl_names.l0 k0 l0 x7 = some r → headN σ hv [] [(7, .int .i64 x7)] [] [] (F (fun e σ' => match e with | .normal => ∃ (y : Nat × Int) (rn : List (Option Nat)), (impl_names.l0 y.1 l0 y.2 = some r ∧ y.1 < k + 1) ∧ y.1 < k0 ∧ Fits σ σ' [] [(7, .int .i64 y.2)] [] [] rn | e => Q e σ'))) : Lp F hv Q σ := by
  unfold Lp
  refine ⟨Nat × Int, fun x => impl_names.l0 x.1 l0 x.2 = some r ∧ x.1 < k + 1, fun x => x.1, [], fun x => [(7, .int .i64 x.2)], fun x => [], fun x => [], ⟨(k, x7), rn, ⟨H, Nat.lt_succ_self _⟩, h1⟩, ?_⟩
  rintro ⟨k, x7⟩ ⟨H, hk⟩
  exact h2 k x7 hk H
theorem impl_names.ac {k : Nat} {l0 : List ByteArray} {r : Bool} (H : impl_names.f k l0 = some r) : ACalls Try.prog G 103 [] [(sv_str l0)] [] (.bool r) := by
  refine acalls_of tok hP Try.func103 rfl (by kernel_rfl) [.tmp 2] rfl (by kernel_rfl) (Nat.le_of_ble_eq_true rfl) (.l .n (.l (.l .n (.l .n (.l .n (.l (.l .n (.c .n .n)) .n)))) .n)) rfl ?_
  unfold impl_names.f at H
  conv => whnf
  refine impl_names.l0_lp (l0 := l0) (k := k) H [] (fits_of ⟨.inl ⟨rfl, rfl⟩, trivial⟩ trivial fi_ trivial rfl) ?_
  intro k x7 hk H; rcases k with _ | k; exact none_elim H; rw [impl_names.l0] at H; conv => whnf
  refine br_d H (fun c H => ?_) (fun c H => ?_)
  conv => whnf
  refine nd_ H (fun c H => ?_)
  conv => whnf
  refine Nd.mk nf_ ?_
  conv => whnf
  refine El.mk (rdm_en_str _ _ nf_ nf_) ?_
  conv => whnf
  revert H; refine bind_elim (fun t277 A H => ?_)
  refine call_mk (impl_isName.ac A) (avAL_cons (avA_shut' rfl) (avAL_nil)) (Or.inl rfl) rfl rfl (Nat.le_of_ble_eq_true rfl) ?_
  conv => whnf
  refine cut_ 88 [(0, (sv_str l0)), (5, (sv_str l0)), (6, .int .i64 (l0.length : Int)), (7, .int .i64 x7), (13, .bool (!t277))] [] rfl ⟨.inl rfl, ⟨.inl rfl, ⟨.inl rfl, ⟨.inl rfl, ⟨.inl rfl, trivial⟩⟩⟩⟩⟩ trivial ?_
  conv => whnf
  refine br_nt H (fun c H => ?_) (fun c H => ?_)
  conv => whnf
  exact ⟨(k, wrap64 (x7 + 1)), [], ⟨H, lt_⟩, lt_, (fits_of ⟨.inl ⟨rfl, rfl⟩, trivial⟩ trivial fi_ trivial rfl)⟩
  conv => whnf
  injection H with H; subst H
  exact ret_fz [] (rtA_eq rfl)
  conv => whnf
  revert H; refine bind_elim (fun t279 A H => ?_)
  refine call_mk (impl_rising.ac A) (avAL_cons (avA_shut' rfl) (avAL_nil)) (Or.inl rfl) rfl rfl (Nat.le_of_ble_eq_true rfl) ?_
  conv => whnf
  injection H with H; subst H
  exact ret_fz [] (rtA_eq rfl)
theorem impl_Plant_pairs.l0_lp {F : (Exit → St → Prop) → St → Prop} {hv : List Tmp} {Q : Exit → St → Prop} {σ : St} {r : List S_A2_string} {k : Nat} {a0_1 : List S_impl_PlantFoe} {x2 : List S_A2_string} {x8 : Int} (H : impl_Plant_pairs.l0 k a0_1 x2 x8 = some r) (rn : List (Option Nat)) (h1 : Fits σ σ [0] [(2, .own 0 x2.length), (8, .int .i64 x8)] [] [.arr 205 2 (x2.map en_S_A2_string)] rn)
    (h2 : ∀ (k0 : Nat) (x2 : List S_A2_string) (x8 : Int), k0 < k + 1 → impl_Plant_pairs.l0 k0 a0_1 x2 x8 = some r → headN σ hv [0] [(2, .own 0 x2.length), (8, .int .i64 x8)] [] [.arr 205 2 (x2.map en_S_A2_string)] (F (fun e σ' => match e with | .normal => ∃ (y : Nat × (List S_A2_string) × Int) (rn : List (Option Nat)), (impl_Plant_pairs.l0 y.1 a0_1 y.2.1 y.2.2 = some r ∧ y.1 < k + 1) ∧ y.1 < k0 ∧ Fits σ σ' [0] [(2, .own 0 y.2.1.length), (8, .int .i64 y.2.2)] [] [.arr 205 2 (y.2.1.map en_S_A2_string)] rn | e => Q e σ'))) : Lp F hv Q σ := by
  unfold Lp
  refine ⟨Nat × (List S_A2_string) × Int, fun x => impl_Plant_pairs.l0 x.1 a0_1 x.2.1 x.2.2 = some r ∧ x.1 < k + 1, fun x => x.1, [0], fun x => [(2, .own 0 x.2.1.length), (8, .int .i64 x.2.2)], fun x => [], fun x => [.arr 205 2 (x.2.1.map en_S_A2_string)], ⟨(k, x2, x8), rn, ⟨H, Nat.lt_succ_self _⟩, h1⟩, ?_⟩
  rintro ⟨k, x2, x8⟩ ⟨H, hk⟩
  exact h2 k x2 x8 hk H
theorem impl_Plant_pairs.ac {k : Nat} {a0_0 : List ByteArray} {a0_1 : List S_impl_PlantFoe} {a0_2 : List S_impl_PlantPlace} {a0_3 : List S_impl_PlantValve} {r : List S_A2_string} (H : impl_Plant_pairs.f k a0_0 a0_1 a0_2 a0_3 = some r) : ACalls Try.prog G 193 [] [.agg [(sv_str a0_0), (sv_S_impl_PlantFoe a0_1), (sv_S_impl_PlantPlace a0_2), (sv_S_impl_PlantValve a0_3)]] [] ((sv_S_A2_string r)) := by
  refine acalls_of tok hP Try.func193 rfl (by kernel_rfl) [.tmp 2] rfl (by kernel_rfl) (Nat.le_of_ble_eq_true rfl) (.l .n (.l (.l .n (.l .n (.l .n (.l (.c .n .n) .n)))) .n)) rfl ?_
  unfold impl_Plant_pairs.f at H
  conv => whnf
  refine impl_Plant_pairs.l0_lp (a0_1 := a0_1) (k := k) H [none] (fits_of ⟨⟨rfl, rfl⟩, ⟨.inl ⟨rfl, rfl⟩, trivial⟩⟩ ⟨⟨_, _, rfl⟩, trivial⟩ fi_ trivial rfl) ?_
  intro k x2 x8 hk H; rcases k with _ | k; exact none_elim H; rw [impl_Plant_pairs.l0] at H; conv => whnf
  refine br_d H (fun c H => ?_) (fun c H => ?_)
  conv => whnf
  refine nd_ H (fun c H => ?_)
  conv => whnf
  refine Nd.mk nf_ ?_
  conv => whnf
  refine El.mk (rdm_en_S_impl_PlantFoe _ _ nf_ nf_) ?_
  conv => whnf
  refine cut_ 89 [(2, .own 48 x2.length), (4, .bp 73 0), (6, (sv_S_impl_PlantFoe a0_1)), (7, .int .i64 (a0_1.length : Int)), (8, .int .i64 x8)] [(48, .arr 205 2 (x2.map en_S_A2_string)), (73, .box [.str ((rd_impl_PlantFoe a0_1 x8).f0), .str ((rd_impl_PlantFoe a0_1 x8).f1)])] rfl ⟨.inl rfl, ⟨.inl rfl, ⟨.inl rfl, ⟨.inl rfl, ⟨.inl rfl, trivial⟩⟩⟩⟩⟩ ⟨rfl, ⟨rfl, trivial⟩⟩ ?_
  conv => whnf
  refine Or.inl ?_
  conv => whnf
  refine nd_ H (fun c H => ?_)
  conv => whnf
  exact ⟨(k, (x2 ++ ([(⟨(rd_impl_PlantFoe a0_1 x8).f0, (rd_impl_PlantFoe a0_1 x8).f1⟩ : S_A2_string)] : List S_A2_string)), wrap64 (x8 + 1)), [some 145], ⟨H, lt_⟩, lt_, (fits_of ⟨mt_own lm_, ⟨.inl ⟨rfl, rfl⟩, trivial⟩⟩ ⟨fm_, trivial⟩ fi_ trivial rfl)⟩
  conv => whnf
  injection H with H; subst H
  exact ret_fz [48] (rtA_fz' rfl rfl)
theorem impl_foesOk.l0_lp {F : (Exit → St → Prop) → St → Prop} {hv : List Tmp} {Q : Exit → St → Prop} {σ : St} {r : Bool} {k : Nat} {l0 : List S_A2_string} {a1 : Int} {x9 : Int} (H : impl_foesOk.l0 k l0 a1 x9 = some r) (rn : List (Option Nat)) (h1 : Fits σ σ [] [(9, .int .i64 x9)] [] [] rn)
    (h2 : ∀ (k0 : Nat) (x9 : Int), k0 < k + 1 → impl_foesOk.l0 k0 l0 a1 x9 = some r → headN σ hv [] [(9, .int .i64 x9)] [] [] (F (fun e σ' => match e with | .normal => ∃ (y : Nat × Int) (rn : List (Option Nat)), (impl_foesOk.l0 y.1 l0 a1 y.2 = some r ∧ y.1 < k + 1) ∧ y.1 < k0 ∧ Fits σ σ' [] [(9, .int .i64 y.2)] [] [] rn | e => Q e σ'))) : Lp F hv Q σ := by
  unfold Lp
  refine ⟨Nat × Int, fun x => impl_foesOk.l0 x.1 l0 a1 x.2 = some r ∧ x.1 < k + 1, fun x => x.1, [], fun x => [(9, .int .i64 x.2)], fun x => [], fun x => [], ⟨(k, x9), rn, ⟨H, Nat.lt_succ_self _⟩, h1⟩, ?_⟩
  rintro ⟨k, x9⟩ ⟨H, hk⟩
  exact h2 k x9 hk H
theorem impl_foesOk.ac {k : Nat} {l0 : List S_A2_string} {a1 : Int} {r : Bool} (H : impl_foesOk.f k l0 a1 = some r) : ACalls Try.prog G 69 [] [(sv_S_A2_string l0), .int .i64 a1] [] (.bool r) := by
  refine acalls_of tok hP Try.func69 rfl (by kernel_rfl) [.tmp 4] rfl (by kernel_rfl) (Nat.le_of_ble_eq_true rfl) (.l .n (.l (.l .n (.l .n (.l .n (.l (.c .n (.l (.c .n (.l (.c .n .n) .n)) (.c .n (.l (.c .n .n) .n)))) .n)))) (.c .n .n))) rfl ?_
  unfold impl_foesOk.f at H
  conv => whnf
  refine impl_foesOk.l0_lp (l0 := l0) (a1 := a1) (k := k) H [] (fits_of ⟨.inl ⟨rfl, rfl⟩, trivial⟩ trivial fi_ trivial rfl) ?_
  intro k x9 hk H; rcases k with _ | k; exact none_elim H; rw [impl_foesOk.l0] at H; conv => whnf
  refine br_d H (fun c H => ?_) (fun c H => ?_)
  conv => whnf
  refine nd_ H (fun c H => ?_)
  conv => whnf
  refine Nd.mk nf_ ?_
  conv => whnf
  refine El.mk (rdm_en_S_A2_string _ _ nf_ nf_) ?_
  conv => whnf
  refine cut_ 88 [(0, (sv_S_A2_string l0)), (1, .int .i64 a1), (5, .int .i64 x9), (6, .bp 64 0), (7, (sv_S_A2_string l0)), (8, .int .i64 (l0.length : Int)), (9, .int .i64 x9)] [(64, .box [.str ((rd_A2_string l0 x9).f0), .str ((rd_A2_string l0 x9).f1)])] rfl ⟨.inl rfl, ⟨.inl rfl, ⟨.inl rfl, ⟨.inl rfl, ⟨.inl rfl, ⟨.inl rfl, ⟨.inl rfl, trivial⟩⟩⟩⟩⟩⟩⟩ ⟨rfl, trivial⟩ ?_
  conv => whnf
  revert H; refine bind_elim (fun t307 A H => ?_)
  refine call_mk (impl_isName.ac A) (avAL_cons (avA_shut' rfl) (avAL_nil)) (Or.inl rfl) rfl rfl (Nat.le_of_ble_eq_true rfl) ?_
  conv => whnf
  refine br_nt H (fun c H => ?_) (fun c H => ?_)
  conv => whnf
  refine Br.f ff_ ?_
  conv => whnf
  refine Br.f ff_ ?_
  conv => whnf
  revert H; refine bind_elim (fun t308 A H => ?_)
  refine call_mk (impl_isName.ac A) (avAL_cons (avA_shut' rfl) (avAL_nil)) (Or.inl rfl) rfl rfl (Nat.le_of_ble_eq_true rfl) ?_
  conv => whnf
  refine Br.f ff_ ?_
  conv => whnf
  refine Br.f ff_ ?_
  conv => whnf
  refine br_nt H (fun c H => ?_) (fun c H => ?_)
  conv => whnf
  refine Br.f ff_ ?_
  conv => whnf
  refine Br.f ff_ ?_
  conv => whnf
  refine Br.f ff_ ?_
  conv => whnf
  refine Br.f ff_ ?_
  conv => whnf
  refine Br.f ff_ ?_
  conv => whnf
  refine cut_ 224 [(0, (sv_S_A2_string l0)), (1, .int .i64 a1), (5, .int .i64 x9), (6, .bp 64 0), (7, (sv_S_A2_string l0)), (8, .int .i64 (l0.length : Int)), (9, .int .i64 x9), (30, .bool (!(Op.bytesLess ((rd_A2_string l0 x9).f0).toList ((rd_A2_string l0 x9).f1).toList)))] [(64, .box [.str ((rd_A2_string l0 x9).f0), .str ((rd_A2_string l0 x9).f1)])] rfl ⟨.inl rfl, ⟨.inl rfl, ⟨.inl rfl, ⟨.inl rfl, ⟨.inl rfl, ⟨.inl rfl, ⟨.inl rfl, ⟨.inl rfl, trivial⟩⟩⟩⟩⟩⟩⟩⟩ ⟨rfl, trivial⟩ ?_
  conv => whnf
  refine br_nt H (fun c H => ?_) (fun c H => ?_)
  conv => whnf
  refine br_d H (fun c H => ?_) (fun c H => ?_)
  conv => whnf
  refine Br.t ft_ ?_
  conv => whnf
  refine Br.t ft_ ?_
  conv => whnf
  refine Br.t ft_ ?_
  conv => whnf
  refine nd_ H (fun c H => ?_)
  conv => whnf
  refine nd_ H (fun c H => ?_)
  conv => whnf
  refine El.mk (rdm_en_S_A2_string _ _ nf_ nf_) ?_
  conv => whnf
  refine Br.t ft_ ?_
  conv => whnf
  refine Br.t ft_ ?_
  conv => whnf
  refine Br.t ft_ ?_
  conv => whnf
  refine Br.t ft_ ?_
  conv => whnf
  refine Br.t ft_ ?_
  conv => whnf
  refine Br.t ft_ ?_
  conv => whnf
  refine br_t H (fun c H => ?_) (fun c H => ?_)
  conv => whnf
  refine Br.t ft_ ?_
  conv => whnf
  refine Br.t ft_ ?_
  conv => whnf
  refine Br.t ft_ ?_
  conv => whnf
  refine Br.t ft_ ?_
  conv => whnf
  refine Br.t ft_ ?_
  conv => whnf
  refine Br.t ft_ ?_
  conv => whnf
  refine Br.t ft_ ?_
  conv => whnf
  refine Br.t ft_ ?_
  conv => whnf
  refine Br.t ft_ ?_
  conv => whnf
  refine Br.t ft_ ?_
  conv => whnf
  refine Br.t ft_ ?_
  conv => whnf
  refine Br.t ft_ ?_
  conv => whnf
  refine Br.t ft_ ?_
  conv => whnf
  refine cut_ 504 [(0, (sv_S_A2_string l0)), (1, .int .i64 a1), (7, (sv_S_A2_string l0)), (8, .int .i64 (l0.length : Int)), (9, .int .i64 x9), (65, .bool true)] [] rfl ⟨.inl rfl, ⟨.inl rfl, ⟨.inl rfl, ⟨.inl rfl, ⟨.inl rfl, ⟨.inl rfl, trivial⟩⟩⟩⟩⟩⟩ trivial ?_
  conv => whnf
  refine Br.t rfl ?_
  conv => whnf
  refine cut_ 512 [(4, .bool false)] [] rfl ⟨.inl rfl, trivial⟩ trivial ?_
  conv => whnf
  injection H with H; subst H
  exact ret_fz [] (rtA_eq rfl)
  conv => whnf
  refine Br.f ff_ ?_
  conv => whnf
  refine Br.f ff_ ?_
  conv => whnf
  refine Br.f ff_ ?_
  conv => whnf
  refine Nd.mk nf_ ?_
  conv => whnf
  refine Nd.mk nf_ ?_
  conv => whnf
  refine El.mk (rdm_en_S_A2_string _ _ nf_ nf_) ?_
  conv => whnf
  refine Br.f ff_ ?_
  conv => whnf
  refine Br.f ff_ ?_
  conv => whnf
  refine Br.f ff_ ?_
  conv => whnf
  refine Br.f ff_ ?_
  conv => whnf
  refine Br.f ff_ ?_
  conv => whnf
  refine Br.f ff_ ?_
  conv => whnf
  refine br_d H (fun c H => ?_) (fun c H => ?_)
  conv => whnf
  refine Br.t ft_ ?_
  conv => whnf
  refine Br.t ft_ ?_
  conv => whnf
  refine Br.t ft_ ?_
  conv => whnf
  refine Nd.mk nf_ ?_
  conv => whnf
  refine Nd.mk nf_ ?_
  conv => whnf
  refine El.mk (rdm_en_S_A2_string _ _ nf_ nf_) ?_
  conv => whnf
  refine Br.t ft_ ?_
  conv => whnf
  refine Br.t ft_ ?_
  conv => whnf
  refine Br.t ft_ ?_
  conv => whnf
  refine Br.t ft_ ?_
  conv => whnf
  refine Br.t ft_ ?_
  conv => whnf
  refine Br.f ff_ ?_
  conv => whnf
  refine Br.t ft_ ?_
  conv => whnf
  refine Br.t ft_ ?_
  conv => whnf
  refine Br.f ff_ ?_
  conv => whnf
  refine Br.t ft_ ?_
  conv => whnf
  refine cut_ 504 [(0, (sv_S_A2_string l0)), (1, .int .i64 a1), (7, (sv_S_A2_string l0)), (8, .int .i64 (l0.length : Int)), (9, .int .i64 x9), (65, .bool (!(Op.bytesLess ((rd_A2_string l0 (wrap64 (x9 - 1))).f1).toList ((rd_A2_string l0 x9).f1).toList)))] [] rfl ⟨.inl rfl, ⟨.inl rfl, ⟨.inl rfl, ⟨.inl rfl, ⟨.inl rfl, ⟨.inl rfl, trivial⟩⟩⟩⟩⟩⟩ trivial ?_
  conv => whnf
  refine br_nt H (fun c H => ?_) (fun c H => ?_)
  conv => whnf
  exact ⟨(k, wrap64 (x9 + 1)), [], ⟨H, lt_⟩, lt_, (fits_of ⟨.inl ⟨rfl, rfl⟩, trivial⟩ trivial fi_ trivial rfl)⟩
  conv => whnf
  refine cut_ 512 [(4, .bool false)] [] rfl ⟨.inl rfl, trivial⟩ trivial ?_
  conv => whnf
  injection H with H; subst H
  exact ret_fz [] (rtA_eq rfl)
  conv => whnf
  refine Br.f ff_ ?_
  conv => whnf
  refine Br.f ff_ ?_
  conv => whnf
  refine Br.f ff_ ?_
  conv => whnf
  refine Br.f ff_ ?_
  conv => whnf
  refine Br.f ff_ ?_
  conv => whnf
  refine Br.f ff_ ?_
  conv => whnf
  refine Br.f ff_ ?_
  conv => whnf
  refine Br.f ff_ ?_
  conv => whnf
  refine Br.f ff_ ?_
  conv => whnf
  refine Br.f ff_ ?_
  conv => whnf
  refine Br.t ft_ ?_
  conv => whnf
  refine Br.f ff_ ?_
  conv => whnf
  refine Br.t ft_ ?_
  conv => whnf
  refine cut_ 504 [(0, (sv_S_A2_string l0)), (1, .int .i64 a1), (7, (sv_S_A2_string l0)), (8, .int .i64 (l0.length : Int)), (9, .int .i64 x9), (65, .bool false)] [] rfl ⟨.inl rfl, ⟨.inl rfl, ⟨.inl rfl, ⟨.inl rfl, ⟨.inl rfl, ⟨.inl rfl, trivial⟩⟩⟩⟩⟩⟩ trivial ?_
  conv => whnf
  refine Br.f rfl ?_
  conv => whnf
  exact ⟨(k, wrap64 (x9 + 1)), [], ⟨H, lt_⟩, lt_, (fits_of ⟨.inl ⟨rfl, rfl⟩, trivial⟩ trivial fi_ trivial rfl)⟩
  conv => whnf
  refine Br.f ff_ ?_
  conv => whnf
  refine Br.f ff_ ?_
  conv => whnf
  refine Br.f ff_ ?_
  conv => whnf
  refine Br.f ff_ ?_
  conv => whnf
  refine Br.f ff_ ?_
  conv => whnf
  refine Br.f ff_ ?_
  conv => whnf
  refine Br.f ff_ ?_
  conv => whnf
  refine Br.f ff_ ?_
  conv => whnf
  refine Br.f ff_ ?_
  conv => whnf
  refine Br.f ff_ ?_
  conv => whnf
  refine Br.f ff_ ?_
  conv => whnf
  refine cut_ 504 [(0, (sv_S_A2_string l0)), (1, .int .i64 a1), (7, (sv_S_A2_string l0)), (8, .int .i64 (l0.length : Int)), (9, .int .i64 x9), (65, .bool false)] [] rfl ⟨.inl rfl, ⟨.inl rfl, ⟨.inl rfl, ⟨.inl rfl, ⟨.inl rfl, ⟨.inl rfl, trivial⟩⟩⟩⟩⟩⟩ trivial ?_
  conv => whnf
  refine Br.f rfl ?_
  conv => whnf
  exact ⟨(k, wrap64 (x9 + 1)), [], ⟨H, lt_⟩, lt_, (fits_of ⟨.inl ⟨rfl, rfl⟩, trivial⟩ trivial fi_ trivial rfl)⟩
  conv => whnf
  refine cut_ 232 [(4, .bool false)] [] rfl ⟨.inl rfl, trivial⟩ trivial ?_
  conv => whnf
  injection H with H; subst H
  exact ret_fz [] (rtA_eq rfl)
  conv => whnf
  refine Br.t ft_ ?_
  conv => whnf
  refine Br.t ft_ ?_
  conv => whnf
  refine Br.t ft_ ?_
  conv => whnf
  refine Br.t ft_ ?_
  conv => whnf
  refine Br.t ft_ ?_
  conv => whnf
  refine cut_ 224 [(0, (sv_S_A2_string l0)), (1, .int .i64 a1), (5, .int .i64 x9), (6, .bp 64 0), (7, (sv_S_A2_string l0)), (8, .int .i64 (l0.length : Int)), (9, .int .i64 x9), (30, .bool true)] [(64, .box [.str ((rd_A2_string l0 x9).f0), .str ((rd_A2_string l0 x9).f1)])] rfl ⟨.inl rfl, ⟨.inl rfl, ⟨.inl rfl, ⟨.inl rfl, ⟨.inl rfl, ⟨.inl rfl, ⟨.inl rfl, ⟨.inl rfl, trivial⟩⟩⟩⟩⟩⟩⟩⟩ ⟨rfl, trivial⟩ ?_
  conv => whnf
  refine Br.t rfl ?_
  conv => whnf
  refine cut_ 232 [(4, .bool false)] [] rfl ⟨.inl rfl, trivial⟩ trivial ?_
  conv => whnf
  injection H with H; subst H
  exact ret_fz [] (rtA_eq rfl)
  conv => whnf
  refine Br.t ft_ ?_
  conv => whnf
  refine Br.t ft_ ?_
  conv => whnf
  refine Br.t ft_ ?_
  conv => whnf
  refine Br.t ft_ ?_
  conv => whnf
  refine Br.t rfl ?_
  conv => whnf
  refine Br.t rfl ?_
  conv => whnf
  refine Br.t rfl ?_
  conv => whnf
  refine Br.t rfl ?_
  conv => whnf
  refine Br.t rfl ?_
  conv => whnf
  refine Br.t rfl ?_
  conv => whnf
  refine cut_ 224 [(0, (sv_S_A2_string l0)), (1, .int .i64 a1), (5, .int .i64 x9), (6, .bp 64 0), (7, (sv_S_A2_string l0)), (8, .int .i64 (l0.length : Int)), (9, .int .i64 x9), (30, .bool true)] [(64, .box [.str ((rd_A2_string l0 x9).f0), .str ((rd_A2_string l0 x9).f1)])] rfl ⟨.inl rfl, ⟨.inl rfl, ⟨.inl rfl, ⟨.inl rfl, ⟨.inl rfl, ⟨.inl rfl, ⟨.inl rfl, ⟨.inl rfl, trivial⟩⟩⟩⟩⟩⟩⟩⟩ ⟨rfl, trivial⟩ ?_
  conv => whnf
  refine Br.t rfl ?_
  conv => whnf
  refine cut_ 232 [(4, .bool false)] [] rfl ⟨.inl rfl, trivial⟩ trivial ?_
  conv => whnf
  injection H with H; subst H
  exact ret_fz [] (rtA_eq rfl)
  conv => whnf
  refine cut_ 80 [(4, .bool (decide ((l0.length : Int) ≤ a1)))] [] rfl ⟨.inl rfl, trivial⟩ trivial ?_
  conv => whnf
  injection H with H; subst H
  exact ret_fz [] (rtA_eq rfl)
theorem slices_Index_string_string.l0_lp {F : (Exit → St → Prop) → St → Prop} {hv : List Tmp} {Q : Exit → St → Prop} {σ : St} {r : Int} {k : Nat} {l0 : List ByteArray} {a1 : ByteArray} {x8 : Int} (H : slices_Index_string_string.l0 k l0 a1 x8 = some r) (rn : List (Option Nat)) (h1 : Fits σ σ [] [(8, .int .i64 x8)] [] [] rn)
    (h2 : ∀ (k0 : Nat) (x8 : Int), k0 < k + 1 → slices_Index_string_string.l0 k0 l0 a1 x8 = some r → headN σ hv [] [(8, .int .i64 x8)] [] [] (F (fun e σ' => match e with | .normal => ∃ (y : Nat × Int) (rn : List (Option Nat)), (slices_Index_string_string.l0 y.1 l0 a1 y.2 = some r ∧ y.1 < k + 1) ∧ y.1 < k0 ∧ Fits σ σ' [] [(8, .int .i64 y.2)] [] [] rn | e => Q e σ'))) : Lp F hv Q σ := by
  unfold Lp
  refine ⟨Nat × Int, fun x => slices_Index_string_string.l0 x.1 l0 a1 x.2 = some r ∧ x.1 < k + 1, fun x => x.1, [], fun x => [(8, .int .i64 x.2)], fun x => [], fun x => [], ⟨(k, x8), rn, ⟨H, Nat.lt_succ_self _⟩, h1⟩, ?_⟩
  rintro ⟨k, x8⟩ ⟨H, hk⟩
  exact h2 k x8 hk H
theorem slices_Index_string_string.ac {k : Nat} {l0 : List ByteArray} {a1 : ByteArray} {r : Int} (H : slices_Index_string_string.f k l0 a1 = some r) : ACalls Try.prog G 208 [] [(sv_str l0), .str a1] [] (.int .i64 r) := by
  refine acalls_of tok hP Try.func208 rfl (by kernel_rfl) [.tmp 4] rfl (by kernel_rfl) (Nat.le_of_ble_eq_true rfl) (.l .n (.l (.l .n (.l .n (.l .n (.l (.l .n (.c .n .n)) .n)))) .n)) rfl ?_
  unfold slices_Index_string_string.f at H
  conv => whnf
  refine slices_Index_string_string.l0_lp (l0 := l0) (a1 := a1) (k := k) H [] (fits_of ⟨.inl ⟨rfl, rfl⟩, trivial⟩ trivial fi_ trivial rfl) ?_
  intro k x8 hk H; rcases k with _ | k; exact none_elim H; rw [slices_Index_string_string.l0] at H; conv => whnf
  refine br_d H (fun c H => ?_) (fun c H => ?_)
  conv => whnf
  refine nd_ H (fun c H => ?_)
  conv => whnf
  refine Nd.mk nf_ ?_
  conv => whnf
  refine El.mk (rdm_en_str _ _ nf_ nf_) ?_
  conv => whnf
  refine cut_ 104 [(0, (sv_str l0)), (1, .str a1), (5, .int .i64 x8), (7, .int .i64 (l0.length : Int)), (8, .int .i64 x8), (16, .bool (decide (a1.toList = (rdOf ByteArray.empty l0 x8).toList)))] [] rfl ⟨.inl rfl, ⟨.inl rfl, ⟨.inl rfl, ⟨.inl rfl, ⟨.inl rfl, ⟨.inl rfl, trivial⟩⟩⟩⟩⟩⟩ trivial ?_
  conv => whnf
  refine br_d H (fun c H => ?_) (fun c H => ?_)
  conv => whnf
  injection H with H; subst H
  exact ret_fz [] (rtA_eq rfl)
  conv => whnf
  exact ⟨(k, wrap64 (x8 + 1)), [], ⟨H, lt_⟩, lt_, (fits_of ⟨.inl ⟨rfl, rfl⟩, trivial⟩ trivial fi_ trivial rfl)⟩
  conv => whnf
  injection H with H; subst H
  exact ret_fz [] (rtA_eq rfl)
theorem slices_Contains_string_string.ac {k : Nat} {l0 : List ByteArray} {a1 : ByteArray} {r : Bool} (H : slices_Contains_string_string.f k l0 a1 = some r) : ACalls Try.prog G 163 [] [(sv_str l0), .str a1] [] (.bool r) := by
  refine acalls_of tok hP Try.func163 rfl (by kernel_rfl) [.tmp 4] rfl (by kernel_rfl) (Nat.le_of_ble_eq_true rfl) .n rfl ?_
  unfold slices_Contains_string_string.f at H
  conv => whnf
  revert H; refine bind_elim (fun t361 A H => ?_)
  refine call_mk (slices_Index_string_string.ac A) (avAL_cons (avA_shut' rfl) (avAL_cons (avA_shut' rfl) (avAL_nil))) (Or.inl rfl) rfl rfl (Nat.le_of_ble_eq_true rfl) ?_
  conv => whnf
  injection H with H; subst H
  exact ret_fz [] (rtA_eq rfl)
theorem impl_has.ac {k : Nat} {l0 : List ByteArray} {a1 : ByteArray} {r : Bool} (H : impl_has.f k l0 a1 = some r) : ACalls Try.prog G 83 [] [(sv_str l0), .str a1] [] (.bool r) := by
  refine acalls_of tok hP Try.func83 rfl (by kernel_rfl) [.tmp 4] rfl (by kernel_rfl) (Nat.le_of_ble_eq_true rfl) .n rfl ?_
  unfold impl_has.f at H
  conv => whnf
  revert H; refine bind_elim (fun t363 A H => ?_)
  refine call_mk (slices_Contains_string_string.ac A) (avAL_cons (avA_shut' rfl) (avAL_cons (avA_shut' rfl) (avAL_nil))) (Or.inl rfl) rfl rfl (Nat.le_of_ble_eq_true rfl) ?_
  conv => whnf
  injection H with H; subst H
  exact ret_fz [] (rtA_eq rfl)
theorem impl_Plant_place.l0_lp {F : (Exit → St → Prop) → St → Prop} {hv : List Tmp} {Q : Exit → St → Prop} {σ : St} {r : ByteArray × Int × ByteArray × Bool} {k : Nat} {a0_2 : List S_impl_PlantPlace} {a1 : ByteArray} {x11 : Int} (H : impl_Plant_place.l0 k a0_2 a1 x11 = some r) (rn : List (Option Nat)) (h1 : Fits σ σ [0] [(11, .int .i64 x11)] [] [] rn)
    (h2 : ∀ (k0 : Nat) (x11 : Int), k0 < k + 1 → impl_Plant_place.l0 k0 a0_2 a1 x11 = some r → headN σ hv [0] [(11, .int .i64 x11)] [] [] (F (fun e σ' => match e with | .normal => ∃ (y : Nat × Int) (rn : List (Option Nat)), (impl_Plant_place.l0 y.1 a0_2 a1 y.2 = some r ∧ y.1 < k + 1) ∧ y.1 < k0 ∧ Fits σ σ' [0] [(11, .int .i64 y.2)] [] [] rn | e => Q e σ'))) : Lp F hv Q σ := by
  unfold Lp
  refine ⟨Nat × Int, fun x => impl_Plant_place.l0 x.1 a0_2 a1 x.2 = some r ∧ x.1 < k + 1, fun x => x.1, [0], fun x => [(11, .int .i64 x.2)], fun x => [], fun x => [], ⟨(k, x11), rn, ⟨H, Nat.lt_succ_self _⟩, h1⟩, ?_⟩
  rintro ⟨k, x11⟩ ⟨H, hk⟩
  exact h2 k x11 hk H
theorem impl_Plant_place.ac {k : Nat} {a0_0 : List ByteArray} {a0_1 : List S_impl_PlantFoe} {a0_2 : List S_impl_PlantPlace} {a0_3 : List S_impl_PlantValve} {a1 : ByteArray} {r : ByteArray × Int × ByteArray × Bool} (H : impl_Plant_place.f k a0_0 a0_1 a0_2 a0_3 a1 = some r) : ACalls Try.prog G 194 [] [.agg [(sv_str a0_0), (sv_S_impl_PlantFoe a0_1), (sv_S_impl_PlantPlace a0_2), (sv_S_impl_PlantValve a0_3)], .str a1] [] (.tup [.agg [.str r.1, .int .i64 r.2.1, .str r.2.2.1], .bool r.2.2.2]) := by
  refine acalls_of tok hP Try.func194 rfl (by kernel_rfl) [.cell 4 173, .tmp 5] rfl (by kernel_rfl) (Nat.le_of_ble_eq_true rfl) (.l .n (.l (.l .n (.l .n (.l .n (.l (.c .n .n) .n)))) (.c .n .n))) rfl ?_
  unfold impl_Plant_place.f at H
  conv => whnf
  refine impl_Plant_place.l0_lp (a0_2 := a0_2) (a1 := a1) (k := k) H [] (fits_of ⟨.inl ⟨rfl, rfl⟩, trivial⟩ trivial fi_ trivial rfl) ?_
  intro k x11 hk H; rcases k with _ | k; exact none_elim H; rw [impl_Plant_place.l0] at H; conv => whnf
  refine br_d H (fun c H => ?_) (fun c H => ?_)
  conv => whnf
  refine nd_ H (fun c H => ?_)
  conv => whnf
  refine Nd.mk nf_ ?_
  conv => whnf
  refine El.mk (rdm_en_S_impl_PlantPlace _ _ nf_ nf_) ?_
  conv => whnf
  refine cut_ 96 [(1, .str a1), (4, .bp 8 0), (7, .bp 80 0), (9, (sv_S_impl_PlantPlace a0_2)), (10, .int .i64 (a0_2.length : Int)), (11, .int .i64 x11)] [(8, .box [.str (⟨#[]⟩ : ByteArray), .int .i64 0, .str (⟨#[]⟩ : ByteArray)]), (80, .box [.str ((rd_impl_PlantPlace a0_2 x11).f0), .int .i64 ((rd_impl_PlantPlace a0_2 x11).f1), .str ((rd_impl_PlantPlace a0_2 x11).f2)])] rfl ⟨.inl rfl, ⟨.inl rfl, ⟨.inl rfl, ⟨.inl rfl, ⟨.inl rfl, ⟨.inl rfl, trivial⟩⟩⟩⟩⟩⟩ ⟨rfl, ⟨rfl, trivial⟩⟩ ?_
  conv => whnf
  refine br_d H (fun c H => ?_) (fun c H => ?_)
  conv => whnf
  injection H with H; subst H
  exact ret_tup [] (rtAL_cons (rtA_agg (rtL_cons (rt_eq rfl) (rtL_cons (rt_eq rfl) (rtL_cons (rt_eq rfl) (rtL_nil))))) (rtAL_cons (rtA_eq rfl) (rtAL_nil)))
  conv => whnf
  exact ⟨(k, wrap64 (x11 + 1)), [], ⟨H, lt_⟩, lt_, (fits_of ⟨.inl ⟨rfl, rfl⟩, trivial⟩ trivial fi_ trivial rfl)⟩
  conv => whnf
  refine cut_ 88 [(4, .bp 8 0), (5, .bool false)] [(8, .box [.str (⟨#[]⟩ : ByteArray), .int .i64 0, .str (⟨#[]⟩ : ByteArray)])] rfl ⟨.inl rfl, ⟨.inl rfl, trivial⟩⟩ ⟨rfl, trivial⟩ ?_
  conv => whnf
  injection H with H; subst H
  exact ret_tup [] (rtAL_cons (rtA_agg (rtL_cons (rt_eq rfl) (rtL_cons (rt_eq rfl) (rtL_cons (rt_eq rfl) (rtL_nil))))) (rtAL_cons (rtA_eq rfl) (rtAL_nil)))
theorem impl_PlantValid.j0_sq {F : (Exit → St → Prop) → St → Prop} {hv : List Tmp} {K : St → Prop} {Q : Exit → St → Prop} {σ : St} {r : Bool} {KK : Nat} {a0_0 : List ByteArray} {a0_1 : List S_impl_PlantFoe} {a0_2 : List S_impl_PlantPlace} {a0_3 : List S_impl_PlantValve} {x111 : Int}
    (h1 : F (fun e σ' => match e with | .normal => ∃ (y : Nat × Bool) (rn : List (Option Nat)), (impl_PlantValid.j0 y.1 a0_0 a0_1 a0_2 a0_3 x111 y.2 = some r ∧ y.1 < KK) ∧ Fits σ σ' [] [(170, .bool y.2)] [] [] rn | e => Q e σ') σ)
    (h2 : ∀ (k : Nat) (x170 : Bool), k < KK → impl_PlantValid.j0 k a0_0 a0_1 a0_2 a0_3 x111 x170 = some r → headN σ hv [] [(170, .bool x170)] [] [] K) : Sq F hv K Q σ := by
  unfold Sq
  refine ⟨Nat × Bool, fun x => impl_PlantValid.j0 x.1 a0_0 a0_1 a0_2 a0_3 x111 x.2 = some r ∧ x.1 < KK, [], fun x => [(170, .bool x.2)], fun x => [], fun x => [], h1, ?_⟩
  rintro ⟨k, x170⟩ ⟨H, hk⟩
  exact h2 k x170 hk H
theorem impl_PlantValid.l2_lp {F : (Exit → St → Prop) → St → Prop} {hv : List Tmp} {Q : Exit → St → Prop} {σ : St} {r : Bool} {k : Nat} {a0_0 : List ByteArray} {a0_1 : List S_impl_PlantFoe} {a0_2 : List S_impl_PlantPlace} {a0_3 : List S_impl_PlantValve} {x111 : Int} (H : impl_PlantValid.l2 k a0_0 a0_1 a0_2 a0_3 x111 = some r) (rn : List (Option Nat)) (h1 : Fits σ σ [] [(111, .int .i64 x111)] [] [] rn)
    (h2 : ∀ (k0 : Nat) (x111 : Int), k0 < k + 1 → impl_PlantValid.l2 k0 a0_0 a0_1 a0_2 a0_3 x111 = some r → headN σ hv [] [(111, .int .i64 x111)] [] [] (F (fun e σ' => match e with | .normal => ∃ (y : Nat × Int) (rn : List (Option Nat)), (impl_PlantValid.l2 y.1 a0_0 a0_1 a0_2 a0_3 y.2 = some r ∧ y.1 < k + 1) ∧ y.1 < k0 ∧ Fits σ σ' [] [(111, .int .i64 y.2)] [] [] rn | e => Q e σ'))) : Lp F hv Q σ := by
  unfold Lp
  refine ⟨Nat × Int, fun x => impl_PlantValid.l2 x.1 a0_0 a0_1 a0_2 a0_3 x.2 = some r ∧ x.1 < k + 1, fun x => x.1, [], fun x => [(111, .int .i64 x.2)], fun x => [], fun x => [], ⟨(k, x111), rn, ⟨H, Nat.lt_succ_self _⟩, h1⟩, ?_⟩
  rintro ⟨k, x111⟩ ⟨H, hk⟩
  exact h2 k x111 hk H
theorem impl_PlantValid.l1_lp {F : (Exit → St → Prop) → St → Prop} {hv : List Tmp} {Q : Exit → St → Prop} {σ : St} {r : Bool} {k : Nat} {a0_0 : List ByteArray} {a0_1 : List S_impl_PlantFoe} {a0_2 : List S_impl_PlantPlace} {a0_3 : List S_impl_PlantValve} {x66 : Int} (H : impl_PlantValid.l1 k a0_0 a0_1 a0_2 a0_3 x66 = some r) (rn : List (Option Nat)) (h1 : Fits σ σ [] [(66, .int .i64 x66)] [] [] rn)
    (h2 : ∀ (k0 : Nat) (x66 : Int), k0 < k + 1 → impl_PlantValid.l1 k0 a0_0 a0_1 a0_2 a0_3 x66 = some r → headN σ hv [] [(66, .int .i64 x66)] [] [] (F (fun e σ' => match e with | .normal => ∃ (y : Nat × Int) (rn : List (Option Nat)), (impl_PlantValid.l1 y.1 a0_0 a0_1 a0_2 a0_3 y.2 = some r ∧ y.1 < k + 1) ∧ y.1 < k0 ∧ Fits σ σ' [] [(66, .int .i64 y.2)] [] [] rn | e => Q e σ'))) : Lp F hv Q σ := by
  unfold Lp
  refine ⟨Nat × Int, fun x => impl_PlantValid.l1 x.1 a0_0 a0_1 a0_2 a0_3 x.2 = some r ∧ x.1 < k + 1, fun x => x.1, [], fun x => [(66, .int .i64 x.2)], fun x => [], fun x => [], ⟨(k, x66), rn, ⟨H, Nat.lt_succ_self _⟩, h1⟩, ?_⟩
  rintro ⟨k, x66⟩ ⟨H, hk⟩
  exact h2 k x66 hk H
theorem impl_PlantValid.l0_lp {F : (Exit → St → Prop) → St → Prop} {hv : List Tmp} {Q : Exit → St → Prop} {σ : St} {r : Bool} {k : Nat} {a0_0 : List ByteArray} {a0_1 : List S_impl_PlantFoe} {a0_2 : List S_impl_PlantPlace} {a0_3 : List S_impl_PlantValve} {x44 : Int} (H : impl_PlantValid.l0 k a0_0 a0_1 a0_2 a0_3 x44 = some r) (rn : List (Option Nat)) (h1 : Fits σ σ [] [(44, .int .i64 x44)] [] [] rn)
    (h2 : ∀ (k0 : Nat) (x44 : Int), k0 < k + 1 → impl_PlantValid.l0 k0 a0_0 a0_1 a0_2 a0_3 x44 = some r → headN σ hv [] [(44, .int .i64 x44)] [] [] (F (fun e σ' => match e with | .normal => ∃ (y : Nat × Int) (rn : List (Option Nat)), (impl_PlantValid.l0 y.1 a0_0 a0_1 a0_2 a0_3 y.2 = some r ∧ y.1 < k + 1) ∧ y.1 < k0 ∧ Fits σ σ' [] [(44, .int .i64 y.2)] [] [] rn | e => Q e σ'))) : Lp F hv Q σ := by
  unfold Lp
  refine ⟨Nat × Int, fun x => impl_PlantValid.l0 x.1 a0_0 a0_1 a0_2 a0_3 x.2 = some r ∧ x.1 < k + 1, fun x => x.1, [], fun x => [(44, .int .i64 x.2)], fun x => [], fun x => [], ⟨(k, x44), rn, ⟨H, Nat.lt_succ_self _⟩, h1⟩, ?_⟩
  rintro ⟨k, x44⟩ ⟨H, hk⟩
  exact h2 k x44 hk H
theorem impl_PlantValid.ac {k : Nat} {a0_0 : List ByteArray} {a0_1 : List S_impl_PlantFoe} {a0_2 : List S_impl_PlantPlace} {a0_3 : List S_impl_PlantValve} {r : Bool} (H : impl_PlantValid.f k a0_0 a0_1 a0_2 a0_3 = some r) : ACalls Try.prog G 123 [] [.agg [(sv_str a0_0), (sv_S_impl_PlantFoe a0_1), (sv_S_impl_PlantPlace a0_2), (sv_S_impl_PlantValve a0_3)]] [] (.bool r) := by
  refine acalls_of tok hP Try.func123 rfl (by kernel_rfl) [.tmp 2] rfl (by kernel_rfl) (Nat.le_of_ble_eq_true rfl) (.l .n (.l (.c .n (.l (.c .n .n) .n)) (.l (.l .n (.l .n (.l .n (.l (.l .n (.c .n (.l (.c .n .n) .n))) .n)))) (.l (.l .n (.c .n (.l .n (.l (.l .n (.c .n (.l (.c .n .n) .n))) .n)))) (.l (.l .n (.l .n (.l .n (.l (.c .n (.l .n (.c .n (.j .n (.l (.c .n .n) .n))))) .n)))) .n))))) rfl ?_
  unfold impl_PlantValid.f at H
  conv => whnf
  refine br_d H (fun c H => ?_) (fun c H => ?_)
  conv => whnf
  refine Br.t ft_ ?_
  conv => whnf
  refine Br.t ft_ ?_
  conv => whnf
  refine Br.t ft_ ?_
  conv => whnf
  refine Br.t ft_ ?_
  conv => whnf
  refine Br.t rfl ?_
  conv => whnf
  refine Br.t rfl ?_
  conv => whnf
  refine Br.t rfl ?_
  conv => whnf
  refine Br.t rfl ?_
  conv => whnf
  refine Br.t rfl ?_
  conv => whnf
  refine Br.t rfl ?_
  conv => whnf
  refine Br.t rfl ?_
  conv => whnf
  refine Br.t rfl ?_
  conv => whnf
  refine Br.t rfl ?_
  conv => whnf
  refine Br.t rfl ?_
  conv => whnf
  refine Br.t rfl ?_
  conv => whnf
  refine Br.t rfl ?_
  conv => whnf
  refine Br.t rfl ?_
  conv => whnf
  refine Br.t rfl ?_
  conv => whnf
  refine Br.t rfl ?_
  conv => whnf
  refine cut_ 240 [(1, .bp 0 0), (40, .bool true)] [(0, .box [(sv_str a0_0), (sv_S_impl_PlantFoe a0_1), (sv_S_impl_PlantPlace a0_2), (sv_S_impl_PlantValve a0_3)])] rfl ⟨.inl rfl, ⟨.inl rfl, trivial⟩⟩ ⟨rfl, trivial⟩ ?_
  conv => whnf
  refine Br.t rfl ?_
  conv => whnf
  refine cut_ 248 [(2, .bool false)] [] rfl ⟨.inl rfl, trivial⟩ trivial ?_
  conv => whnf
  injection H with H; subst H
  exact ret_fz [] (rtA_eq rfl)
  conv => whnf
  refine Br.f ff_ ?_
  conv => whnf
  refine Br.f ff_ ?_
  conv => whnf
  revert H; refine bind_elim (fun t403 A H => ?_)
  refine call_mk (impl_names.ac A) (avAL_cons (avA_shut' rfl) (avAL_nil)) (Or.inl rfl) rfl rfl (Nat.le_of_ble_eq_true rfl) ?_
  conv => whnf
  refine Br.f ff_ ?_
  conv => whnf
  refine Br.f ff_ ?_
  conv => whnf
  refine br_nt H (fun c H => ?_) (fun c H => ?_)
  conv => whnf
  refine Br.f ff_ ?_
  conv => whnf
  revert H; refine bind_elim (fun t404 A H => ?_)
  refine call_mk (impl_Plant_pairs.ac A) (avAL_cons (avA_agg (avL_cons (av_shut' rfl) (avL_cons (av_shut' rfl) (avL_cons (av_shut' rfl) (avL_cons (av_shut' rfl) (avL_nil)))))) (avAL_nil)) (Or.inl rfl) rfl rfl (Nat.le_of_ble_eq_true rfl) ?_
  conv => whnf
  refine Br.f ff_ ?_
  conv => whnf
  revert H; refine bind_elim (fun t405 A H => ?_)
  refine call_mk (impl_foesOk.ac A) (avAL_cons (avA_shut' rfl) (avAL_cons (avA_shut' rfl) (avAL_nil))) (Or.inl rfl) rfl rfl (Nat.le_of_ble_eq_true rfl) ?_
  conv => whnf
  refine Br.f ff_ ?_
  conv => whnf
  refine Br.f ff_ ?_
  conv => whnf
  refine br_nt H (fun c H => ?_) (fun c H => ?_)
  conv => whnf
  refine Br.f ff_ ?_
  conv => whnf
  refine Br.f ff_ ?_
  conv => whnf
  refine Br.f ff_ ?_
  conv => whnf
  refine Br.f ff_ ?_
  conv => whnf
  refine br_d H (fun c H => ?_) (fun c H => ?_)
  conv => whnf
  refine Br.t ft_ ?_
  conv => whnf
  refine Br.t ft_ ?_
  conv => whnf
  refine Br.t ft_ ?_
  conv => whnf
  refine Br.t ft_ ?_
  conv => whnf
  refine cut_ 240 [(1, .bp 0 0), (40, .bool true)] [(0, .box [(sv_str a0_0), (sv_S_impl_PlantFoe a0_1), (sv_S_impl_PlantPlace a0_2), (sv_S_impl_PlantValve a0_3)])] rfl ⟨.inl rfl, ⟨.inl rfl, trivial⟩⟩ ⟨rfl, trivial⟩ ?_
  conv => whnf
  refine Br.t rfl ?_
  conv => whnf
  refine cut_ 248 [(2, .bool false)] [] rfl ⟨.inl rfl, trivial⟩ trivial ?_
  conv => whnf
  injection H with H; subst H
  exact ret_fz [] (rtA_eq rfl)
  conv => whnf
  refine Br.f ff_ ?_
  conv => whnf
  refine Br.f ff_ ?_
  conv => whnf
  refine Br.f ff_ ?_
  conv => whnf
  refine Br.f ff_ ?_
  conv => whnf
  refine cut_ 240 [(1, .bp 0 0), (40, .bool (decide ((a0_3.length : Int) > 18)))] [(0, .box [(sv_str a0_0), (sv_S_impl_PlantFoe a0_1), (sv_S_impl_PlantPlace a0_2), (sv_S_impl_PlantValve a0_3)])] rfl ⟨.inl rfl, ⟨.inl rfl, trivial⟩⟩ ⟨rfl, trivial⟩ ?_
  conv => whnf
  refine br_d H (fun c H => ?_) (fun c H => ?_)
  conv => whnf
  refine cut_ 248 [(2, .bool false)] [] rfl ⟨.inl rfl, trivial⟩ trivial ?_
  conv => whnf
  injection H with H; subst H
  exact ret_fz [] (rtA_eq rfl)
  conv => whnf
  refine impl_PlantValid.l0_lp (a0_0 := a0_0) (a0_1 := a0_1) (a0_2 := a0_2) (a0_3 := a0_3) (k := k) H [] (fits_of ⟨.inl ⟨rfl, rfl⟩, trivial⟩ trivial fi_ trivial rfl) ?_
  intro k x44 hk H; rcases k with _ | k; exact none_elim H; rw [impl_PlantValid.l0] at H; conv => whnf
  refine br_d H (fun c H => ?_) (fun c H => ?_)
  conv => whnf
  refine nd_ H (fun c H => ?_)
  conv => whnf
  refine Nd.mk nf_ ?_
  conv => whnf
  refine El.mk (rdm_en_S_impl_PlantFoe _ _ nf_ nf_) ?_
  conv => whnf
  revert H; refine bind_elim (fun t412 A H => ?_)
  refine call_mk (impl_has.ac A) (avAL_cons (avA_shut' rfl) (avAL_cons (avA_shut' rfl) (avAL_nil))) (Or.inl rfl) rfl rfl (Nat.le_of_ble_eq_true rfl) ?_
  conv => whnf
  refine br_nt H (fun c H => ?_) (fun c H => ?_)
  conv => whnf
  refine Br.f ff_ ?_
  conv => whnf
  refine Br.f ff_ ?_
  conv => whnf
  refine Br.f ff_ ?_
  conv => whnf
  refine Br.f ff_ ?_
  conv => whnf
  revert H; refine bind_elim (fun t413 A H => ?_)
  refine call_mk (impl_has.ac A) (avAL_cons (avA_shut' rfl) (avAL_cons (avA_shut' rfl) (avAL_nil))) (Or.inl rfl) rfl rfl (Nat.le_of_ble_eq_true rfl) ?_
  conv => whnf
  refine Br.f ff_ ?_
  conv => whnf
  refine Br.f ff_ ?_
  conv => whnf
  refine cut_ 424 [(1, .bp 0 0), (42, (sv_S_impl_PlantFoe a0_1)), (43, .int .i64 (a0_1.length : Int)), (44, .int .i64 x44), (61, .bool (!t413))] [(0, .box [(sv_str a0_0), (sv_S_impl_PlantFoe a0_1), (sv_S_impl_PlantPlace a0_2), (sv_S_impl_PlantValve a0_3)])] rfl ⟨.inl rfl, ⟨.inl rfl, ⟨.inl rfl, ⟨.inl rfl, ⟨.inl rfl, trivial⟩⟩⟩⟩⟩ ⟨rfl, trivial⟩ ?_
  conv => whnf
  refine br_nt H (fun c H => ?_) (fun c H => ?_)
  conv => whnf
  exact ⟨(k, wrap64 (x44 + 1)), [], ⟨H, lt_⟩, lt_, (fits_of ⟨.inl ⟨rfl, rfl⟩, trivial⟩ trivial fi_ trivial rfl)⟩
  conv => whnf
  refine cut_ 432 [(2, .bool false)] [] rfl ⟨.inl rfl, trivial⟩ trivial ?_
  conv => whnf
  injection H with H; subst H
  exact ret_fz [] (rtA_eq rfl)
  conv => whnf
  refine Br.t ft_ ?_
  conv => whnf
  refine Br.t ft_ ?_
  conv => whnf
  refine Br.t ft_ ?_
  conv => whnf
  refine Br.t ft_ ?_
  conv => whnf
  refine Br.t ft_ ?_
  conv => whnf
  refine Br.t ft_ ?_
  conv => whnf
  refine cut_ 424 [(1, .bp 0 0), (42, (sv_S_impl_PlantFoe a0_1)), (43, .int .i64 (a0_1.length : Int)), (44, .int .i64 x44), (61, .bool true)] [(0, .box [(sv_str a0_0), (sv_S_impl_PlantFoe a0_1), (sv_S_impl_PlantPlace a0_2), (sv_S_impl_PlantValve a0_3)])] rfl ⟨.inl rfl, ⟨.inl rfl, ⟨.inl rfl, ⟨.inl rfl, ⟨.inl rfl, trivial⟩⟩⟩⟩⟩ ⟨rfl, trivial⟩ ?_
  conv => whnf
  refine Br.t rfl ?_
  conv => whnf
  refine cut_ 432 [(2, .bool false)] [] rfl ⟨.inl rfl, trivial⟩ trivial ?_
  conv => whnf
  injection H with H; subst H
  exact ret_fz [] (rtA_eq rfl)
  conv => whnf
  refine impl_PlantValid.l1_lp (a0_0 := a0_0) (a0_1 := a0_1) (a0_2 := a0_2) (a0_3 := a0_3) (k := k) H [] (fits_of ⟨.inl ⟨rfl, rfl⟩, trivial⟩ trivial fi_ trivial rfl) ?_
  intro k x66 hk H; rcases k with _ | k; exact none_elim H; rw [impl_PlantValid.l1] at H; conv => whnf
  refine cut_ 320 [(1, .bp 0 0), (64, (sv_S_impl_PlantPlace a0_2)), (65, .int .i64 (a0_2.length : Int)), (66, .int .i64 x66), (67, .bool (decide (x66 < (a0_2.length : Int))))] [(0, .box [(sv_str a0_0), (sv_S_impl_PlantFoe a0_1), (sv_S_impl_PlantPlace a0_2), (sv_S_impl_PlantValve a0_3)])] rfl ⟨.inl rfl, ⟨.inl rfl, ⟨.inl rfl, ⟨.inl rfl, ⟨.inl rfl, trivial⟩⟩⟩⟩⟩ ⟨rfl, trivial⟩ ?_
  conv => whnf
  refine br_d H (fun c H => ?_) (fun c H => ?_)
  conv => whnf
  refine nd_ H (fun c H => ?_)
  conv => whnf
  refine Nd.mk nf_ ?_
  conv => whnf
  refine El.mk (rdm_en_S_impl_PlantPlace _ _ nf_ nf_) ?_
  conv => whnf
  revert H; refine bind_elim (fun t420 A H => ?_)
  refine call_mk (impl_isName.ac A) (avAL_cons (avA_shut' rfl) (avAL_nil)) (Or.inl rfl) rfl rfl (Nat.le_of_ble_eq_true rfl) ?_
  conv => whnf
  refine br_nt H (fun c H => ?_) (fun c H => ?_)
  conv => whnf
  refine Br.f ff_ ?_
  conv => whnf
  refine Br.f ff_ ?_
  conv => whnf
  refine Br.f ff_ ?_
  conv => whnf
  refine br_d H (fun c H => ?_) (fun c H => ?_)
  conv => whnf
  refine Br.t ft_ ?_
  conv => whnf
  refine Br.t ft_ ?_
  conv => whnf
  refine Br.t ft_ ?_
  conv => whnf
  refine Br.t rfl ?_
  conv => whnf
  refine Br.t rfl ?_
  conv => whnf
  refine Br.t rfl ?_
  conv => whnf
  refine Br.t rfl ?_
  conv => whnf
  refine Br.t rfl ?_
  conv => whnf
  refine Br.t rfl ?_
  conv => whnf
  refine Br.t rfl ?_
  conv => whnf
  refine Br.t rfl ?_
  conv => whnf
  refine Br.t rfl ?_
  conv => whnf
  refine Br.t rfl ?_
  conv => whnf
  refine cut_ 656 [(1, .bp 0 0), (64, (sv_S_impl_PlantPlace a0_2)), (65, .int .i64 (a0_2.length : Int)), (66, .int .i64 x66), (106, .bool true)] [(0, .box [(sv_str a0_0), (sv_S_impl_PlantFoe a0_1), (sv_S_impl_PlantPlace a0_2), (sv_S_impl_PlantValve a0_3)])] rfl ⟨.inl rfl, ⟨.inl rfl, ⟨.inl rfl, ⟨.inl rfl, ⟨.inl rfl, trivial⟩⟩⟩⟩⟩ ⟨rfl, trivial⟩ ?_
  conv => whnf
  refine Br.t rfl ?_
  conv => whnf
  refine cut_ 664 [(2, .bool false)] [] rfl ⟨.inl rfl, trivial⟩ trivial ?_
  conv => whnf
  injection H with H; subst H
  exact ret_fz [] (rtA_eq rfl)
  conv => whnf
  refine Br.f ff_ ?_
  conv => whnf
  refine Br.f ff_ ?_
  conv => whnf
  refine Br.f ff_ ?_
  conv => whnf
  refine br_d H (fun c H => ?_) (fun c H => ?_)
  conv => whnf
  refine Br.t ft_ ?_
  conv => whnf
  refine Br.t ft_ ?_
  conv => whnf
  refine Br.t ft_ ?_
  conv => whnf
  refine Br.t ft_ ?_
  conv => whnf
  refine Br.t rfl ?_
  conv => whnf
  refine Br.t rfl ?_
  conv => whnf
  refine Br.t rfl ?_
  conv => whnf
  refine Br.t rfl ?_
  conv => whnf
  refine Br.t rfl ?_
  conv => whnf
  refine cut_ 656 [(1, .bp 0 0), (64, (sv_S_impl_PlantPlace a0_2)), (65, .int .i64 (a0_2.length : Int)), (66, .int .i64 x66), (106, .bool true)] [(0, .box [(sv_str a0_0), (sv_S_impl_PlantFoe a0_1), (sv_S_impl_PlantPlace a0_2), (sv_S_impl_PlantValve a0_3)])] rfl ⟨.inl rfl, ⟨.inl rfl, ⟨.inl rfl, ⟨.inl rfl, ⟨.inl rfl, trivial⟩⟩⟩⟩⟩ ⟨rfl, trivial⟩ ?_
  conv => whnf
  refine Br.t rfl ?_
  conv => whnf
  refine cut_ 664 [(2, .bool false)] [] rfl ⟨.inl rfl, trivial⟩ trivial ?_
  conv => whnf
  injection H with H; subst H
  exact ret_fz [] (rtA_eq rfl)
  conv => whnf
  refine Br.f ff_ ?_
  conv => whnf
  refine Br.f ff_ ?_
  conv => whnf
  revert H; refine bind_elim (fun t421 A H => ?_)
  refine call_mk (impl_isName.ac A) (avAL_cons (avA_shut' rfl) (avAL_nil)) (Or.inl rfl) rfl rfl (Nat.le_of_ble_eq_true rfl) ?_
  conv => whnf
  refine Br.f ff_ ?_
  conv => whnf
  refine Br.f ff_ ?_
  conv => whnf
  refine br_nt H (fun c H => ?_) (fun c H => ?_)
  conv => whnf
  refine Br.f ff_ ?_
  conv => whnf
  refine Br.f ff_ ?_
  conv => whnf
  refine br_d H (fun c H => ?_) (fun c H => ?_)
  conv => whnf
  refine Br.t ft_ ?_
  conv => whnf
  refine Br.t ft_ ?_
  conv => whnf
  refine Br.t ft_ ?_
  conv => whnf
  refine Br.t ft_ ?_
  conv => whnf
  refine nd_ H (fun c H => ?_)
  conv => whnf
  refine nd_ H (fun c H => ?_)
  conv => whnf
  refine El.mk (rdm_en_S_impl_PlantPlace _ _ nf_ nf_) ?_
  conv => whnf
  refine Br.t ft_ ?_
  conv => whnf
  refine Br.t ft_ ?_
  conv => whnf
  refine Br.t ft_ ?_
  conv => whnf
  refine Br.t ft_ ?_
  conv => whnf
  refine Br.t ft_ ?_
  conv => whnf
  refine Br.f ff_ ?_
  conv => whnf
  refine Br.t ft_ ?_
  conv => whnf
  refine Br.f ff_ ?_
  conv => whnf
  refine cut_ 656 [(1, .bp 0 0), (64, (sv_S_impl_PlantPlace a0_2)), (65, .int .i64 (a0_2.length : Int)), (66, .int .i64 x66), (106, .bool (!(Op.bytesLess ((rd_impl_PlantPlace a0_2 (wrap64 (x66 - 1))).f0).toList ((rd_impl_PlantPlace a0_2 x66).f0).toList)))] [(0, .box [(sv_str a0_0), (sv_S_impl_PlantFoe a0_1), (sv_S_impl_PlantPlace a0_2), (sv_S_impl_PlantValve a0_3)])] rfl ⟨.inl rfl, ⟨.inl rfl, ⟨.inl rfl, ⟨.inl rfl, ⟨.inl rfl, trivial⟩⟩⟩⟩⟩ ⟨rfl, trivial⟩ ?_
  conv => whnf
  refine br_nt H (fun c H => ?_) (fun c H => ?_)
  conv => whnf
  exact ⟨(k, wrap64 (x66 + 1)), [], ⟨H, lt_⟩, lt_, (fits_of ⟨.inl ⟨rfl, rfl⟩, trivial⟩ trivial fi_ trivial rfl)⟩
  conv => whnf
  refine cut_ 664 [(2, .bool false)] [] rfl ⟨.inl rfl, trivial⟩ trivial ?_
  conv => whnf
  injection H with H; subst H
  exact ret_fz [] (rtA_eq rfl)
  conv => whnf
  refine Br.f ff_ ?_
  conv => whnf
  refine Br.f ff_ ?_
  conv => whnf
  refine Br.f ff_ ?_
  conv => whnf
  refine Br.f ff_ ?_
  conv => whnf
  refine Br.f ff_ ?_
  conv => whnf
  refine Br.f ff_ ?_
  conv => whnf
  refine Br.f ff_ ?_
  conv => whnf
  refine Br.f ff_ ?_
  conv => whnf
  refine Br.f ff_ ?_
  conv => whnf
  refine Br.f ff_ ?_
  conv => whnf
  refine Br.f ff_ ?_
  conv => whnf
  refine Br.f ff_ ?_
  conv => whnf
  refine cut_ 656 [(1, .bp 0 0), (64, (sv_S_impl_PlantPlace a0_2)), (65, .int .i64 (a0_2.length : Int)), (66, .int .i64 x66), (106, .bool false)] [(0, .box [(sv_str a0_0), (sv_S_impl_PlantFoe a0_1), (sv_S_impl_PlantPlace a0_2), (sv_S_impl_PlantValve a0_3)])] rfl ⟨.inl rfl, ⟨.inl rfl, ⟨.inl rfl, ⟨.inl rfl, ⟨.inl rfl, trivial⟩⟩⟩⟩⟩ ⟨rfl, trivial⟩ ?_
  conv => whnf
  refine Br.f rfl ?_
  conv => whnf
  exact ⟨(k, wrap64 (x66 + 1)), [], ⟨H, lt_⟩, lt_, (fits_of ⟨.inl ⟨rfl, rfl⟩, trivial⟩ trivial fi_ trivial rfl)⟩
  conv => whnf
  refine Br.t ft_ ?_
  conv => whnf
  refine Br.t ft_ ?_
  conv => whnf
  refine Br.t ft_ ?_
  conv => whnf
  refine Br.t ft_ ?_
  conv => whnf
  refine cut_ 656 [(1, .bp 0 0), (64, (sv_S_impl_PlantPlace a0_2)), (65, .int .i64 (a0_2.length : Int)), (66, .int .i64 x66), (106, .bool true)] [(0, .box [(sv_str a0_0), (sv_S_impl_PlantFoe a0_1), (sv_S_impl_PlantPlace a0_2), (sv_S_impl_PlantValve a0_3)])] rfl ⟨.inl rfl, ⟨.inl rfl, ⟨.inl rfl, ⟨.inl rfl, ⟨.inl rfl, trivial⟩⟩⟩⟩⟩ ⟨rfl, trivial⟩ ?_
  conv => whnf
  refine Br.t rfl ?_
  conv => whnf
  refine cut_ 664 [(2, .bool false)] [] rfl ⟨.inl rfl, trivial⟩ trivial ?_
  conv => whnf
  injection H with H; subst H
  exact ret_fz [] (rtA_eq rfl)
  conv => whnf
  refine Br.t ft_ ?_
  conv => whnf
  refine Br.t ft_ ?_
  conv => whnf
  refine Br.t ft_ ?_
  conv => whnf
  refine Br.t rfl ?_
  conv => whnf
  refine Br.t rfl ?_
  conv => whnf
  refine Br.t rfl ?_
  conv => whnf
  refine Br.t rfl ?_
  conv => whnf
  refine Br.t rfl ?_
  conv => whnf
  refine Br.t rfl ?_
  conv => whnf
  refine Br.t rfl ?_
  conv => whnf
  refine Br.t rfl ?_
  conv => whnf
  refine Br.t rfl ?_
  conv => whnf
  refine Br.t rfl ?_
  conv => whnf
  refine Br.t rfl ?_
  conv => whnf
  refine Br.t rfl ?_
  conv => whnf
  refine Br.t rfl ?_
  conv => whnf
  refine Br.t rfl ?_
  conv => whnf
  refine cut_ 656 [(1, .bp 0 0), (64, (sv_S_impl_PlantPlace a0_2)), (65, .int .i64 (a0_2.length : Int)), (66, .int .i64 x66), (106, .bool true)] [(0, .box [(sv_str a0_0), (sv_S_impl_PlantFoe a0_1), (sv_S_impl_PlantPlace a0_2), (sv_S_impl_PlantValve a0_3)])] rfl ⟨.inl rfl, ⟨.inl rfl, ⟨.inl rfl, ⟨.inl rfl, ⟨.inl rfl, trivial⟩⟩⟩⟩⟩ ⟨rfl, trivial⟩ ?_
  conv => whnf
  refine Br.t rfl ?_
  conv => whnf
  refine cut_ 664 [(2, .bool false)] [] rfl ⟨.inl rfl, trivial⟩ trivial ?_
  conv => whnf
  injection H with H; subst H
  exact ret_fz [] (rtA_eq rfl)
  conv => whnf
  refine impl_PlantValid.l2_lp (a0_0 := a0_0) (a0_1 := a0_1) (a0_2 := a0_2) (a0_3 := a0_3) (k := k) H [] (fits_of ⟨.inl ⟨rfl, rfl⟩, trivial⟩ trivial fi_ trivial rfl) ?_
  intro k x111 hk H; rcases k with _ | k; exact none_elim H; rw [impl_PlantValid.l2] at H; conv => whnf
  refine br_d H (fun c H => ?_) (fun c H => ?_)
  conv => whnf
  refine nd_ H (fun c H => ?_)
  conv => whnf
  refine Nd.mk nf_ ?_
  conv => whnf
  refine El.mk (rdm_en_S_impl_PlantValve _ _ nf_ nf_) ?_
  conv => whnf
  refine cut_ 408 [(1, .bp 0 0), (7, .int .i64 x111), (8, .bp 384 0), (109, (sv_S_impl_PlantValve a0_3)), (110, .int .i64 (a0_3.length : Int)), (111, .int .i64 x111)] [(0, .box [(sv_str a0_0), (sv_S_impl_PlantFoe a0_1), (sv_S_impl_PlantPlace a0_2), (sv_S_impl_PlantValve a0_3)]), (384, .box [.str ((rd_impl_PlantValve a0_3 x111).f0), .str ((rd_impl_PlantValve a0_3 x111).f1), .str ((rd_impl_PlantValve a0_3 x111).f2), .str ((rd_impl_PlantValve a0_3 x111).f3)])] rfl ⟨.inl rfl, ⟨.inl rfl, ⟨.inl rfl, ⟨.inl rfl, ⟨.inl rfl, ⟨.inl rfl, trivial⟩⟩⟩⟩⟩⟩ ⟨rfl, ⟨rfl, trivial⟩⟩ ?_
  conv => whnf
  revert H; refine bind_elim (fun t438 A H => ?_)
  refine call_mk (impl_Plant_place.ac A) (avAL_cons (avA_agg (avL_cons (av_shut' rfl) (avL_cons (av_shut' rfl) (avL_cons (av_shut' rfl) (avL_cons (av_shut' rfl) (avL_nil)))))) (avAL_cons (avA_shut' rfl) (avAL_nil))) (Or.inl rfl) rfl rfl (Nat.le_of_ble_eq_true rfl) ?_
  conv => whnf
  revert H; refine bind_elim (fun t439 A H => ?_)
  refine call_mk (impl_Plant_place.ac A) (avAL_cons (avA_agg (avL_cons (av_shut' rfl) (avL_cons (av_shut' rfl) (avL_cons (av_shut' rfl) (avL_cons (av_shut' rfl) (avL_nil)))))) (avAL_cons (avA_shut' rfl) (avAL_nil))) (Or.inl rfl) rfl rfl (Nat.le_of_ble_eq_true rfl) ?_
  conv => whnf
  refine cut_ 568 [(1, .bp 0 0), (7, .int .i64 x111), (8, .bp 384 0), (10, .bool t438.2.2.2), (12, .bool t439.2.2.2), (109, (sv_S_impl_PlantValve a0_3)), (110, .int .i64 (a0_3.length : Int)), (111, .int .i64 x111)] [(0, .box [(sv_str a0_0), (sv_S_impl_PlantFoe a0_1), (sv_S_impl_PlantPlace a0_2), (sv_S_impl_PlantValve a0_3)]), (384, .box [.str ((rd_impl_PlantValve a0_3 x111).f0), .str ((rd_impl_PlantValve a0_3 x111).f1), .str ((rd_impl_PlantValve a0_3 x111).f2), .str ((rd_impl_PlantValve a0_3 x111).f3)])] rfl ⟨.inl rfl, ⟨.inl rfl, ⟨.inl rfl, ⟨.inl rfl, ⟨.inl rfl, ⟨.inl rfl, ⟨.inl rfl, ⟨.inl rfl, trivial⟩⟩⟩⟩⟩⟩⟩⟩ ⟨rfl, ⟨rfl, trivial⟩⟩ ?_
  conv => whnf
  refine impl_PlantValid.j0_sq (a0_0 := a0_0) (a0_1 := a0_1) (a0_2 := a0_2) (a0_3 := a0_3) (x111 := x111) (KK := k + 1) (r := r) ?_ ?_
  conv => whnf
  revert H; refine bind_elim (fun t442 A H => ?_)
  refine call_mk (impl_isName.ac A) (avAL_cons (avA_shut' rfl) (avAL_nil)) (Or.inl rfl) rfl rfl (Nat.le_of_ble_eq_true rfl) ?_
  conv => whnf
  refine br_nt H (fun c H => ?_) (fun c H => ?_)
  conv => whnf
  refine Br.f ff_ ?_
  conv => whnf
  refine Br.f ff_ ?_
  conv => whnf
  refine br_nt H (fun c H => ?_) (fun c H => ?_)
  conv => whnf
  refine Br.f ff_ ?_
  conv => whnf
  refine Br.f ff_ ?_
  conv => whnf
  refine br_nt H (fun c H => ?_) (fun c H => ?_)
  conv => whnf
  refine Br.f ff_ ?_
  conv => whnf
  refine Br.f ff_ ?_
  conv => whnf
  refine Br.f ff_ ?_
  conv => whnf
  refine Br.f ff_ ?_
  conv => whnf
  refine Br.f ff_ ?_
  conv => whnf
  refine br_nt H (fun c H => ?_) (fun c H => ?_)
  conv => whnf
  refine Br.f ff_ ?_
  conv => whnf
  refine Br.f ff_ ?_
  conv => whnf
  revert H; refine bind_elim (fun t443 A H => ?_)
  refine call_mk (impl_isName.ac A) (avAL_cons (avA_shut' rfl) (avAL_nil)) (Or.inl rfl) rfl rfl (Nat.le_of_ble_eq_true rfl) ?_
  conv => whnf
  refine Br.f ff_ ?_
  conv => whnf
  refine Br.f ff_ ?_
  conv => whnf
  refine br_nt H (fun c H => ?_) (fun c H => ?_)
  conv => whnf
  refine Br.f ff_ ?_
  conv => whnf
  refine Br.f ff_ ?_
  conv => whnf
  refine br_d H (fun c H => ?_) (fun c H => ?_)
  conv => whnf
  refine Br.t ft_ ?_
  conv => whnf
  refine Br.t ft_ ?_
  conv => whnf
  refine Br.t ft_ ?_
  conv => whnf
  refine Br.t ft_ ?_
  conv => whnf
  refine nd_ H (fun c H => ?_)
  conv => whnf
  refine nd_ H (fun c H => ?_)
  conv => whnf
  refine El.mk (rdm_en_S_impl_PlantValve _ _ nf_ nf_) ?_
  conv => whnf
  refine Br.t ft_ ?_
  conv => whnf
  refine Br.t ft_ ?_
  conv => whnf
  refine Br.t ft_ ?_
  conv => whnf
  refine Br.t ft_ ?_
  conv => whnf
  refine Br.t ft_ ?_
  conv => whnf
  refine Br.f ff_ ?_
  conv => whnf
  refine Br.t ft_ ?_
  conv => whnf
  refine Br.f ff_ ?_
  conv => whnf
  exact ⟨(k, !(Op.bytesLess ((rd_impl_PlantValve a0_3 (wrap64 (x111 - 1))).f0).toList ((rd_impl_PlantValve a0_3 x111).f0).toList)), [], ⟨H, lt_⟩, (fits_of ⟨.inl ⟨rfl, rfl⟩, trivial⟩ trivial fi_ trivial rfl)⟩
  conv => whnf
  refine Br.f ff_ ?_
  conv => whnf
  refine Br.f ff_ ?_
  conv => whnf
  refine Br.f ff_ ?_
  conv => whnf
  refine Br.f ff_ ?_
  conv => whnf
  refine Br.f ff_ ?_
  conv => whnf
  refine Br.f ff_ ?_
  conv => whnf
  refine Br.f ff_ ?_
  conv => whnf
  refine Br.f ff_ ?_
  conv => whnf
  refine Br.f ff_ ?_
  conv => whnf
  refine Br.f ff_ ?_
  conv => whnf
  refine Br.f ff_ ?_
  conv => whnf
  refine Br.f ff_ ?_
  conv => whnf
  exact ⟨(k, false), [], ⟨H, lt_⟩, (fits_of ⟨.inl ⟨rfl, rfl⟩, trivial⟩ trivial fi_ trivial rfl)⟩
  conv => whnf
  refine Br.t ft_ ?_
  conv => whnf
  refine Br.t ft_ ?_
  conv => whnf
  refine Br.t ft_ ?_
  conv => whnf
  refine Br.t ft_ ?_
  conv => whnf
  exact ⟨(k, true), [], ⟨H, lt_⟩, (fits_of ⟨.inl ⟨rfl, rfl⟩, trivial⟩ trivial fi_ trivial rfl)⟩
  conv => whnf
  refine Br.t ft_ ?_
  conv => whnf
  refine Br.t ft_ ?_
  conv => whnf
  refine Br.t ft_ ?_
  conv => whnf
  refine Br.t ft_ ?_
  conv => whnf
  refine Br.t rfl ?_
  conv => whnf
  refine Br.t rfl ?_
  conv => whnf
  refine Br.t rfl ?_
  conv => whnf
  refine Br.t rfl ?_
  conv => whnf
  refine Br.t rfl ?_
  conv => whnf
  exact ⟨(k, true), [], ⟨H, lt_⟩, (fits_of ⟨.inl ⟨rfl, rfl⟩, trivial⟩ trivial fi_ trivial rfl)⟩
  conv => whnf
  refine Br.t ft_ ?_
  conv => whnf
  refine Br.t ft_ ?_
  conv => whnf
  refine Br.t ft_ ?_
  conv => whnf
  refine Br.t ft_ ?_
  conv => whnf
  refine Br.t ft_ ?_
  conv => whnf
  refine Br.t rfl ?_
  conv => whnf
  refine Br.t rfl ?_
  conv => whnf
  refine Br.t rfl ?_
  conv => whnf
  refine Br.t rfl ?_
  conv => whnf
  refine Br.t rfl ?_
  conv => whnf
  refine Br.t rfl ?_
  conv => whnf
  refine Br.t rfl ?_
  conv => whnf
  refine Br.t rfl ?_
  conv => whnf
  refine Br.t rfl ?_
  conv => whnf
  refine Br.t rfl ?_
  conv => whnf
  exact ⟨(k, true), [], ⟨H, lt_⟩, (fits_of ⟨.inl ⟨rfl, rfl⟩, trivial⟩ trivial fi_ trivial rfl)⟩
  conv => whnf
  refine Br.t ft_ ?_
  conv => whnf
  refine Br.t ft_ ?_
  conv => whnf
  refine Br.t rfl ?_
  conv => whnf
  refine Br.t rfl ?_
  conv => whnf
  refine Br.t rfl ?_
  conv => whnf
  refine Br.t rfl ?_
  conv => whnf
  refine Br.t rfl ?_
  conv => whnf
  refine Br.t rfl ?_
  conv => whnf
  refine Br.t rfl ?_
  conv => whnf
  refine Br.t rfl ?_
  conv => whnf
  refine Br.t rfl ?_
  conv => whnf
  refine Br.t rfl ?_
  conv => whnf
  refine Br.t rfl ?_
  conv => whnf
  refine Br.t rfl ?_
  conv => whnf
  refine Br.t rfl ?_
  conv => whnf
  refine Br.t rfl ?_
  conv => whnf
  refine Br.t rfl ?_
  conv => whnf
  refine Br.t rfl ?_
  conv => whnf
  exact ⟨(k, true), [], ⟨H, lt_⟩, (fits_of ⟨.inl ⟨rfl, rfl⟩, trivial⟩ trivial fi_ trivial rfl)⟩
  conv => whnf
  refine Br.t ft_ ?_
  conv => whnf
  refine Br.t ft_ ?_
  conv => whnf
  refine Br.t rfl ?_
  conv => whnf
  refine Br.t rfl ?_
  conv => whnf
  refine Br.t rfl ?_
  conv => whnf
  refine Br.t rfl ?_
  conv => whnf
  refine Br.t rfl ?_
  conv => whnf
  refine Br.t rfl ?_
  conv => whnf
  refine Br.t rfl ?_
  conv => whnf
  refine Br.t rfl ?_
  conv => whnf
  refine Br.t rfl ?_
  conv => whnf
  refine Br.t rfl ?_
  conv => whnf
  refine Br.t rfl ?_
  conv => whnf
  refine Br.t rfl ?_
  conv => whnf
  refine Br.t rfl ?_
  conv => whnf
  refine Br.t rfl ?_
  conv => whnf
  refine Br.t rfl ?_
  conv => whnf
  refine Br.t rfl ?_
  conv => whnf
  refine Br.t rfl ?_
  conv => whnf
  refine Br.t rfl ?_
  conv => whnf
  refine Br.t rfl ?_
  conv => whnf
  exact ⟨(k, true), [], ⟨H, lt_⟩, (fits_of ⟨.inl ⟨rfl, rfl⟩, trivial⟩ trivial fi_ trivial rfl)⟩
  intro k x170 hk H; rcases k with _ | k; exact none_elim H; rw [impl_PlantValid.j0] at H; conv => whnf
  refine br_t H (fun c H => ?_) (fun c H => ?_)
  conv => whnf
  refine cut_ 576 [(2, .bool false)] [] rfl ⟨.inl rfl, trivial⟩ trivial ?_
  conv => whnf
  injection H with H; subst H
  exact ret_fz [] (rtA_eq rfl)
  conv => whnf
  exact ⟨(k, wrap64 (x111 + 1)), [], ⟨H, lt_⟩, lt_, (fits_of ⟨.inl ⟨rfl, rfl⟩, trivial⟩ trivial fi_ trivial rfl)⟩
  conv => whnf
  injection H with H; subst H
  exact ret_fz [] (rtA_eq rfl)
  conv => whnf
  refine Br.t ft_ ?_
  conv => whnf
  refine Br.t ft_ ?_
  conv => whnf
  refine Br.t ft_ ?_
  conv => whnf
  refine Br.t ft_ ?_
  conv => whnf
  refine Br.t rfl ?_
  conv => whnf
  refine Br.t rfl ?_
  conv => whnf
  refine Br.t rfl ?_
  conv => whnf
  refine Br.t rfl ?_
  conv => whnf
  refine Br.t rfl ?_
  conv => whnf
  refine cut_ 240 [(1, .bp 0 0), (40, .bool true)] [(0, .box [(sv_str a0_0), (sv_S_impl_PlantFoe a0_1), (sv_S_impl_PlantPlace a0_2), (sv_S_impl_PlantValve a0_3)])] rfl ⟨.inl rfl, ⟨.inl rfl, trivial⟩⟩ ⟨rfl, trivial⟩ ?_
  conv => whnf
  refine Br.t rfl ?_
  conv => whnf
  refine cut_ 248 [(2, .bool false)] [] rfl ⟨.inl rfl, trivial⟩ trivial ?_
  conv => whnf
  injection H with H; subst H
  exact ret_fz [] (rtA_eq rfl)
  conv => whnf
  refine Br.t ft_ ?_
  conv => whnf
  refine Br.t ft_ ?_
  conv => whnf
  refine Br.t ft_ ?_
  conv => whnf
  refine Br.t ft_ ?_
  conv => whnf
  refine Br.t rfl ?_
  conv => whnf
  refine Br.t rfl ?_
  conv => whnf
  refine Br.t rfl ?_
  conv => whnf
  refine Br.t rfl ?_
  conv => whnf
  refine Br.t rfl ?_
  conv => whnf
  refine Br.t rfl ?_
  conv => whnf
  refine Br.t rfl ?_
  conv => whnf
  refine Br.t rfl ?_
  conv => whnf
  refine Br.t rfl ?_
  conv => whnf
  refine Br.t rfl ?_
  conv => whnf
  refine cut_ 240 [(1, .bp 0 0), (40, .bool true)] [(0, .box [(sv_str a0_0), (sv_S_impl_PlantFoe a0_1), (sv_S_impl_PlantPlace a0_2), (sv_S_impl_PlantValve a0_3)])] rfl ⟨.inl rfl, ⟨.inl rfl, trivial⟩⟩ ⟨rfl, trivial⟩ ?_
  conv => whnf
  refine Br.t rfl ?_
  conv => whnf
  refine cut_ 248 [(2, .bool false)] [] rfl ⟨.inl rfl, trivial⟩ trivial ?_
  conv => whnf
  injection H with H; subst H
  exact ret_fz [] (rtA_eq rfl)
theorem impl_bookOf.l2_lp {F : (Exit → St → Prop) → St → Prop} {hv : List Tmp} {Q : Exit → St → Prop} {σ : St} {r : (List S_impl_ClaimFoe) × (List S_impl_ClaimSpot) × (List ByteArray) × (List S_impl_ClaimPart) × Int} {k : Nat} {a0_3 : List S_impl_PlantValve} {a1 : ByteArray} {x55 : Int} {x1016000_2 : List S_impl_ClaimFoe} {x1016001_2 : List S_impl_ClaimSpot} {x1016002_2 : List ByteArray} {x1016003_2 : List S_impl_ClaimPart} {x1016004_2 : Int} (H : impl_bookOf.l2 k a0_3 a1 x55 x1016000_2 x1016001_2 x1016002_2 x1016003_2 x1016004_2 = some r) (rn : List (Option Nat)) (h1 : Fits σ σ [0, 16, 100, 101, 102, 103] [(55, .int .i64 x55)] [(16, .box [.own 0 x1016000_2.length, .own 1 x1016001_2.length, .own 2 x1016002_2.length, .own 3 x1016003_2.length, .int .i64 x1016004_2])] [.arr 171 2 (x1016000_2.map en_S_impl_ClaimFoe), .arr 150 5 (x1016001_2.map en_S_impl_ClaimSpot), .arr 9 1 (x1016002_2.map en_str), .arr 156 7 (x1016003_2.map en_S_impl_ClaimPart)] rn)
    (h2 : ∀ (k0 : Nat) (x55 : Int) (x1016000_2 : List S_impl_ClaimFoe) (x1016001_2 : List S_impl_ClaimSpot) (x1016002_2 : List ByteArray) (x1016003_2 : List S_impl_ClaimPart) (x1016004_2 : Int), k0 < k + 1 → impl_bookOf.l2 k0 a0_3 a1 x55 x1016000_2 x1016001_2 x1016002_2 x1016003_2 x1016004_2 = some r → headN σ hv [0, 16, 100, 101, 102, 103] [(55, .int .i64 x55)] [(16, .box [.own 0 x1016000_2.length, .own 1 x1016001_2.length, .own 2 x1016002_2.length, .own 3 x1016003_2.length, .int .i64 x1016004_2])] [.arr 171 2 (x1016000_2.map en_S_impl_ClaimFoe), .arr 150 5 (x1016001_2.map en_S_impl_ClaimSpot), .arr 9 1 (x1016002_2.map en_str), .arr 156 7 (x1016003_2.map en_S_impl_ClaimPart)] (F (fun e σ' => match e with | .normal => ∃ (y : Nat × Int × (List S_impl_ClaimFoe) × (List S_impl_ClaimSpot) × (List ByteArray) × (List S_impl_ClaimPart) × Int) (rn : List (Option Nat)), (impl_bookOf.l2 y.1 a0_3 a1 y.2.1 y.2.2.1 y.2.2.2.1 y.2.2.2.2.1 y.2.2.2.2.2.1 y.2.2.2.2.2.2 = some r ∧ y.1 < k + 1) ∧ y.1 < k0 ∧ Fits σ σ' [0, 16, 100, 101, 102, 103] [(55, .int .i64 y.2.1)] [(16, .box [.own 0 y.2.2.1.length, .own 1 y.2.2.2.1.length, .own 2 y.2.2.2.2.1.length, .own 3 y.2.2.2.2.2.1.length, .int .i64 y.2.2.2.2.2.2])] [.arr 171 2 (y.2.2.1.map en_S_impl_ClaimFoe), .arr 150 5 (y.2.2.2.1.map en_S_impl_ClaimSpot), .arr 9 1 (y.2.2.2.2.1.map en_str), .arr 156 7 (y.2.2.2.2.2.1.map en_S_impl_ClaimPart)] rn | e => Q e σ'))) : Lp F hv Q σ := by
  unfold Lp
  refine ⟨Nat × Int × (List S_impl_ClaimFoe) × (List S_impl_ClaimSpot) × (List ByteArray) × (List S_impl_ClaimPart) × Int, fun x => impl_bookOf.l2 x.1 a0_3 a1 x.2.1 x.2.2.1 x.2.2.2.1 x.2.2.2.2.1 x.2.2.2.2.2.1 x.2.2.2.2.2.2 = some r ∧ x.1 < k + 1, fun x => x.1, [0, 16, 100, 101, 102, 103], fun x => [(55, .int .i64 x.2.1)], fun x => [(16, .box [.own 0 x.2.2.1.length, .own 1 x.2.2.2.1.length, .own 2 x.2.2.2.2.1.length, .own 3 x.2.2.2.2.2.1.length, .int .i64 x.2.2.2.2.2.2])], fun x => [.arr 171 2 (x.2.2.1.map en_S_impl_ClaimFoe), .arr 150 5 (x.2.2.2.1.map en_S_impl_ClaimSpot), .arr 9 1 (x.2.2.2.2.1.map en_str), .arr 156 7 (x.2.2.2.2.2.1.map en_S_impl_ClaimPart)], ⟨(k, x55, x1016000_2, x1016001_2, x1016002_2, x1016003_2, x1016004_2), rn, ⟨H, Nat.lt_succ_self _⟩, h1⟩, ?_⟩
  rintro ⟨k, x55, x1016000_2, x1016001_2, x1016002_2, x1016003_2, x1016004_2⟩ ⟨H, hk⟩
  exact h2 k x55 x1016000_2 x1016001_2 x1016002_2 x1016003_2 x1016004_2 hk H
theorem impl_bookOf.l1_lp {F : (Exit → St → Prop) → St → Prop} {hv : List Tmp} {Q : Exit → St → Prop} {σ : St} {r : (List S_impl_ClaimFoe) × (List S_impl_ClaimSpot) × (List ByteArray) × (List S_impl_ClaimPart) × Int} {k : Nat} {a0_2 : List S_impl_PlantPlace} {a0_3 : List S_impl_PlantValve} {a1 : ByteArray} {x33 : Int} {x1016000_1 : List S_impl_ClaimFoe} {x1016001_1 : List S_impl_ClaimSpot} {x1016002_1 : List ByteArray} {x1016003_1 : List S_impl_ClaimPart} {x1016004_1 : Int} (H : impl_bookOf.l1 k a0_2 a0_3 a1 x33 x1016000_1 x1016001_1 x1016002_1 x1016003_1 x1016004_1 = some r) (rn : List (Option Nat)) (h1 : Fits σ σ [16, 56, 57, 58, 59] [(33, .int .i64 x33)] [(16, .box [.own 0 x1016000_1.length, .own 1 x1016001_1.length, .own 2 x1016002_1.length, .own 3 x1016003_1.length, .int .i64 x1016004_1])] [.arr 171 2 (x1016000_1.map en_S_impl_ClaimFoe), .arr 150 5 (x1016001_1.map en_S_impl_ClaimSpot), .arr 9 1 (x1016002_1.map en_str), .arr 156 7 (x1016003_1.map en_S_impl_ClaimPart)] rn)
    (h2 : ∀ (k0 : Nat) (x33 : Int) (x1016000_1 : List S_impl_ClaimFoe) (x1016001_1 : List S_impl_ClaimSpot) (x1016002_1 : List ByteArray) (x1016003_1 : List S_impl_ClaimPart) (x1016004_1 : Int), k0 < k + 1 → impl_bookOf.l1 k0 a0_2 a0_3 a1 x33 x1016000_1 x1016001_1 x1016002_1 x1016003_1 x1016004_1 = some r → headN σ hv [16, 56, 57, 58, 59] [(33, .int .i64 x33)] [(16, .box [.own 0 x1016000_1.length, .own 1 x1016001_1.length, .own 2 x1016002_1.length, .own 3 x1016003_1.length, .int .i64 x1016004_1])] [.arr 171 2 (x1016000_1.map en_S_impl_ClaimFoe), .arr 150 5 (x1016001_1.map en_S_impl_ClaimSpot), .arr 9 1 (x1016002_1.map en_str), .arr 156 7 (x1016003_1.map en_S_impl_ClaimPart)] (F (fun e σ' => match e with | .normal => ∃ (y : Nat × Int × (List S_impl_ClaimFoe) × (List S_impl_ClaimSpot) × (List ByteArray) × (List S_impl_ClaimPart) × Int) (rn : List (Option Nat)), (impl_bookOf.l1 y.1 a0_2 a0_3 a1 y.2.1 y.2.2.1 y.2.2.2.1 y.2.2.2.2.1 y.2.2.2.2.2.1 y.2.2.2.2.2.2 = some r ∧ y.1 < k + 1) ∧ y.1 < k0 ∧ Fits σ σ' [16, 56, 57, 58, 59] [(33, .int .i64 y.2.1)] [(16, .box [.own 0 y.2.2.1.length, .own 1 y.2.2.2.1.length, .own 2 y.2.2.2.2.1.length, .own 3 y.2.2.2.2.2.1.length, .int .i64 y.2.2.2.2.2.2])] [.arr 171 2 (y.2.2.1.map en_S_impl_ClaimFoe), .arr 150 5 (y.2.2.2.1.map en_S_impl_ClaimSpot), .arr 9 1 (y.2.2.2.2.1.map en_str), .arr 156 7 (y.2.2.2.2.2.1.map en_S_impl_ClaimPart)] rn | e => Q e σ'))) : Lp F hv Q σ := by
  unfold Lp
  refine ⟨Nat × Int × (List S_impl_ClaimFoe) × (List S_impl_ClaimSpot) × (List ByteArray) × (List S_impl_ClaimPart) × Int, fun x => impl_bookOf.l1 x.1 a0_2 a0_3 a1 x.2.1 x.2.2.1 x.2.2.2.1 x.2.2.2.2.1 x.2.2.2.2.2.1 x.2.2.2.2.2.2 = some r ∧ x.1 < k + 1, fun x => x.1, [16, 56, 57, 58, 59], fun x => [(33, .int .i64 x.2.1)], fun x => [(16, .box [.own 0 x.2.2.1.length, .own 1 x.2.2.2.1.length, .own 2 x.2.2.2.2.1.length, .own 3 x.2.2.2.2.2.1.length, .int .i64 x.2.2.2.2.2.2])], fun x => [.arr 171 2 (x.2.2.1.map en_S_impl_ClaimFoe), .arr 150 5 (x.2.2.2.1.map en_S_impl_ClaimSpot), .arr 9 1 (x.2.2.2.2.1.map en_str), .arr 156 7 (x.2.2.2.2.2.1.map en_S_impl_ClaimPart)], ⟨(k, x33, x1016000_1, x1016001_1, x1016002_1, x1016003_1, x1016004_1), rn, ⟨H, Nat.lt_succ_self _⟩, h1⟩, ?_⟩
  rintro ⟨k, x33, x1016000_1, x1016001_1, x1016002_1, x1016003_1, x1016004_1⟩ ⟨H, hk⟩
  exact h2 k x33 x1016000_1 x1016001_1 x1016002_1 x1016003_1 x1016004_1 hk H
theorem impl_bookOf.l0_lp {F : (Exit → St → Prop) → St → Prop} {hv : List Tmp} {Q : Exit → St → Prop} {σ : St} {r : (List S_impl_ClaimFoe) × (List S_impl_ClaimSpot) × (List ByteArray) × (List S_impl_ClaimPart) × Int} {k : Nat} {a0_1 : List S_impl_PlantFoe} {a0_2 : List S_impl_PlantPlace} {a0_3 : List S_impl_PlantValve} {a1 : ByteArray} {x15 : Int} {x1016000 : List S_impl_ClaimFoe} {x1016001 : List S_impl_ClaimSpot} {x1016002 : List ByteArray} {x1016003 : List S_impl_ClaimPart} {x1016004 : Int} (H : impl_bookOf.l0 k a0_1 a0_2 a0_3 a1 x15 x1016000 x1016001 x1016002 x1016003 x1016004 = some r) (rn : List (Option Nat)) (h1 : Fits σ σ [16] [(15, .int .i64 x15)] [(16, .box [.own 0 x1016000.length, .own 1 x1016001.length, .own 2 x1016002.length, .own 3 x1016003.length, .int .i64 x1016004])] [.arr 171 2 (x1016000.map en_S_impl_ClaimFoe), .arr 150 5 (x1016001.map en_S_impl_ClaimSpot), .arr 9 1 (x1016002.map en_str), .arr 156 7 (x1016003.map en_S_impl_ClaimPart)] rn)
    (h2 : ∀ (k0 : Nat) (x15 : Int) (x1016000 : List S_impl_ClaimFoe) (x1016001 : List S_impl_ClaimSpot) (x1016002 : List ByteArray) (x1016003 : List S_impl_ClaimPart) (x1016004 : Int), k0 < k + 1 → impl_bookOf.l0 k0 a0_1 a0_2 a0_3 a1 x15 x1016000 x1016001 x1016002 x1016003 x1016004 = some r → headN σ hv [16] [(15, .int .i64 x15)] [(16, .box [.own 0 x1016000.length, .own 1 x1016001.length, .own 2 x1016002.length, .own 3 x1016003.length, .int .i64 x1016004])] [.arr 171 2 (x1016000.map en_S_impl_ClaimFoe), .arr 150 5 (x1016001.map en_S_impl_ClaimSpot), .arr 9 1 (x1016002.map en_str), .arr 156 7 (x1016003.map en_S_impl_ClaimPart)] (F (fun e σ' => match e with | .normal => ∃ (y : Nat × Int × (List S_impl_ClaimFoe) × (List S_impl_ClaimSpot) × (List ByteArray) × (List S_impl_ClaimPart) × Int) (rn : List (Option Nat)), (impl_bookOf.l0 y.1 a0_1 a0_2 a0_3 a1 y.2.1 y.2.2.1 y.2.2.2.1 y.2.2.2.2.1 y.2.2.2.2.2.1 y.2.2.2.2.2.2 = some r ∧ y.1 < k + 1) ∧ y.1 < k0 ∧ Fits σ σ' [16] [(15, .int .i64 y.2.1)] [(16, .box [.own 0 y.2.2.1.length, .own 1 y.2.2.2.1.length, .own 2 y.2.2.2.2.1.length, .own 3 y.2.2.2.2.2.1.length, .int .i64 y.2.2.2.2.2.2])] [.arr 171 2 (y.2.2.1.map en_S_impl_ClaimFoe), .arr 150 5 (y.2.2.2.1.map en_S_impl_ClaimSpot), .arr 9 1 (y.2.2.2.2.1.map en_str), .arr 156 7 (y.2.2.2.2.2.1.map en_S_impl_ClaimPart)] rn | e => Q e σ'))) : Lp F hv Q σ := by
  unfold Lp
  refine ⟨Nat × Int × (List S_impl_ClaimFoe) × (List S_impl_ClaimSpot) × (List ByteArray) × (List S_impl_ClaimPart) × Int, fun x => impl_bookOf.l0 x.1 a0_1 a0_2 a0_3 a1 x.2.1 x.2.2.1 x.2.2.2.1 x.2.2.2.2.1 x.2.2.2.2.2.1 x.2.2.2.2.2.2 = some r ∧ x.1 < k + 1, fun x => x.1, [16], fun x => [(15, .int .i64 x.2.1)], fun x => [(16, .box [.own 0 x.2.2.1.length, .own 1 x.2.2.2.1.length, .own 2 x.2.2.2.2.1.length, .own 3 x.2.2.2.2.2.1.length, .int .i64 x.2.2.2.2.2.2])], fun x => [.arr 171 2 (x.2.2.1.map en_S_impl_ClaimFoe), .arr 150 5 (x.2.2.2.1.map en_S_impl_ClaimSpot), .arr 9 1 (x.2.2.2.2.1.map en_str), .arr 156 7 (x.2.2.2.2.2.1.map en_S_impl_ClaimPart)], ⟨(k, x15, x1016000, x1016001, x1016002, x1016003, x1016004), rn, ⟨H, Nat.lt_succ_self _⟩, h1⟩, ?_⟩
  rintro ⟨k, x15, x1016000, x1016001, x1016002, x1016003, x1016004⟩ ⟨H, hk⟩
  exact h2 k x15 x1016000 x1016001 x1016002 x1016003 x1016004 hk H
theorem impl_bookOf.ac {k : Nat} {a0_0 : List ByteArray} {a0_1 : List S_impl_PlantFoe} {a0_2 : List S_impl_PlantPlace} {a0_3 : List S_impl_PlantValve} {a1 : ByteArray} {r : (List S_impl_ClaimFoe) × (List S_impl_ClaimSpot) × (List ByteArray) × (List S_impl_ClaimPart) × Int} (H : impl_bookOf.f k a0_0 a0_1 a0_2 a0_3 a1 = some r) : ACalls Try.prog G 124 [] [.agg [(sv_str a0_0), (sv_S_impl_PlantFoe a0_1), (sv_S_impl_PlantPlace a0_2), (sv_S_impl_PlantValve a0_3)], .str a1] [] (.agg [(sv_S_impl_ClaimFoe r.1), (sv_S_impl_ClaimSpot r.2.1), (sv_str r.2.2.1), (sv_S_impl_ClaimPart r.2.2.2.1), .int .i64 r.2.2.2.2]) := by
  refine acalls_of tok hP Try.func124 rfl (by kernel_rfl) [.cell 4 60] rfl (by kernel_rfl) (Nat.le_of_ble_eq_true rfl) (.l .n (.l .n (.l (.l .n (.l .n (.l .n (.c (.c .n .n) .n)))) (.l (.c .n (.l .n (.l .n (.c .n .n)))) (.l (.l .n (.l .n (.l .n (.l (.l .n (.c .n .n)) .n)))) .n))))) rfl ?_
  unfold impl_bookOf.f at H
  conv => whnf
  refine impl_bookOf.l0_lp (a0_1 := a0_1) (a0_2 := a0_2) (a0_3 := a0_3) (a1 := a1) (k := k) H [none, none, none, none] (fits_of ⟨.inl ⟨rfl, rfl⟩, trivial⟩ ⟨⟨_, _, rfl⟩, ⟨⟨_, _, rfl⟩, ⟨⟨_, _, rfl⟩, ⟨⟨_, _, rfl⟩, trivial⟩⟩⟩⟩ fi_ ⟨⟨_, rfl⟩, ⟨_, rfl, ⟨⟨rfl, rfl⟩, ⟨⟨rfl, rfl⟩, ⟨⟨rfl, rfl⟩, ⟨⟨rfl, rfl⟩, ⟨.inl ⟨rfl, rfl⟩, trivial⟩⟩⟩⟩⟩⟩, trivial⟩ rfl) ?_
  intro k x15 x1016000 x1016001 x1016002 x1016003 x1016004 hk H; rcases k with _ | k; exact none_elim H; rw [impl_bookOf.l0] at H; conv => whnf
  refine br_d H (fun c H => ?_) (fun c H => ?_)
  conv => whnf
  refine nd_ H (fun c H => ?_)
  conv => whnf
  refine Nd.mk nf_ ?_
  conv => whnf
  refine El.mk (rdm_en_S_impl_PlantFoe _ _ nf_ nf_) ?_
  conv => whnf
  refine cut_ 100 [(1, .str a1), (2, .bp 0 0), (4, .bp 8 0), (5, .bp 16 0), (7, .bp 84 0), (13, (sv_S_impl_PlantFoe a0_1)), (14, .int .i64 (a0_1.length : Int)), (15, .int .i64 x15)] [(0, .box [(sv_str a0_0), (sv_S_impl_PlantFoe a0_1), (sv_S_impl_PlantPlace a0_2), (sv_S_impl_PlantValve a0_3)]), (8, .box [.nil, .nil, .nil, .nil, .int .i64 0]), (16, .box [.own 56 x1016000.length, .own 57 x1016001.length, .own 58 x1016002.length, .own 59 x1016003.length, .int .i64 x1016004]), (56, .arr 171 2 (x1016000.map en_S_impl_ClaimFoe)), (57, .arr 150 5 (x1016001.map en_S_impl_ClaimSpot)), (58, .arr 9 1 (x1016002.map en_str)), (59, .arr 156 7 (x1016003.map en_S_impl_ClaimPart)), (84, .box [.str ((rd_impl_PlantFoe a0_1 x15).f0), .str ((rd_impl_PlantFoe a0_1 x15).f1)])] rfl ⟨.inl rfl, ⟨.inl rfl, ⟨.inl rfl, ⟨.inl rfl, ⟨.inl rfl, ⟨.inl rfl, ⟨.inl rfl, ⟨.inl rfl, trivial⟩⟩⟩⟩⟩⟩⟩⟩ ⟨rfl, ⟨rfl, ⟨rfl, ⟨rfl, ⟨rfl, ⟨rfl, ⟨rfl, ⟨rfl, trivial⟩⟩⟩⟩⟩⟩⟩⟩ ?_
  conv => whnf
  refine Or.inl ?_
  conv => whnf
  refine nd_ H (fun c H => ?_)
  conv => whnf
  refine cut_ 188 [(1, .str a1), (2, .bp 0 0), (4, .bp 8 0), (5, .bp 16 0), (13, (sv_S_impl_PlantFoe a0_1)), (14, .int .i64 (a0_1.length : Int)), (15, .int .i64 x15)] [(0, .box [(sv_str a0_0), (sv_S_impl_PlantFoe a0_1), (sv_S_impl_PlantPlace a0_2), (sv_S_impl_PlantValve a0_3)]), (8, .box [.nil, .nil, .nil, .nil, .int .i64 0]), (16, .box [.own 164 (x1016000.length + 1), .own 57 x1016001.length, .own 58 x1016002.length, .own 59 x1016003.length, .int .i64 x1016004]), (57, .arr 150 5 (x1016001.map en_S_impl_ClaimSpot)), (58, .arr 9 1 (x1016002.map en_str)), (59, .arr 156 7 (x1016003.map en_S_impl_ClaimPart)), (164, .arr 171 2 ((x1016000 ++ ([(⟨(rd_impl_PlantFoe a0_1 x15).f0, (rd_impl_PlantFoe a0_1 x15).f1⟩ : S_impl_ClaimFoe)] : List S_impl_ClaimFoe)).map en_S_impl_ClaimFoe))] rfl ⟨.inl rfl, ⟨.inl rfl, ⟨.inl rfl, ⟨.inl rfl, ⟨.inl rfl, ⟨.inl rfl, ⟨.inl rfl, trivial⟩⟩⟩⟩⟩⟩⟩ ⟨rfl, ⟨rfl, ⟨rfl, ⟨rfl, ⟨rfl, ⟨rfl, ⟨fm_, trivial⟩⟩⟩⟩⟩⟩⟩ ?_
  conv => whnf
  exact ⟨(k, wrap64 (x15 + 1), (x1016000 ++ ([(⟨(rd_impl_PlantFoe a0_1 x15).f0, (rd_impl_PlantFoe a0_1 x15).f1⟩ : S_impl_ClaimFoe)] : List S_impl_ClaimFoe)), x1016001, x1016002, x1016003, _), [some 164, some 57, some 58, some 59], ⟨H, lt_⟩, lt_, (fits_of ⟨.inl ⟨rfl, rfl⟩, trivial⟩ ⟨rfl, ⟨rfl, ⟨rfl, ⟨rfl, trivial⟩⟩⟩⟩ fi_ ⟨⟨_, rfl⟩, ⟨_, rfl, ⟨mt_own lm_, ⟨rfl, ⟨rfl, ⟨rfl, ⟨.inl ⟨rfl, rfl⟩, trivial⟩⟩⟩⟩⟩⟩, trivial⟩ rfl)⟩
  conv => whnf
  refine cut_ 100 [(1, .str a1), (2, .bp 0 0), (4, .bp 8 0), (5, .bp 16 0), (31, (sv_S_impl_PlantPlace a0_2)), (32, .int .i64 (a0_2.length : Int)), (33, .int .i64 0)] [(0, .box [(sv_str a0_0), (sv_S_impl_PlantFoe a0_1), (sv_S_impl_PlantPlace a0_2), (sv_S_impl_PlantValve a0_3)]), (8, .box [.nil, .nil, .nil, .nil, .int .i64 0]), (16, .box [.own 56 x1016000.length, .own 57 x1016001.length, .own 58 x1016002.length, .own 59 x1016003.length, .int .i64 x1016004]), (56, .arr 171 2 (x1016000.map en_S_impl_ClaimFoe)), (57, .arr 150 5 (x1016001.map en_S_impl_ClaimSpot)), (58, .arr 9 1 (x1016002.map en_str)), (59, .arr 156 7 (x1016003.map en_S_impl_ClaimPart))] rfl ⟨.inl rfl, ⟨.inl rfl, ⟨.inl rfl, ⟨.inl rfl, ⟨.inl rfl, ⟨.inl rfl, ⟨.inl rfl, trivial⟩⟩⟩⟩⟩⟩⟩ ⟨rfl, ⟨rfl, ⟨rfl, ⟨rfl, ⟨rfl, ⟨rfl, ⟨rfl, trivial⟩⟩⟩⟩⟩⟩⟩ ?_
  conv => whnf
  refine impl_bookOf.l1_lp (a0_2 := a0_2) (a0_3 := a0_3) (a1 := a1) (k := k) H [some 56, some 57, some 58, some 59] (fits_of ⟨.inl ⟨rfl, rfl⟩, trivial⟩ ⟨rfl, ⟨rfl, ⟨rfl, ⟨rfl, trivial⟩⟩⟩⟩ fi_ ⟨⟨_, rfl⟩, ⟨_, rfl, ⟨rfl, ⟨rfl, ⟨rfl, ⟨rfl, ⟨.inl ⟨rfl, rfl⟩, trivial⟩⟩⟩⟩⟩⟩, trivial⟩ rfl) ?_
  intro k x33 x1016000_1 x1016001_1 x1016002_1 x1016003_1 x1016004_1 hk H; rcases k with _ | k; exact none_elim H; rw [impl_bookOf.l1] at H; conv => whnf
  refine br_d H (fun c H => ?_) (fun c H => ?_)
  conv => whnf
  refine nd_ H (fun c H => ?_)
  conv => whnf
  refine Nd.mk nf_ ?_
  conv => whnf
  refine El.mk (rdm_en_S_impl_PlantPlace _ _ nf_ nf_) ?_
  conv => whnf
  refine br_d H (fun c H => ?_) (fun c H => ?_)
  conv => whnf
  refine Or.inl ?_
  conv => whnf
  refine nd_ H (fun c H => ?_)
  conv => whnf
  refine cut_ 264 [(1, .str a1), (2, .bp 0 0), (4, .bp 8 0), (5, .bp 16 0), (31, (sv_S_impl_PlantPlace a0_2)), (32, .int .i64 (a0_2.length : Int)), (33, .int .i64 x33)] [(0, .box [(sv_str a0_0), (sv_S_impl_PlantFoe a0_1), (sv_S_impl_PlantPlace a0_2), (sv_S_impl_PlantValve a0_3)]), (8, .box [.nil, .nil, .nil, .nil, .int .i64 0]), (16, .box [.own 100 x1016000_1.length, .own 240 (x1016001_1.length + 1), .own 102 x1016002_1.length, .own 103 x1016003_1.length, .int .i64 x1016004_1]), (100, .arr 171 2 (x1016000_1.map en_S_impl_ClaimFoe)), (102, .arr 9 1 (x1016002_1.map en_str)), (103, .arr 156 7 (x1016003_1.map en_S_impl_ClaimPart)), (240, .arr 150 5 ((x1016001_1 ++ ([(⟨(rd_impl_PlantPlace a0_2 x33).f0, (rd_impl_PlantPlace a0_2 x33).f1, 0, 0, []⟩ : S_impl_ClaimSpot)] : List S_impl_ClaimSpot)).map en_S_impl_ClaimSpot))] rfl ⟨.inl rfl, ⟨.inl rfl, ⟨.inl rfl, ⟨.inl rfl, ⟨.inl rfl, ⟨.inl rfl, ⟨.inl rfl, trivial⟩⟩⟩⟩⟩⟩⟩ ⟨rfl, ⟨rfl, ⟨rfl, ⟨rfl, ⟨rfl, ⟨rfl, ⟨fm_, trivial⟩⟩⟩⟩⟩⟩⟩ ?_
  conv => whnf
  exact ⟨(k, wrap64 (x33 + 1), x1016000_1, (x1016001_1 ++ ([(⟨(rd_impl_PlantPlace a0_2 x33).f0, (rd_impl_PlantPlace a0_2 x33).f1, 0, 0, []⟩ : S_impl_ClaimSpot)] : List S_impl_ClaimSpot)), x1016002_1, x1016003_1, _), [some 100, some 240, some 102, some 103], ⟨H, lt_⟩, lt_, (fits_of ⟨.inl ⟨rfl, rfl⟩, trivial⟩ ⟨rfl, ⟨rfl, ⟨rfl, ⟨rfl, trivial⟩⟩⟩⟩ fi_ ⟨⟨_, rfl⟩, ⟨_, rfl, ⟨rfl, ⟨mt_own lm_, ⟨rfl, ⟨rfl, ⟨.inl ⟨rfl, rfl⟩, trivial⟩⟩⟩⟩⟩⟩, trivial⟩ rfl)⟩
  conv => whnf
  refine cut_ 176 [(1, .str a1), (2, .bp 0 0), (4, .bp 8 0), (5, .bp 16 0), (31, (sv_S_impl_PlantPlace a0_2)), (32, .int .i64 (a0_2.length : Int)), (33, .int .i64 x33)] [(0, .box [(sv_str a0_0), (sv_S_impl_PlantFoe a0_1), (sv_S_impl_PlantPlace a0_2), (sv_S_impl_PlantValve a0_3)]), (8, .box [.nil, .nil, .nil, .nil, .int .i64 0]), (16, .box [.own 100 x1016000_1.length, .own 101 x1016001_1.length, .own 102 x1016002_1.length, .own 103 x1016003_1.length, .int .i64 x1016004_1]), (100, .arr 171 2 (x1016000_1.map en_S_impl_ClaimFoe)), (101, .arr 150 5 (x1016001_1.map en_S_impl_ClaimSpot)), (102, .arr 9 1 (x1016002_1.map en_str)), (103, .arr 156 7 (x1016003_1.map en_S_impl_ClaimPart))] rfl ⟨.inl rfl, ⟨.inl rfl, ⟨.inl rfl, ⟨.inl rfl, ⟨.inl rfl, ⟨.inl rfl, ⟨.inl rfl, trivial⟩⟩⟩⟩⟩⟩⟩ ⟨rfl, ⟨rfl, ⟨rfl, ⟨rfl, ⟨rfl, ⟨rfl, ⟨rfl, trivial⟩⟩⟩⟩⟩⟩⟩ ?_
  conv => whnf
  exact ⟨(k, wrap64 (x33 + 1), x1016000_1, x1016001_1, x1016002_1, x1016003_1, _), [some 100, some 101, some 102, some 103], ⟨H, lt_⟩, lt_, (fits_of ⟨.inl ⟨rfl, rfl⟩, trivial⟩ ⟨rfl, ⟨rfl, ⟨rfl, ⟨rfl, trivial⟩⟩⟩⟩ fi_ ⟨⟨_, rfl⟩, ⟨_, rfl, ⟨rfl, ⟨rfl, ⟨rfl, ⟨rfl, ⟨.inl ⟨rfl, rfl⟩, trivial⟩⟩⟩⟩⟩⟩, trivial⟩ rfl)⟩
  conv => whnf
  refine impl_bookOf.l2_lp (a0_3 := a0_3) (a1 := a1) (k := k) H [some 100, some 101, some 102, some 103] (fits_of ⟨.inl ⟨rfl, rfl⟩, trivial⟩ ⟨rfl, ⟨rfl, ⟨rfl, ⟨rfl, trivial⟩⟩⟩⟩ fi_ ⟨⟨_, rfl⟩, ⟨_, rfl, ⟨rfl, ⟨rfl, ⟨rfl, ⟨rfl, ⟨.inl ⟨rfl, rfl⟩, trivial⟩⟩⟩⟩⟩⟩, trivial⟩ rfl) ?_
  intro k x55 x1016000_2 x1016001_2 x1016002_2 x1016003_2 x1016004_2 hk H; rcases k with _ | k; exact none_elim H; rw [impl_bookOf.l2] at H; conv => whnf
  refine br_d H (fun c H => ?_) (fun c H => ?_)
  conv => whnf
  refine nd_ H (fun c H => ?_)
  conv => whnf
  refine Nd.mk nf_ ?_
  conv => whnf
  refine El.mk (rdm_en_S_impl_PlantValve _ _ nf_ nf_) ?_
  conv => whnf
  refine cut_ 220 [(1, .str a1), (4, .bp 8 0), (5, .bp 16 0), (11, .bp 172 0), (53, (sv_S_impl_PlantValve a0_3)), (54, .int .i64 (a0_3.length : Int)), (55, .int .i64 x55), (62, .bool (decide (((rd_impl_PlantValve a0_3 x55).f3).toList = a1.toList)))] [(8, .box [.nil, .nil, .nil, .nil, .int .i64 0]), (16, .box [.own 144 x1016000_2.length, .own 145 x1016001_2.length, .own 146 x1016002_2.length, .own 147 x1016003_2.length, .int .i64 x1016004_2]), (144, .arr 171 2 (x1016000_2.map en_S_impl_ClaimFoe)), (145, .arr 150 5 (x1016001_2.map en_S_impl_ClaimSpot)), (146, .arr 9 1 (x1016002_2.map en_str)), (147, .arr 156 7 (x1016003_2.map en_S_impl_ClaimPart)), (172, .box [.str ((rd_impl_PlantValve a0_3 x55).f0), .str ((rd_impl_PlantValve a0_3 x55).f1), .str ((rd_impl_PlantValve a0_3 x55).f2), .str ((rd_impl_PlantValve a0_3 x55).f3)])] rfl ⟨.inl rfl, ⟨.inl rfl, ⟨.inl rfl, ⟨.inl rfl, ⟨.inl rfl, ⟨.inl rfl, ⟨.inl rfl, ⟨.inl rfl, trivial⟩⟩⟩⟩⟩⟩⟩⟩ ⟨rfl, ⟨rfl, ⟨rfl, ⟨rfl, ⟨rfl, ⟨rfl, ⟨rfl, trivial⟩⟩⟩⟩⟩⟩⟩ ?_
  conv => whnf
  refine br_d H (fun c H => ?_) (fun c H => ?_)
  conv => whnf
  refine Or.inl ?_
  conv => whnf
  refine nd_ H (fun c H => ?_)
  conv => whnf
  exact ⟨(k, wrap64 (x55 + 1), x1016000_2, x1016001_2, (x1016002_2 ++ ([(rd_impl_PlantValve a0_3 x55).f0] : List ByteArray)), x1016003_2, _), [some 144, some 145, some 260, some 147], ⟨H, lt_⟩, lt_, (fits_of ⟨.inl ⟨rfl, rfl⟩, trivial⟩ ⟨rfl, ⟨rfl, ⟨fm_, ⟨rfl, trivial⟩⟩⟩⟩ fi_ ⟨⟨_, rfl⟩, ⟨_, rfl, ⟨rfl, ⟨rfl, ⟨mt_own lm_, ⟨rfl, ⟨.inl ⟨rfl, rfl⟩, trivial⟩⟩⟩⟩⟩⟩, trivial⟩ rfl)⟩
  conv => whnf
  exact ⟨(k, wrap64 (x55 + 1), x1016000_2, x1016001_2, x1016002_2, x1016003_2, _), [some 144, some 145, some 146, some 147], ⟨H, lt_⟩, lt_, (fits_of ⟨.inl ⟨rfl, rfl⟩, trivial⟩ ⟨rfl, ⟨rfl, ⟨rfl, ⟨rfl, trivial⟩⟩⟩⟩ fi_ ⟨⟨_, rfl⟩, ⟨_, rfl, ⟨rfl, ⟨rfl, ⟨rfl, ⟨rfl, ⟨.inl ⟨rfl, rfl⟩, trivial⟩⟩⟩⟩⟩⟩, trivial⟩ rfl)⟩
  conv => whnf
  injection H with H; subst H
  exact ret_fz [144, 145, 146, 147] (rtA_agg (rtL_cons (rt_fz' rfl rfl) (rtL_cons (rt_fz' rfl rfl) (rtL_cons (rt_fz' rfl rfl) (rtL_cons (rt_fz' rfl rfl) (rtL_cons (rt_eq rfl) (rtL_nil)))))))
theorem impl_bookOf.l2_lpO {F : (Exit → St → Prop) → St → Prop} {hv : List Tmp} {Q : Exit → St → Prop} {σ : St} {r : (List S_impl_ClaimFoe) × (List S_impl_ClaimSpot) × (List ByteArray) × (List S_impl_ClaimPart) × Int} {k : Nat} {a0_3 : List S_impl_PlantValve} {a1 : ByteArray} {x55 : Int} {x1016000_2 : List S_impl_ClaimFoe} {x1016001_2 : List S_impl_ClaimSpot} {x1016002_2 : List ByteArray} {x1016003_2 : List S_impl_ClaimPart} {x1016004_2 : Int} (H : impl_bookOf.l2 k a0_3 a1 x55 x1016000_2 x1016001_2 x1016002_2 x1016003_2 x1016004_2 = some r) (rn : List (Option Nat)) (h1 : Fits σ σ [0, 16, 100, 101, 102, 103] [(55, .int .i64 x55)] [(16, .box [.own 0 x1016000_2.length, .own 1 x1016001_2.length, .own 2 x1016002_2.length, .own 3 x1016003_2.length, .int .i64 x1016004_2])] [.arr 171 2 (x1016000_2.map en_S_impl_ClaimFoe), .arr 150 5 (x1016001_2.map en_S_impl_ClaimSpot), .arr 9 1 (x1016002_2.map en_str), .arr 156 7 (x1016003_2.map en_S_impl_ClaimPart)] rn)
    (h2 : ∀ (k0 : Nat) (x55 : Int) (x1016000_2 : List S_impl_ClaimFoe) (x1016001_2 : List S_impl_ClaimSpot) (x1016002_2 : List ByteArray) (x1016003_2 : List S_impl_ClaimPart) (x1016004_2 : Int), k0 < k + 1 → impl_bookOf.l2 k0 a0_3 a1 x55 x1016000_2 x1016001_2 x1016002_2 x1016003_2 x1016004_2 = some r → headN σ hv [0, 16, 100, 101, 102, 103] [(55, .int .i64 x55)] [(16, .box [.own 0 x1016000_2.length, .own 1 x1016001_2.length, .own 2 x1016002_2.length, .own 3 x1016003_2.length, .int .i64 x1016004_2])] [.arr 171 2 (x1016000_2.map en_S_impl_ClaimFoe), .arr 150 5 (x1016001_2.map en_S_impl_ClaimSpot), .arr 9 1 (x1016002_2.map en_str), .arr 156 7 (x1016003_2.map en_S_impl_ClaimPart)] (F (fun e σ' => match e with | .normal => ∃ (y : Nat × Int × (List S_impl_ClaimFoe) × (List S_impl_ClaimSpot) × (List ByteArray) × (List S_impl_ClaimPart) × Int) (rn : List (Option Nat)), (impl_bookOf.l2 y.1 a0_3 a1 y.2.1 y.2.2.1 y.2.2.2.1 y.2.2.2.2.1 y.2.2.2.2.2.1 y.2.2.2.2.2.2 = some r ∧ y.1 < k + 1) ∧ y.1 < k0 ∧ Fits σ σ' [0, 16, 100, 101, 102, 103] [(55, .int .i64 y.2.1)] [(16, .box [.own 0 y.2.2.1.length, .own 1 y.2.2.2.1.length, .own 2 y.2.2.2.2.1.length, .own 3 y.2.2.2.2.2.1.length, .int .i64 y.2.2.2.2.2.2])] [.arr 171 2 (y.2.2.1.map en_S_impl_ClaimFoe), .arr 150 5 (y.2.2.2.1.map en_S_impl_ClaimSpot), .arr 9 1 (y.2.2.2.2.1.map en_str), .arr 156 7 (y.2.2.2.2.2.1.map en_S_impl_ClaimPart)] rn | e => Q e σ'))) : Lp F hv Q σ := by
  unfold Lp
  refine ⟨Nat × Int × (List S_impl_ClaimFoe) × (List S_impl_ClaimSpot) × (List ByteArray) × (List S_impl_ClaimPart) × Int, fun x => impl_bookOf.l2 x.1 a0_3 a1 x.2.1 x.2.2.1 x.2.2.2.1 x.2.2.2.2.1 x.2.2.2.2.2.1 x.2.2.2.2.2.2 = some r ∧ x.1 < k + 1, fun x => x.1, [0, 16, 100, 101, 102, 103], fun x => [(55, .int .i64 x.2.1)], fun x => [(16, .box [.own 0 x.2.2.1.length, .own 1 x.2.2.2.1.length, .own 2 x.2.2.2.2.1.length, .own 3 x.2.2.2.2.2.1.length, .int .i64 x.2.2.2.2.2.2])], fun x => [.arr 171 2 (x.2.2.1.map en_S_impl_ClaimFoe), .arr 150 5 (x.2.2.2.1.map en_S_impl_ClaimSpot), .arr 9 1 (x.2.2.2.2.1.map en_str), .arr 156 7 (x.2.2.2.2.2.1.map en_S_impl_ClaimPart)], ⟨(k, x55, x1016000_2, x1016001_2, x1016002_2, x1016003_2, x1016004_2), rn, ⟨H, Nat.lt_succ_self _⟩, h1⟩, ?_⟩
  rintro ⟨k, x55, x1016000_2, x1016001_2, x1016002_2, x1016003_2, x1016004_2⟩ ⟨H, hk⟩
  exact h2 k x55 x1016000_2 x1016001_2 x1016002_2 x1016003_2 x1016004_2 hk H
theorem impl_bookOf.l1_lpO {F : (Exit → St → Prop) → St → Prop} {hv : List Tmp} {Q : Exit → St → Prop} {σ : St} {r : (List S_impl_ClaimFoe) × (List S_impl_ClaimSpot) × (List ByteArray) × (List S_impl_ClaimPart) × Int} {k : Nat} {a0_2 : List S_impl_PlantPlace} {a0_3 : List S_impl_PlantValve} {a1 : ByteArray} {x33 : Int} {x1016000_1 : List S_impl_ClaimFoe} {x1016001_1 : List S_impl_ClaimSpot} {x1016002_1 : List ByteArray} {x1016003_1 : List S_impl_ClaimPart} {x1016004_1 : Int} (H : impl_bookOf.l1 k a0_2 a0_3 a1 x33 x1016000_1 x1016001_1 x1016002_1 x1016003_1 x1016004_1 = some r) (rn : List (Option Nat)) (h1 : Fits σ σ [16, 56, 57, 58, 59] [(33, .int .i64 x33)] [(16, .box [.own 0 x1016000_1.length, .own 1 x1016001_1.length, .own 2 x1016002_1.length, .own 3 x1016003_1.length, .int .i64 x1016004_1])] [.arr 171 2 (x1016000_1.map en_S_impl_ClaimFoe), .arr 150 5 (x1016001_1.map en_S_impl_ClaimSpot), .arr 9 1 (x1016002_1.map en_str), .arr 156 7 (x1016003_1.map en_S_impl_ClaimPart)] rn)
    (h2 : ∀ (k0 : Nat) (x33 : Int) (x1016000_1 : List S_impl_ClaimFoe) (x1016001_1 : List S_impl_ClaimSpot) (x1016002_1 : List ByteArray) (x1016003_1 : List S_impl_ClaimPart) (x1016004_1 : Int), k0 < k + 1 → impl_bookOf.l1 k0 a0_2 a0_3 a1 x33 x1016000_1 x1016001_1 x1016002_1 x1016003_1 x1016004_1 = some r → headN σ hv [16, 56, 57, 58, 59] [(33, .int .i64 x33)] [(16, .box [.own 0 x1016000_1.length, .own 1 x1016001_1.length, .own 2 x1016002_1.length, .own 3 x1016003_1.length, .int .i64 x1016004_1])] [.arr 171 2 (x1016000_1.map en_S_impl_ClaimFoe), .arr 150 5 (x1016001_1.map en_S_impl_ClaimSpot), .arr 9 1 (x1016002_1.map en_str), .arr 156 7 (x1016003_1.map en_S_impl_ClaimPart)] (F (fun e σ' => match e with | .normal => ∃ (y : Nat × Int × (List S_impl_ClaimFoe) × (List S_impl_ClaimSpot) × (List ByteArray) × (List S_impl_ClaimPart) × Int) (rn : List (Option Nat)), (impl_bookOf.l1 y.1 a0_2 a0_3 a1 y.2.1 y.2.2.1 y.2.2.2.1 y.2.2.2.2.1 y.2.2.2.2.2.1 y.2.2.2.2.2.2 = some r ∧ y.1 < k + 1) ∧ y.1 < k0 ∧ Fits σ σ' [16, 56, 57, 58, 59] [(33, .int .i64 y.2.1)] [(16, .box [.own 0 y.2.2.1.length, .own 1 y.2.2.2.1.length, .own 2 y.2.2.2.2.1.length, .own 3 y.2.2.2.2.2.1.length, .int .i64 y.2.2.2.2.2.2])] [.arr 171 2 (y.2.2.1.map en_S_impl_ClaimFoe), .arr 150 5 (y.2.2.2.1.map en_S_impl_ClaimSpot), .arr 9 1 (y.2.2.2.2.1.map en_str), .arr 156 7 (y.2.2.2.2.2.1.map en_S_impl_ClaimPart)] rn | e => Q e σ'))) : Lp F hv Q σ := by
  unfold Lp
  refine ⟨Nat × Int × (List S_impl_ClaimFoe) × (List S_impl_ClaimSpot) × (List ByteArray) × (List S_impl_ClaimPart) × Int, fun x => impl_bookOf.l1 x.1 a0_2 a0_3 a1 x.2.1 x.2.2.1 x.2.2.2.1 x.2.2.2.2.1 x.2.2.2.2.2.1 x.2.2.2.2.2.2 = some r ∧ x.1 < k + 1, fun x => x.1, [16, 56, 57, 58, 59], fun x => [(33, .int .i64 x.2.1)], fun x => [(16, .box [.own 0 x.2.2.1.length, .own 1 x.2.2.2.1.length, .own 2 x.2.2.2.2.1.length, .own 3 x.2.2.2.2.2.1.length, .int .i64 x.2.2.2.2.2.2])], fun x => [.arr 171 2 (x.2.2.1.map en_S_impl_ClaimFoe), .arr 150 5 (x.2.2.2.1.map en_S_impl_ClaimSpot), .arr 9 1 (x.2.2.2.2.1.map en_str), .arr 156 7 (x.2.2.2.2.2.1.map en_S_impl_ClaimPart)], ⟨(k, x33, x1016000_1, x1016001_1, x1016002_1, x1016003_1, x1016004_1), rn, ⟨H, Nat.lt_succ_self _⟩, h1⟩, ?_⟩
  rintro ⟨k, x33, x1016000_1, x1016001_1, x1016002_1, x1016003_1, x1016004_1⟩ ⟨H, hk⟩
  exact h2 k x33 x1016000_1 x1016001_1 x1016002_1 x1016003_1 x1016004_1 hk H
theorem impl_bookOf.l0_lpO {F : (Exit → St → Prop) → St → Prop} {hv : List Tmp} {Q : Exit → St → Prop} {σ : St} {r : (List S_impl_ClaimFoe) × (List S_impl_ClaimSpot) × (List ByteArray) × (List S_impl_ClaimPart) × Int} {k : Nat} {a0_1 : List S_impl_PlantFoe} {a0_2 : List S_impl_PlantPlace} {a0_3 : List S_impl_PlantValve} {a1 : ByteArray} {x15 : Int} {x1016000 : List S_impl_ClaimFoe} {x1016001 : List S_impl_ClaimSpot} {x1016002 : List ByteArray} {x1016003 : List S_impl_ClaimPart} {x1016004 : Int} (H : impl_bookOf.l0 k a0_1 a0_2 a0_3 a1 x15 x1016000 x1016001 x1016002 x1016003 x1016004 = some r) (rn : List (Option Nat)) (h1 : Fits σ σ [16] [(15, .int .i64 x15)] [(16, .box [.own 0 x1016000.length, .own 1 x1016001.length, .own 2 x1016002.length, .own 3 x1016003.length, .int .i64 x1016004])] [.arr 171 2 (x1016000.map en_S_impl_ClaimFoe), .arr 150 5 (x1016001.map en_S_impl_ClaimSpot), .arr 9 1 (x1016002.map en_str), .arr 156 7 (x1016003.map en_S_impl_ClaimPart)] rn)
    (h2 : ∀ (k0 : Nat) (x15 : Int) (x1016000 : List S_impl_ClaimFoe) (x1016001 : List S_impl_ClaimSpot) (x1016002 : List ByteArray) (x1016003 : List S_impl_ClaimPart) (x1016004 : Int), k0 < k + 1 → impl_bookOf.l0 k0 a0_1 a0_2 a0_3 a1 x15 x1016000 x1016001 x1016002 x1016003 x1016004 = some r → headN σ hv [16] [(15, .int .i64 x15)] [(16, .box [.own 0 x1016000.length, .own 1 x1016001.length, .own 2 x1016002.length, .own 3 x1016003.length, .int .i64 x1016004])] [.arr 171 2 (x1016000.map en_S_impl_ClaimFoe), .arr 150 5 (x1016001.map en_S_impl_ClaimSpot), .arr 9 1 (x1016002.map en_str), .arr 156 7 (x1016003.map en_S_impl_ClaimPart)] (F (fun e σ' => match e with | .normal => ∃ (y : Nat × Int × (List S_impl_ClaimFoe) × (List S_impl_ClaimSpot) × (List ByteArray) × (List S_impl_ClaimPart) × Int) (rn : List (Option Nat)), (impl_bookOf.l0 y.1 a0_1 a0_2 a0_3 a1 y.2.1 y.2.2.1 y.2.2.2.1 y.2.2.2.2.1 y.2.2.2.2.2.1 y.2.2.2.2.2.2 = some r ∧ y.1 < k + 1) ∧ y.1 < k0 ∧ Fits σ σ' [16] [(15, .int .i64 y.2.1)] [(16, .box [.own 0 y.2.2.1.length, .own 1 y.2.2.2.1.length, .own 2 y.2.2.2.2.1.length, .own 3 y.2.2.2.2.2.1.length, .int .i64 y.2.2.2.2.2.2])] [.arr 171 2 (y.2.2.1.map en_S_impl_ClaimFoe), .arr 150 5 (y.2.2.2.1.map en_S_impl_ClaimSpot), .arr 9 1 (y.2.2.2.2.1.map en_str), .arr 156 7 (y.2.2.2.2.2.1.map en_S_impl_ClaimPart)] rn | e => Q e σ'))) : Lp F hv Q σ := by
  unfold Lp
  refine ⟨Nat × Int × (List S_impl_ClaimFoe) × (List S_impl_ClaimSpot) × (List ByteArray) × (List S_impl_ClaimPart) × Int, fun x => impl_bookOf.l0 x.1 a0_1 a0_2 a0_3 a1 x.2.1 x.2.2.1 x.2.2.2.1 x.2.2.2.2.1 x.2.2.2.2.2.1 x.2.2.2.2.2.2 = some r ∧ x.1 < k + 1, fun x => x.1, [16], fun x => [(15, .int .i64 x.2.1)], fun x => [(16, .box [.own 0 x.2.2.1.length, .own 1 x.2.2.2.1.length, .own 2 x.2.2.2.2.1.length, .own 3 x.2.2.2.2.2.1.length, .int .i64 x.2.2.2.2.2.2])], fun x => [.arr 171 2 (x.2.2.1.map en_S_impl_ClaimFoe), .arr 150 5 (x.2.2.2.1.map en_S_impl_ClaimSpot), .arr 9 1 (x.2.2.2.2.1.map en_str), .arr 156 7 (x.2.2.2.2.2.1.map en_S_impl_ClaimPart)], ⟨(k, x15, x1016000, x1016001, x1016002, x1016003, x1016004), rn, ⟨H, Nat.lt_succ_self _⟩, h1⟩, ?_⟩
  rintro ⟨k, x15, x1016000, x1016001, x1016002, x1016003, x1016004⟩ ⟨H, hk⟩
  exact h2 k x15 x1016000 x1016001 x1016002 x1016003 x1016004 hk H
theorem impl_bookOf.acO {k : Nat} {a0_0 : List ByteArray} {a0_1 : List S_impl_PlantFoe} {a0_2 : List S_impl_PlantPlace} {a0_3 : List S_impl_PlantValve} {a1 : ByteArray} {r : (List S_impl_ClaimFoe) × (List S_impl_ClaimSpot) × (List ByteArray) × (List S_impl_ClaimPart) × Int} (H : impl_bookOf.f k a0_0 a0_1 a0_2 a0_3 a1 = some r) : ACalls Try.prog G 124 [] [.agg [(sv_str a0_0), (sv_S_impl_PlantFoe a0_1), (sv_S_impl_PlantPlace a0_2), (sv_S_impl_PlantValve a0_3)], .str a1] [.arr 171 2 (r.1.map en_S_impl_ClaimFoe), .arr 150 5 (r.2.1.map en_S_impl_ClaimSpot), .arr 9 1 (r.2.2.1.map en_str), .arr 156 7 (r.2.2.2.1.map en_S_impl_ClaimPart)] (.agg [.own 0 r.1.length, .own 1 r.2.1.length, .own 2 r.2.2.1.length, .own 3 r.2.2.2.1.length, .int .i64 r.2.2.2.2]) := by
  refine acalls_of tok hP Try.func124 rfl (by kernel_rfl) [.cell 4 60] rfl (by kernel_rfl) (Nat.le_of_ble_eq_true rfl) (.l .n (.l .n (.l (.l .n (.l .n (.l .n (.c (.c .n .n) .n)))) (.l (.c .n (.l .n (.l .n (.c .n .n)))) (.l (.l .n (.l .n (.l .n (.l (.l .n (.c .n .n)) .n)))) .n))))) rfl ?_
  unfold impl_bookOf.f at H
  conv => whnf
  refine impl_bookOf.l0_lpO (a0_1 := a0_1) (a0_2 := a0_2) (a0_3 := a0_3) (a1 := a1) (k := k) H [none, none, none, none] (fits_of ⟨.inl ⟨rfl, rfl⟩, trivial⟩ ⟨⟨_, _, rfl⟩, ⟨⟨_, _, rfl⟩, ⟨⟨_, _, rfl⟩, ⟨⟨_, _, rfl⟩, trivial⟩⟩⟩⟩ fi_ ⟨⟨_, rfl⟩, ⟨_, rfl, ⟨⟨rfl, rfl⟩, ⟨⟨rfl, rfl⟩, ⟨⟨rfl, rfl⟩, ⟨⟨rfl, rfl⟩, ⟨.inl ⟨rfl, rfl⟩, trivial⟩⟩⟩⟩⟩⟩, trivial⟩ rfl) ?_
  intro k x15 x1016000 x1016001 x1016002 x1016003 x1016004 hk H; rcases k with _ | k; exact none_elim H; rw [impl_bookOf.l0] at H; conv => whnf
  refine br_d H (fun c H => ?_) (fun c H => ?_)
  conv => whnf
  refine nd_ H (fun c H => ?_)
  conv => whnf
  refine Nd.mk nf_ ?_
  conv => whnf
  refine El.mk (rdm_en_S_impl_PlantFoe _ _ nf_ nf_) ?_
  conv => whnf
  refine cut_ 100 [(1, .str a1), (2, .bp 0 0), (4, .bp 8 0), (5, .bp 16 0), (7, .bp 84 0), (13, (sv_S_impl_PlantFoe a0_1)), (14, .int .i64 (a0_1.length : Int)), (15, .int .i64 x15)] [(0, .box [(sv_str a0_0), (sv_S_impl_PlantFoe a0_1), (sv_S_impl_PlantPlace a0_2), (sv_S_impl_PlantValve a0_3)]), (8, .box [.nil, .nil, .nil, .nil, .int .i64 0]), (16, .box [.own 56 x1016000.length, .own 57 x1016001.length, .own 58 x1016002.length, .own 59 x1016003.length, .int .i64 x1016004]), (56, .arr 171 2 (x1016000.map en_S_impl_ClaimFoe)), (57, .arr 150 5 (x1016001.map en_S_impl_ClaimSpot)), (58, .arr 9 1 (x1016002.map en_str)), (59, .arr 156 7 (x1016003.map en_S_impl_ClaimPart)), (84, .box [.str ((rd_impl_PlantFoe a0_1 x15).f0), .str ((rd_impl_PlantFoe a0_1 x15).f1)])] rfl ⟨.inl rfl, ⟨.inl rfl, ⟨.inl rfl, ⟨.inl rfl, ⟨.inl rfl, ⟨.inl rfl, ⟨.inl rfl, ⟨.inl rfl, trivial⟩⟩⟩⟩⟩⟩⟩⟩ ⟨rfl, ⟨rfl, ⟨rfl, ⟨rfl, ⟨rfl, ⟨rfl, ⟨rfl, ⟨rfl, trivial⟩⟩⟩⟩⟩⟩⟩⟩ ?_
  conv => whnf
  refine Or.inl ?_
  conv => whnf
  refine nd_ H (fun c H => ?_)
  conv => whnf
  refine cut_ 188 [(1, .str a1), (2, .bp 0 0), (4, .bp 8 0), (5, .bp 16 0), (13, (sv_S_impl_PlantFoe a0_1)), (14, .int .i64 (a0_1.length : Int)), (15, .int .i64 x15)] [(0, .box [(sv_str a0_0), (sv_S_impl_PlantFoe a0_1), (sv_S_impl_PlantPlace a0_2), (sv_S_impl_PlantValve a0_3)]), (8, .box [.nil, .nil, .nil, .nil, .int .i64 0]), (16, .box [.own 164 (x1016000.length + 1), .own 57 x1016001.length, .own 58 x1016002.length, .own 59 x1016003.length, .int .i64 x1016004]), (57, .arr 150 5 (x1016001.map en_S_impl_ClaimSpot)), (58, .arr 9 1 (x1016002.map en_str)), (59, .arr 156 7 (x1016003.map en_S_impl_ClaimPart)), (164, .arr 171 2 ((x1016000 ++ ([(⟨(rd_impl_PlantFoe a0_1 x15).f0, (rd_impl_PlantFoe a0_1 x15).f1⟩ : S_impl_ClaimFoe)] : List S_impl_ClaimFoe)).map en_S_impl_ClaimFoe))] rfl ⟨.inl rfl, ⟨.inl rfl, ⟨.inl rfl, ⟨.inl rfl, ⟨.inl rfl, ⟨.inl rfl, ⟨.inl rfl, trivial⟩⟩⟩⟩⟩⟩⟩ ⟨rfl, ⟨rfl, ⟨rfl, ⟨rfl, ⟨rfl, ⟨rfl, ⟨fm_, trivial⟩⟩⟩⟩⟩⟩⟩ ?_
  conv => whnf
  exact ⟨(k, wrap64 (x15 + 1), (x1016000 ++ ([(⟨(rd_impl_PlantFoe a0_1 x15).f0, (rd_impl_PlantFoe a0_1 x15).f1⟩ : S_impl_ClaimFoe)] : List S_impl_ClaimFoe)), x1016001, x1016002, x1016003, _), [some 164, some 57, some 58, some 59], ⟨H, lt_⟩, lt_, (fits_of ⟨.inl ⟨rfl, rfl⟩, trivial⟩ ⟨rfl, ⟨rfl, ⟨rfl, ⟨rfl, trivial⟩⟩⟩⟩ fi_ ⟨⟨_, rfl⟩, ⟨_, rfl, ⟨mt_own lm_, ⟨rfl, ⟨rfl, ⟨rfl, ⟨.inl ⟨rfl, rfl⟩, trivial⟩⟩⟩⟩⟩⟩, trivial⟩ rfl)⟩
  conv => whnf
  refine cut_ 100 [(1, .str a1), (2, .bp 0 0), (4, .bp 8 0), (5, .bp 16 0), (31, (sv_S_impl_PlantPlace a0_2)), (32, .int .i64 (a0_2.length : Int)), (33, .int .i64 0)] [(0, .box [(sv_str a0_0), (sv_S_impl_PlantFoe a0_1), (sv_S_impl_PlantPlace a0_2), (sv_S_impl_PlantValve a0_3)]), (8, .box [.nil, .nil, .nil, .nil, .int .i64 0]), (16, .box [.own 56 x1016000.length, .own 57 x1016001.length, .own 58 x1016002.length, .own 59 x1016003.length, .int .i64 x1016004]), (56, .arr 171 2 (x1016000.map en_S_impl_ClaimFoe)), (57, .arr 150 5 (x1016001.map en_S_impl_ClaimSpot)), (58, .arr 9 1 (x1016002.map en_str)), (59, .arr 156 7 (x1016003.map en_S_impl_ClaimPart))] rfl ⟨.inl rfl, ⟨.inl rfl, ⟨.inl rfl, ⟨.inl rfl, ⟨.inl rfl, ⟨.inl rfl, ⟨.inl rfl, trivial⟩⟩⟩⟩⟩⟩⟩ ⟨rfl, ⟨rfl, ⟨rfl, ⟨rfl, ⟨rfl, ⟨rfl, ⟨rfl, trivial⟩⟩⟩⟩⟩⟩⟩ ?_
  conv => whnf
  refine impl_bookOf.l1_lpO (a0_2 := a0_2) (a0_3 := a0_3) (a1 := a1) (k := k) H [some 56, some 57, some 58, some 59] (fits_of ⟨.inl ⟨rfl, rfl⟩, trivial⟩ ⟨rfl, ⟨rfl, ⟨rfl, ⟨rfl, trivial⟩⟩⟩⟩ fi_ ⟨⟨_, rfl⟩, ⟨_, rfl, ⟨rfl, ⟨rfl, ⟨rfl, ⟨rfl, ⟨.inl ⟨rfl, rfl⟩, trivial⟩⟩⟩⟩⟩⟩, trivial⟩ rfl) ?_
  intro k x33 x1016000_1 x1016001_1 x1016002_1 x1016003_1 x1016004_1 hk H; rcases k with _ | k; exact none_elim H; rw [impl_bookOf.l1] at H; conv => whnf
  refine br_d H (fun c H => ?_) (fun c H => ?_)
  conv => whnf
  refine nd_ H (fun c H => ?_)
  conv => whnf
  refine Nd.mk nf_ ?_
  conv => whnf
  refine El.mk (rdm_en_S_impl_PlantPlace _ _ nf_ nf_) ?_
  conv => whnf
  refine br_d H (fun c H => ?_) (fun c H => ?_)
  conv => whnf
  refine Or.inl ?_
  conv => whnf
  refine nd_ H (fun c H => ?_)
  conv => whnf
  refine cut_ 264 [(1, .str a1), (2, .bp 0 0), (4, .bp 8 0), (5, .bp 16 0), (31, (sv_S_impl_PlantPlace a0_2)), (32, .int .i64 (a0_2.length : Int)), (33, .int .i64 x33)] [(0, .box [(sv_str a0_0), (sv_S_impl_PlantFoe a0_1), (sv_S_impl_PlantPlace a0_2), (sv_S_impl_PlantValve a0_3)]), (8, .box [.nil, .nil, .nil, .nil, .int .i64 0]), (16, .box [.own 100 x1016000_1.length, .own 240 (x1016001_1.length + 1), .own 102 x1016002_1.length, .own 103 x1016003_1.length, .int .i64 x1016004_1]), (100, .arr 171 2 (x1016000_1.map en_S_impl_ClaimFoe)), (102, .arr 9 1 (x1016002_1.map en_str)), (103, .arr 156 7 (x1016003_1.map en_S_impl_ClaimPart)), (240, .arr 150 5 ((x1016001_1 ++ ([(⟨(rd_impl_PlantPlace a0_2 x33).f0, (rd_impl_PlantPlace a0_2 x33).f1, 0, 0, []⟩ : S_impl_ClaimSpot)] : List S_impl_ClaimSpot)).map en_S_impl_ClaimSpot))] rfl ⟨.inl rfl, ⟨.inl rfl, ⟨.inl rfl, ⟨.inl rfl, ⟨.inl rfl, ⟨.inl rfl, ⟨.inl rfl, trivial⟩⟩⟩⟩⟩⟩⟩ ⟨rfl, ⟨rfl, ⟨rfl, ⟨rfl, ⟨rfl, ⟨rfl, ⟨fm_, trivial⟩⟩⟩⟩⟩⟩⟩ ?_
  conv => whnf
  exact ⟨(k, wrap64 (x33 + 1), x1016000_1, (x1016001_1 ++ ([(⟨(rd_impl_PlantPlace a0_2 x33).f0, (rd_impl_PlantPlace a0_2 x33).f1, 0, 0, []⟩ : S_impl_ClaimSpot)] : List S_impl_ClaimSpot)), x1016002_1, x1016003_1, _), [some 100, some 240, some 102, some 103], ⟨H, lt_⟩, lt_, (fits_of ⟨.inl ⟨rfl, rfl⟩, trivial⟩ ⟨rfl, ⟨rfl, ⟨rfl, ⟨rfl, trivial⟩⟩⟩⟩ fi_ ⟨⟨_, rfl⟩, ⟨_, rfl, ⟨rfl, ⟨mt_own lm_, ⟨rfl, ⟨rfl, ⟨.inl ⟨rfl, rfl⟩, trivial⟩⟩⟩⟩⟩⟩, trivial⟩ rfl)⟩
  conv => whnf
  refine cut_ 176 [(1, .str a1), (2, .bp 0 0), (4, .bp 8 0), (5, .bp 16 0), (31, (sv_S_impl_PlantPlace a0_2)), (32, .int .i64 (a0_2.length : Int)), (33, .int .i64 x33)] [(0, .box [(sv_str a0_0), (sv_S_impl_PlantFoe a0_1), (sv_S_impl_PlantPlace a0_2), (sv_S_impl_PlantValve a0_3)]), (8, .box [.nil, .nil, .nil, .nil, .int .i64 0]), (16, .box [.own 100 x1016000_1.length, .own 101 x1016001_1.length, .own 102 x1016002_1.length, .own 103 x1016003_1.length, .int .i64 x1016004_1]), (100, .arr 171 2 (x1016000_1.map en_S_impl_ClaimFoe)), (101, .arr 150 5 (x1016001_1.map en_S_impl_ClaimSpot)), (102, .arr 9 1 (x1016002_1.map en_str)), (103, .arr 156 7 (x1016003_1.map en_S_impl_ClaimPart))] rfl ⟨.inl rfl, ⟨.inl rfl, ⟨.inl rfl, ⟨.inl rfl, ⟨.inl rfl, ⟨.inl rfl, ⟨.inl rfl, trivial⟩⟩⟩⟩⟩⟩⟩ ⟨rfl, ⟨rfl, ⟨rfl, ⟨rfl, ⟨rfl, ⟨rfl, ⟨rfl, trivial⟩⟩⟩⟩⟩⟩⟩ ?_
  conv => whnf
  exact ⟨(k, wrap64 (x33 + 1), x1016000_1, x1016001_1, x1016002_1, x1016003_1, _), [some 100, some 101, some 102, some 103], ⟨H, lt_⟩, lt_, (fits_of ⟨.inl ⟨rfl, rfl⟩, trivial⟩ ⟨rfl, ⟨rfl, ⟨rfl, ⟨rfl, trivial⟩⟩⟩⟩ fi_ ⟨⟨_, rfl⟩, ⟨_, rfl, ⟨rfl, ⟨rfl, ⟨rfl, ⟨rfl, ⟨.inl ⟨rfl, rfl⟩, trivial⟩⟩⟩⟩⟩⟩, trivial⟩ rfl)⟩
  conv => whnf
  refine impl_bookOf.l2_lpO (a0_3 := a0_3) (a1 := a1) (k := k) H [some 100, some 101, some 102, some 103] (fits_of ⟨.inl ⟨rfl, rfl⟩, trivial⟩ ⟨rfl, ⟨rfl, ⟨rfl, ⟨rfl, trivial⟩⟩⟩⟩ fi_ ⟨⟨_, rfl⟩, ⟨_, rfl, ⟨rfl, ⟨rfl, ⟨rfl, ⟨rfl, ⟨.inl ⟨rfl, rfl⟩, trivial⟩⟩⟩⟩⟩⟩, trivial⟩ rfl) ?_
  intro k x55 x1016000_2 x1016001_2 x1016002_2 x1016003_2 x1016004_2 hk H; rcases k with _ | k; exact none_elim H; rw [impl_bookOf.l2] at H; conv => whnf
  refine br_d H (fun c H => ?_) (fun c H => ?_)
  conv => whnf
  refine nd_ H (fun c H => ?_)
  conv => whnf
  refine Nd.mk nf_ ?_
  conv => whnf
  refine El.mk (rdm_en_S_impl_PlantValve _ _ nf_ nf_) ?_
  conv => whnf
  refine cut_ 220 [(1, .str a1), (4, .bp 8 0), (5, .bp 16 0), (11, .bp 172 0), (53, (sv_S_impl_PlantValve a0_3)), (54, .int .i64 (a0_3.length : Int)), (55, .int .i64 x55), (62, .bool (decide (((rd_impl_PlantValve a0_3 x55).f3).toList = a1.toList)))] [(8, .box [.nil, .nil, .nil, .nil, .int .i64 0]), (16, .box [.own 144 x1016000_2.length, .own 145 x1016001_2.length, .own 146 x1016002_2.length, .own 147 x1016003_2.length, .int .i64 x1016004_2]), (144, .arr 171 2 (x1016000_2.map en_S_impl_ClaimFoe)), (145, .arr 150 5 (x1016001_2.map en_S_impl_ClaimSpot)), (146, .arr 9 1 (x1016002_2.map en_str)), (147, .arr 156 7 (x1016003_2.map en_S_impl_ClaimPart)), (172, .box [.str ((rd_impl_PlantValve a0_3 x55).f0), .str ((rd_impl_PlantValve a0_3 x55).f1), .str ((rd_impl_PlantValve a0_3 x55).f2), .str ((rd_impl_PlantValve a0_3 x55).f3)])] rfl ⟨.inl rfl, ⟨.inl rfl, ⟨.inl rfl, ⟨.inl rfl, ⟨.inl rfl, ⟨.inl rfl, ⟨.inl rfl, ⟨.inl rfl, trivial⟩⟩⟩⟩⟩⟩⟩⟩ ⟨rfl, ⟨rfl, ⟨rfl, ⟨rfl, ⟨rfl, ⟨rfl, ⟨rfl, trivial⟩⟩⟩⟩⟩⟩⟩ ?_
  conv => whnf
  refine br_d H (fun c H => ?_) (fun c H => ?_)
  conv => whnf
  refine Or.inl ?_
  conv => whnf
  refine nd_ H (fun c H => ?_)
  conv => whnf
  exact ⟨(k, wrap64 (x55 + 1), x1016000_2, x1016001_2, (x1016002_2 ++ ([(rd_impl_PlantValve a0_3 x55).f0] : List ByteArray)), x1016003_2, _), [some 144, some 145, some 260, some 147], ⟨H, lt_⟩, lt_, (fits_of ⟨.inl ⟨rfl, rfl⟩, trivial⟩ ⟨rfl, ⟨rfl, ⟨fm_, ⟨rfl, trivial⟩⟩⟩⟩ fi_ ⟨⟨_, rfl⟩, ⟨_, rfl, ⟨rfl, ⟨rfl, ⟨mt_own lm_, ⟨rfl, ⟨.inl ⟨rfl, rfl⟩, trivial⟩⟩⟩⟩⟩⟩, trivial⟩ rfl)⟩
  conv => whnf
  exact ⟨(k, wrap64 (x55 + 1), x1016000_2, x1016001_2, x1016002_2, x1016003_2, _), [some 144, some 145, some 146, some 147], ⟨H, lt_⟩, lt_, (fits_of ⟨.inl ⟨rfl, rfl⟩, trivial⟩ ⟨rfl, ⟨rfl, ⟨rfl, ⟨rfl, trivial⟩⟩⟩⟩ fi_ ⟨⟨_, rfl⟩, ⟨_, rfl, ⟨rfl, ⟨rfl, ⟨rfl, ⟨rfl, ⟨.inl ⟨rfl, rfl⟩, trivial⟩⟩⟩⟩⟩⟩, trivial⟩ rfl)⟩
  conv => whnf
  injection H with H; subst H
  exact ret_gen [some 144, some 145, some 146, some 147] [] ((rtA_agg (rtL_cons (rfl) (rtL_cons (rfl) (rtL_cons (rfl) (rtL_cons (rfl) (rtL_cons (rt_eq rfl) (rtL_nil)))))))) ⟨rfl, ⟨rfl, ⟨rfl, ⟨rfl, trivial⟩⟩⟩⟩ rfl
theorem impl_CtlBook.ac {k : Nat} {a0_0 : List ByteArray} {a0_1 : List S_impl_PlantFoe} {a0_2 : List S_impl_PlantPlace} {a0_3 : List S_impl_PlantValve} {a1 : ByteArray} {r : (List S_impl_ClaimFoe) × (List S_impl_ClaimSpot) × (List ByteArray) × (List S_impl_ClaimPart) × Int} (H : impl_CtlBook.f k a0_0 a0_1 a0_2 a0_3 a1 = some r) : ACalls Try.prog G 44 [] [.agg [(sv_str a0_0), (sv_S_impl_PlantFoe a0_1), (sv_S_impl_PlantPlace a0_2), (sv_S_impl_PlantValve a0_3)], .str a1] [] (.agg [(sv_S_impl_ClaimFoe r.1), (sv_S_impl_ClaimSpot r.2.1), (sv_str r.2.2.1), (sv_S_impl_ClaimPart r.2.2.2.1), .int .i64 r.2.2.2.2]) := by
  refine acalls_of tok hP Try.func44 rfl (by kernel_rfl) [.cell 4 60] rfl (by kernel_rfl) (Nat.le_of_ble_eq_true rfl) .n rfl ?_
  unfold impl_CtlBook.f at H
  conv => whnf
  revert H; refine bind_elim (fun t1417 A H => ?_)
  refine call_mk (impl_PlantValid.ac A) (avAL_cons (avA_agg (avL_cons (av_shut' rfl) (avL_cons (av_shut' rfl) (avL_cons (av_shut' rfl) (avL_cons (av_shut' rfl) (avL_nil)))))) (avAL_nil)) (Or.inl rfl) rfl rfl (Nat.le_of_ble_eq_true rfl) ?_
  conv => whnf
  refine br_nt H (fun c H => ?_) (fun c H => ?_)
  conv => whnf
  revert H; refine bind_elim (fun t1419 A H => ?_)
  refine call_mk (impl_bookOf.ac A) (avAL_cons (avA_agg (avL_cons (av_shut' rfl) (avL_cons (av_shut' rfl) (avL_cons (av_shut' rfl) (avL_cons (av_shut' rfl) (avL_nil)))))) (avAL_cons (avA_shut' rfl) (avAL_nil))) (Or.inl rfl) rfl rfl (Nat.le_of_ble_eq_true rfl) ?_
  conv => whnf
  injection H with H; subst H
  exact ret_fz [] (rtA_agg (rtL_cons (rt_eq rfl) (rtL_cons (rt_eq rfl) (rtL_cons (rt_eq rfl) (rtL_cons (rt_eq rfl) (rtL_cons (rt_eq rfl) (rtL_nil)))))))
  conv => whnf
  injection H with H; subst H
  exact ret_fz [] (rtA_agg (rtL_cons (rt_nil) (rtL_cons (rt_nil) (rtL_cons (rt_nil) (rtL_cons (rt_nil) (rtL_cons (rt_eq rfl) (rtL_nil)))))))
theorem impl_CtlBook.acO {k : Nat} {a0_0 : List ByteArray} {a0_1 : List S_impl_PlantFoe} {a0_2 : List S_impl_PlantPlace} {a0_3 : List S_impl_PlantValve} {a1 : ByteArray} {r : (List S_impl_ClaimFoe) × (List S_impl_ClaimSpot) × (List ByteArray) × (List S_impl_ClaimPart) × Int} (H : impl_CtlBook.f k a0_0 a0_1 a0_2 a0_3 a1 = some r) : ACalls Try.prog G 44 [] [.agg [(sv_str a0_0), (sv_S_impl_PlantFoe a0_1), (sv_S_impl_PlantPlace a0_2), (sv_S_impl_PlantValve a0_3)], .str a1] [.arr 171 2 (r.1.map en_S_impl_ClaimFoe), .arr 150 5 (r.2.1.map en_S_impl_ClaimSpot), .arr 9 1 (r.2.2.1.map en_str), .arr 156 7 (r.2.2.2.1.map en_S_impl_ClaimPart)] (.agg [.own 0 r.1.length, .own 1 r.2.1.length, .own 2 r.2.2.1.length, .own 3 r.2.2.2.1.length, .int .i64 r.2.2.2.2]) := by
  refine acalls_of tok hP Try.func44 rfl (by kernel_rfl) [.cell 4 60] rfl (by kernel_rfl) (Nat.le_of_ble_eq_true rfl) .n rfl ?_
  unfold impl_CtlBook.f at H
  conv => whnf
  revert H; refine bind_elim (fun t1422 A H => ?_)
  refine call_mk (impl_PlantValid.ac A) (avAL_cons (avA_agg (avL_cons (av_shut' rfl) (avL_cons (av_shut' rfl) (avL_cons (av_shut' rfl) (avL_cons (av_shut' rfl) (avL_nil)))))) (avAL_nil)) (Or.inl rfl) rfl rfl (Nat.le_of_ble_eq_true rfl) ?_
  conv => whnf
  refine br_nt H (fun c H => ?_) (fun c H => ?_)
  conv => whnf
  revert H; refine bind_elim (fun t1424 A H => ?_)
  refine call_mk (impl_bookOf.acO A) (avAL_cons (avA_agg (avL_cons (av_shut' rfl) (avL_cons (av_shut' rfl) (avL_cons (av_shut' rfl) (avL_cons (av_shut' rfl) (avL_nil)))))) (avAL_cons (avA_shut' rfl) (avAL_nil))) (Or.inl rfl) rfl rfl (Nat.le_of_ble_eq_true rfl) ?_
  conv => whnf
  injection H with H; subst H
  exact ret_gen [some 56, some 57, some 58, some 59] [] ((rtA_agg (rtL_cons (rfl) (rtL_cons (rfl) (rtL_cons (rfl) (rtL_cons (rfl) (rtL_cons (rt_eq rfl) (rtL_nil)))))))) ⟨rfl, ⟨rfl, ⟨rfl, ⟨rfl, trivial⟩⟩⟩⟩ rfl
  conv => whnf
  injection H with H; subst H
  exact ret_gen [none, none, none, none] [] ((rtA_agg (rtL_cons (⟨rfl, rfl⟩) (rtL_cons (⟨rfl, rfl⟩) (rtL_cons (⟨rfl, rfl⟩) (rtL_cons (⟨rfl, rfl⟩) (rtL_cons (rt_eq rfl) (rtL_nil)))))))) ⟨⟨_, _, rfl⟩, ⟨⟨_, _, rfl⟩, ⟨⟨_, _, rfl⟩, ⟨⟨_, _, rfl⟩, trivial⟩⟩⟩⟩ rfl

end Go.Proofs.Ytamkmmkchdnkmaa.CB

