import Derived.Test.YtamkmmkchdnkmaaZFnExactCtlWordOk0
import Derived.Shelf.Lay
import Derived.Shelf.Sort.AssemblyIn
import Derived.Ground.SoProg
import Derived.Test.YtamkmmkchdnkmaaProg
import Derived.KernelRfl
set_option linter.unusedVariables false
set_option linter.unusedSimpArgs false
namespace Go.Proofs.Ytamkmmkchdnkmaa.CW
open Go Go.Aw Go.RowKit Go.Proofs
set_option maxRecDepth 100000
set_option maxHeartbeats 40000000
variable {G : Nat → Option Obj}
def tab : List (TypeId × TI) := [(2, ⟨1, 8, false, 0, 0, [], [.int .i64 0], some .i64, false, false, false, [], [0], []⟩),
  (3, ⟨1, 8, false, 0, 0, [], [.int .i64 0], some .i64, false, false, false, [], [0], []⟩),
  (4, ⟨1, 1, false, 0, 0, [], [.bool false], none, false, false, true, [], [0], []⟩),
  (5, ⟨1, 1, false, 0, 0, [], [.int .u8 0], some .u8, false, false, false, [], [0], []⟩),
  (6, ⟨1, 1, false, 0, 0, [], [.int .u8 0], some .u8, false, false, false, [], [0], []⟩),
  (7, ⟨4, 24, true, 0, 0, [(0, 2), (1, 3), (2, 4), (3, 6)], [.int .i64 0, .int .i64 0, .bool false, .int .u8 0], none, false, false, false, [(0, 1), (1, 1), (2, 1), (3, 1)], [0, 0, 0, 0], []⟩),
  (8, ⟨4, 24, true, 0, 0, [(0, 2), (1, 3), (2, 4), (3, 6)], [.int .i64 0, .int .i64 0, .bool false, .int .u8 0], none, false, false, false, [(0, 1), (1, 1), (2, 1), (3, 1)], [0, 0, 0, 0], []⟩),
  (9, ⟨1, 16, false, 0, 0, [], [.str ⟨#[]⟩], none, true, false, false, [], [0], []⟩),
  (10, ⟨1, 16, false, 0, 0, [], [.str ⟨#[]⟩], none, true, false, false, [], [0], []⟩),
  (11, ⟨1, 16, false, 0, 0, [], [.str ⟨#[]⟩], none, true, false, false, [], [0], []⟩),
  (12, ⟨1, 8, false, 0, 0, [], [.int .u64 0], some .u64, false, false, false, [], [0], []⟩),
  (13, ⟨2, 24, true, 0, 0, [(0, 9), (1, 12)], [.str ⟨#[]⟩, .int .u64 0], none, false, false, false, [(0, 1), (1, 1)], [0, 0], []⟩),
  (14, ⟨2, 24, true, 0, 0, [(0, 9), (1, 12)], [.str ⟨#[]⟩, .int .u64 0], none, false, false, false, [(0, 1), (1, 1)], [0, 0], []⟩),
  (21, ⟨1, 4, false, 0, 0, [], [.int .i32 0], some .i32, false, false, false, [], [0], []⟩),
  (22, ⟨1, 24, false, 189, 0, [], [.nil], none, false, true, false, [], [2], []⟩),
  (23, ⟨1, 24, false, 191, 0, [], [.nil], none, false, true, false, [], [2], []⟩),
  (24, ⟨1, 24, false, 195, 0, [], [.nil], none, false, true, false, [], [4], []⟩),
  (25, ⟨1, 24, false, 198, 0, [], [.nil], none, false, true, false, [], [3], []⟩),
  (26, ⟨4, 96, true, 0, 0, [(0, 22), (1, 23), (2, 24), (3, 25)], [.nil, .nil, .nil, .nil], none, false, false, false, [(0, 1), (1, 1), (2, 1), (3, 1)], [2, 2, 4, 3], []⟩),
  (27, ⟨4, 96, true, 0, 0, [(0, 22), (1, 23), (2, 24), (3, 25)], [.nil, .nil, .nil, .nil], none, false, false, false, [(0, 1), (1, 1), (2, 1), (3, 1)], [2, 2, 4, 3], []⟩),
  (30, ⟨1, 24, false, 199, 0, [], [.nil], none, false, true, false, [], [2], []⟩),
  (31, ⟨1, 24, false, 125, 0, [], [.nil], none, false, true, false, [], [2], []⟩),
  (32, ⟨1, 24, false, 110, 0, [], [.nil], none, false, true, false, [], [4], []⟩),
  (33, ⟨1, 24, false, 115, 0, [], [.nil], none, false, true, false, [], [3], []⟩),
  (34, ⟨4, 96, true, 0, 0, [(0, 30), (1, 31), (2, 32), (3, 33)], [.nil, .nil, .nil, .nil], none, false, false, false, [(0, 1), (1, 1), (2, 1), (3, 1)], [2, 2, 4, 3], []⟩),
  (35, ⟨4, 96, true, 0, 0, [(0, 30), (1, 31), (2, 32), (3, 33)], [.nil, .nil, .nil, .nil], none, false, false, false, [(0, 1), (1, 1), (2, 1), (3, 1)], [2, 2, 4, 3], []⟩),
  (44, ⟨1, 24, false, 9, 0, [], [.nil], none, false, true, false, [], [1], []⟩),
  (49, ⟨1, 24, false, 218, 0, [], [.nil], none, false, true, false, [], [2], []⟩),
  (50, ⟨1, 24, false, 220, 0, [], [.nil], none, false, true, false, [], [5], []⟩),
  (51, ⟨1, 24, false, 223, 0, [], [.nil], none, false, true, false, [], [7], []⟩),
  (52, ⟨5, 104, true, 0, 0, [(0, 49), (1, 50), (2, 44), (3, 51), (4, 3)], [.nil, .nil, .nil, .nil, .int .i64 0], none, false, false, false, [(0, 1), (1, 1), (2, 1), (3, 1), (4, 1)], [2, 5, 1, 7, 0], []⟩),
  (53, ⟨5, 104, true, 0, 0, [(0, 49), (1, 50), (2, 44), (3, 51), (4, 3)], [.nil, .nil, .nil, .nil, .int .i64 0], none, false, false, false, [(0, 1), (1, 1), (2, 1), (3, 1), (4, 1)], [2, 5, 1, 7, 0], []⟩),
  (56, ⟨1, 24, false, 171, 0, [], [.nil], none, false, true, false, [], [2], []⟩),
  (57, ⟨1, 24, false, 150, 0, [], [.nil], none, false, true, false, [], [5], []⟩),
  (58, ⟨1, 24, false, 156, 0, [], [.nil], none, false, true, false, [], [7], []⟩),
  (59, ⟨5, 104, true, 0, 0, [(0, 56), (1, 57), (2, 44), (3, 58), (4, 3)], [.nil, .nil, .nil, .nil, .int .i64 0], none, false, false, false, [(0, 1), (1, 1), (2, 1), (3, 1), (4, 1)], [2, 5, 1, 7, 0], []⟩),
  (60, ⟨5, 104, true, 0, 0, [(0, 56), (1, 57), (2, 44), (3, 58), (4, 3)], [.nil, .nil, .nil, .nil, .int .i64 0], none, false, false, false, [(0, 1), (1, 1), (2, 1), (3, 1), (4, 1)], [2, 5, 1, 7, 0], []⟩),
  (66, ⟨1, 24, false, 3, 0, [], [.nil], none, false, true, false, [], [1], []⟩),
  (71, ⟨1, 24, false, 237, 0, [], [.nil], none, false, true, false, [], [2], []⟩),
  (72, ⟨1, 24, false, 239, 0, [], [.nil], none, false, true, false, [], [3], []⟩),
  (73, ⟨1, 24, false, 241, 0, [], [.nil], none, false, true, false, [], [4], []⟩),
  (74, ⟨4, 96, true, 0, 0, [(0, 44), (1, 71), (2, 72), (3, 73)], [.nil, .nil, .nil, .nil], none, false, false, false, [(0, 1), (1, 1), (2, 1), (3, 1)], [1, 2, 3, 4], []⟩),
  (75, ⟨4, 96, true, 0, 0, [(0, 44), (1, 71), (2, 72), (3, 73)], [.nil, .nil, .nil, .nil], none, false, false, false, [(0, 1), (1, 1), (2, 1), (3, 1)], [1, 2, 3, 4], []⟩),
  (78, ⟨1, 24, false, 170, 0, [], [.nil], none, false, true, false, [], [2], []⟩),
  (79, ⟨1, 24, false, 173, 0, [], [.nil], none, false, true, false, [], [3], []⟩),
  (80, ⟨1, 24, false, 175, 0, [], [.nil], none, false, true, false, [], [4], []⟩),
  (81, ⟨4, 96, true, 0, 0, [(0, 44), (1, 78), (2, 79), (3, 80)], [.nil, .nil, .nil, .nil], none, false, false, false, [(0, 1), (1, 1), (2, 1), (3, 1)], [1, 2, 3, 4], []⟩),
  (82, ⟨4, 96, true, 0, 0, [(0, 44), (1, 78), (2, 79), (3, 80)], [.nil, .nil, .nil, .nil], none, false, false, false, [(0, 1), (1, 1), (2, 1), (3, 1)], [1, 2, 3, 4], []⟩),
  (89, ⟨1, 24, false, 263, 0, [], [.nil], none, false, true, false, [], [3], []⟩),
  (90, ⟨6, 112, true, 0, 0, [(0, 3), (1, 3), (2, 44), (3, 89), (4, 44), (5, 44)], [.int .i64 0, .int .i64 0, .nil, .nil, .nil, .nil], none, false, false, false, [(0, 1), (1, 1), (2, 1), (3, 1), (4, 1), (5, 1)], [0, 0, 1, 3, 1, 1], []⟩),
  (91, ⟨6, 112, true, 0, 0, [(0, 3), (1, 3), (2, 44), (3, 89), (4, 44), (5, 44)], [.int .i64 0, .int .i64 0, .nil, .nil, .nil, .nil], none, false, false, false, [(0, 1), (1, 1), (2, 1), (3, 1), (4, 1), (5, 1)], [0, 0, 1, 3, 1, 1], []⟩),
  (92, ⟨11, 160, true, 0, 0, [(0, 3), (1, 9), (2, 3), (3, 91), (9, 3), (10, 4)], [.int .i64 0, .str ⟨#[]⟩, .int .i64 0, .int .i64 0, .int .i64 0, .nil, .nil, .nil, .nil, .int .i64 0, .bool false], none, false, false, false, [(0, 1), (1, 1), (2, 1), (3, 6), (9, 1), (10, 1)], [0, 0, 0, 0, 0, 1, 3, 1, 1, 0, 0], []⟩),
  (93, ⟨11, 160, true, 0, 0, [(0, 3), (1, 9), (2, 3), (3, 91), (9, 3), (10, 4)], [.int .i64 0, .str ⟨#[]⟩, .int .i64 0, .int .i64 0, .int .i64 0, .nil, .nil, .nil, .nil, .int .i64 0, .bool false], none, false, false, false, [(0, 1), (1, 1), (2, 1), (3, 6), (9, 1), (10, 1)], [0, 0, 0, 0, 0, 1, 3, 1, 1, 0, 0], []⟩),
  (96, ⟨1, 24, false, 231, 0, [], [.nil], none, false, true, false, [], [3], []⟩),
  (97, ⟨6, 112, true, 0, 0, [(0, 3), (1, 3), (2, 44), (3, 96), (4, 44), (5, 44)], [.int .i64 0, .int .i64 0, .nil, .nil, .nil, .nil], none, false, false, false, [(0, 1), (1, 1), (2, 1), (3, 1), (4, 1), (5, 1)], [0, 0, 1, 3, 1, 1], []⟩),
  (98, ⟨6, 112, true, 0, 0, [(0, 3), (1, 3), (2, 44), (3, 96), (4, 44), (5, 44)], [.int .i64 0, .int .i64 0, .nil, .nil, .nil, .nil], none, false, false, false, [(0, 1), (1, 1), (2, 1), (3, 1), (4, 1), (5, 1)], [0, 0, 1, 3, 1, 1], []⟩),
  (99, ⟨11, 160, true, 0, 0, [(0, 3), (1, 9), (2, 3), (3, 98), (9, 3), (10, 4)], [.int .i64 0, .str ⟨#[]⟩, .int .i64 0, .int .i64 0, .int .i64 0, .nil, .nil, .nil, .nil, .int .i64 0, .bool false], none, false, false, false, [(0, 1), (1, 1), (2, 1), (3, 6), (9, 1), (10, 1)], [0, 0, 0, 0, 0, 1, 3, 1, 1, 0, 0], []⟩),
  (100, ⟨11, 160, true, 0, 0, [(0, 3), (1, 9), (2, 3), (3, 98), (9, 3), (10, 4)], [.int .i64 0, .str ⟨#[]⟩, .int .i64 0, .int .i64 0, .int .i64 0, .nil, .nil, .nil, .nil, .int .i64 0, .bool false], none, false, false, false, [(0, 1), (1, 1), (2, 1), (3, 6), (9, 1), (10, 1)], [0, 0, 0, 0, 0, 1, 3, 1, 1, 0, 0], []⟩),
  (108, ⟨1, 24, false, 137, 0, [], [.nil], none, false, true, false, [], [2], []⟩),
  (109, ⟨4, 72, true, 0, 0, [(0, 9), (1, 3), (2, 108), (3, 44)], [.str ⟨#[]⟩, .int .i64 0, .nil, .nil], none, false, false, false, [(0, 1), (1, 1), (2, 1), (3, 1)], [0, 0, 2, 1], []⟩),
  (110, ⟨4, 72, true, 0, 0, [(0, 9), (1, 3), (2, 108), (3, 44)], [.str ⟨#[]⟩, .int .i64 0, .nil, .nil], none, false, false, false, [(0, 1), (1, 1), (2, 1), (3, 1)], [0, 0, 2, 1], []⟩),
  (114, ⟨3, 64, true, 0, 0, [(0, 9), (1, 108), (2, 44)], [.str ⟨#[]⟩, .nil, .nil], none, false, false, false, [(0, 1), (1, 1), (2, 1)], [0, 2, 1], []⟩),
  (115, ⟨3, 64, true, 0, 0, [(0, 9), (1, 108), (2, 44)], [.str ⟨#[]⟩, .nil, .nil], none, false, false, false, [(0, 1), (1, 1), (2, 1)], [0, 2, 1], []⟩),
  (122, ⟨1, 24, false, 205, 0, [], [.nil], none, false, true, false, [], [2], []⟩),
  (124, ⟨2, 32, true, 0, 0, [(0, 9), (1, 9)], [.str ⟨#[]⟩, .str ⟨#[]⟩], none, false, false, false, [(0, 1), (1, 1)], [0, 0], []⟩),
  (125, ⟨2, 32, true, 0, 0, [(0, 9), (1, 9)], [.str ⟨#[]⟩, .str ⟨#[]⟩], none, false, false, false, [(0, 1), (1, 1)], [0, 0], [2, 2]⟩),
  (136, ⟨2, 24, true, 0, 0, [(0, 9), (1, 3)], [.str ⟨#[]⟩, .int .i64 0], none, false, false, false, [(0, 1), (1, 1)], [0, 0], []⟩),
  (137, ⟨2, 24, true, 0, 0, [(0, 9), (1, 3)], [.str ⟨#[]⟩, .int .i64 0], none, false, false, false, [(0, 1), (1, 1)], [0, 0], [2, 1]⟩),
  (149, ⟨5, 64, true, 0, 0, [(0, 9), (1, 3), (2, 3), (3, 3), (4, 44)], [.str ⟨#[]⟩, .int .i64 0, .int .i64 0, .int .i64 0, .nil], none, false, false, false, [(0, 1), (1, 1), (2, 1), (3, 1), (4, 1)], [0, 0, 0, 0, 1], []⟩),
  (150, ⟨5, 64, true, 0, 0, [(0, 9), (1, 3), (2, 3), (3, 3), (4, 44)], [.str ⟨#[]⟩, .int .i64 0, .int .i64 0, .int .i64 0, .nil], none, false, false, false, [(0, 1), (1, 1), (2, 1), (3, 1), (4, 1)], [0, 0, 0, 0, 1], []⟩),
  (155, ⟨7, 120, true, 0, 0, [(0, 98), (6, 4)], [.int .i64 0, .int .i64 0, .nil, .nil, .nil, .nil, .bool false], none, false, false, false, [(0, 6), (6, 1)], [0, 0, 1, 3, 1, 1, 0], []⟩),
  (156, ⟨7, 120, true, 0, 0, [(0, 98), (6, 4)], [.int .i64 0, .int .i64 0, .nil, .nil, .nil, .nil, .bool false], none, false, false, false, [(0, 6), (6, 1)], [0, 0, 1, 3, 1, 1, 0], []⟩),
  (169, ⟨2, 32, true, 0, 0, [(0, 9), (1, 9)], [.str ⟨#[]⟩, .str ⟨#[]⟩], none, false, false, false, [(0, 1), (1, 1)], [0, 0], []⟩),
  (170, ⟨2, 32, true, 0, 0, [(0, 9), (1, 9)], [.str ⟨#[]⟩, .str ⟨#[]⟩], none, false, false, false, [(0, 1), (1, 1)], [0, 0], [2, 2]⟩),
  (171, ⟨2, 32, true, 0, 0, [(0, 9), (1, 9)], [.str ⟨#[]⟩, .str ⟨#[]⟩], none, false, false, false, [(0, 1), (1, 1)], [0, 0], [2, 2]⟩),
  (172, ⟨3, 40, true, 0, 0, [(0, 9), (1, 3), (2, 9)], [.str ⟨#[]⟩, .int .i64 0, .str ⟨#[]⟩], none, false, false, false, [(0, 1), (1, 1), (2, 1)], [0, 0, 0], []⟩),
  (173, ⟨3, 40, true, 0, 0, [(0, 9), (1, 3), (2, 9)], [.str ⟨#[]⟩, .int .i64 0, .str ⟨#[]⟩], none, false, false, false, [(0, 1), (1, 1), (2, 1)], [0, 0, 0], [2, 1, 2]⟩),
  (174, ⟨4, 64, true, 0, 0, [(0, 9), (1, 9), (2, 9), (3, 9)], [.str ⟨#[]⟩, .str ⟨#[]⟩, .str ⟨#[]⟩, .str ⟨#[]⟩], none, false, false, false, [(0, 1), (1, 1), (2, 1), (3, 1)], [0, 0, 0, 0], []⟩),
  (175, ⟨4, 64, true, 0, 0, [(0, 9), (1, 9), (2, 9), (3, 9)], [.str ⟨#[]⟩, .str ⟨#[]⟩, .str ⟨#[]⟩, .str ⟨#[]⟩], none, false, false, false, [(0, 1), (1, 1), (2, 1), (3, 1)], [0, 0, 0, 0], [2, 2, 2, 2]⟩),
  (189, ⟨2, 32, true, 0, 0, [(0, 9), (1, 9)], [.str ⟨#[]⟩, .str ⟨#[]⟩], none, false, false, false, [(0, 1), (1, 1)], [0, 0], [2, 2]⟩),
  (191, ⟨2, 32, true, 0, 0, [(0, 9), (1, 9)], [.str ⟨#[]⟩, .str ⟨#[]⟩], none, false, false, false, [(0, 1), (1, 1)], [0, 0], [2, 2]⟩),
  (193, ⟨1, 24, false, 267, 0, [], [.nil], none, false, true, false, [], [2], []⟩),
  (194, ⟨4, 72, true, 0, 0, [(0, 9), (1, 3), (2, 193), (3, 44)], [.str ⟨#[]⟩, .int .i64 0, .nil, .nil], none, false, false, false, [(0, 1), (1, 1), (2, 1), (3, 1)], [0, 0, 2, 1], []⟩),
  (195, ⟨4, 72, true, 0, 0, [(0, 9), (1, 3), (2, 193), (3, 44)], [.str ⟨#[]⟩, .int .i64 0, .nil, .nil], none, false, false, false, [(0, 1), (1, 1), (2, 1), (3, 1)], [0, 0, 2, 1], []⟩),
  (197, ⟨3, 64, true, 0, 0, [(0, 9), (1, 193), (2, 44)], [.str ⟨#[]⟩, .nil, .nil], none, false, false, false, [(0, 1), (1, 1), (2, 1)], [0, 2, 1], []⟩),
  (198, ⟨3, 64, true, 0, 0, [(0, 9), (1, 193), (2, 44)], [.str ⟨#[]⟩, .nil, .nil], none, false, false, false, [(0, 1), (1, 1), (2, 1)], [0, 2, 1], []⟩),
  (199, ⟨2, 32, true, 0, 0, [(0, 9), (1, 9)], [.str ⟨#[]⟩, .str ⟨#[]⟩], none, false, false, false, [(0, 1), (1, 1)], [0, 0], [2, 2]⟩),
  (205, ⟨2, 32, true, 9, 2, [], [.str ⟨#[]⟩, .str ⟨#[]⟩], none, false, false, false, [(0, 1), (1, 1)], [0, 0], [2, 2]⟩),
  (216, ⟨1, 24, false, 5, 0, [], [.nil], none, false, true, false, [], [1], []⟩),
  (218, ⟨2, 32, true, 0, 0, [(0, 9), (1, 9)], [.str ⟨#[]⟩, .str ⟨#[]⟩], none, false, false, false, [(0, 1), (1, 1)], [0, 0], [2, 2]⟩),
  (220, ⟨5, 64, true, 0, 0, [(0, 9), (1, 3), (2, 3), (3, 3), (4, 44)], [.str ⟨#[]⟩, .int .i64 0, .int .i64 0, .int .i64 0, .nil], none, false, false, false, [(0, 1), (1, 1), (2, 1), (3, 1), (4, 1)], [0, 0, 0, 0, 1], []⟩),
  (222, ⟨7, 120, true, 0, 0, [(0, 91), (6, 4)], [.int .i64 0, .int .i64 0, .nil, .nil, .nil, .nil, .bool false], none, false, false, false, [(0, 6), (6, 1)], [0, 0, 1, 3, 1, 1, 0], []⟩),
  (223, ⟨7, 120, true, 0, 0, [(0, 91), (6, 4)], [.int .i64 0, .int .i64 0, .nil, .nil, .nil, .nil, .bool false], none, false, false, false, [(0, 6), (6, 1)], [0, 0, 1, 3, 1, 1, 0], []⟩),
  (230, ⟨3, 32, true, 0, 0, [(0, 9), (1, 3), (2, 3)], [.str ⟨#[]⟩, .int .i64 0, .int .i64 0], none, false, false, false, [(0, 1), (1, 1), (2, 1)], [0, 0, 0], []⟩),
  (231, ⟨3, 32, true, 0, 0, [(0, 9), (1, 3), (2, 3)], [.str ⟨#[]⟩, .int .i64 0, .int .i64 0], none, false, false, false, [(0, 1), (1, 1), (2, 1)], [0, 0, 0], [2, 1, 1]⟩),
  (237, ⟨2, 32, true, 0, 0, [(0, 9), (1, 9)], [.str ⟨#[]⟩, .str ⟨#[]⟩], none, false, false, false, [(0, 1), (1, 1)], [0, 0], [2, 2]⟩),
  (239, ⟨3, 40, true, 0, 0, [(0, 9), (1, 3), (2, 9)], [.str ⟨#[]⟩, .int .i64 0, .str ⟨#[]⟩], none, false, false, false, [(0, 1), (1, 1), (2, 1)], [0, 0, 0], [2, 1, 2]⟩),
  (241, ⟨4, 64, true, 0, 0, [(0, 9), (1, 9), (2, 9), (3, 9)], [.str ⟨#[]⟩, .str ⟨#[]⟩, .str ⟨#[]⟩, .str ⟨#[]⟩], none, false, false, false, [(0, 1), (1, 1), (2, 1), (3, 1)], [0, 0, 0, 0], [2, 2, 2, 2]⟩),
  (263, ⟨3, 32, true, 0, 0, [(0, 9), (1, 3), (2, 3)], [.str ⟨#[]⟩, .int .i64 0, .int .i64 0], none, false, false, false, [(0, 1), (1, 1), (2, 1)], [0, 0, 0], [2, 1, 1]⟩),
  (267, ⟨2, 24, true, 0, 0, [(0, 9), (1, 3)], [.str ⟨#[]⟩, .int .i64 0], none, false, false, false, [(0, 1), (1, 1)], [0, 0], [2, 1]⟩),
  (272, ⟨1, 8, false, 0, 0, [], [.int .u64 0], some .u64, false, false, false, [], [0], []⟩),
  (274, ⟨1, 8, false, 0, 0, [], [.int .i64 0], some .i64, false, false, false, [], [0], []⟩),
  (283, ⟨1, 4, false, 0, 0, [], [.int .u32 0], some .u32, false, false, false, [], [0], []⟩),
  (285, ⟨1, 8, false, 0, 0, [], [.int .u64 0], some .u64, false, false, false, [], [0], []⟩),
  (286, ⟨1, 8, false, 0, 0, [], [.int .u64 0], some .u64, false, false, false, [], [0], []⟩),
  (301, ⟨1, 1, false, 0, 0, [], [.int .u8 0], some .u8, false, false, false, [], [0], []⟩),
  (302, ⟨1, 1, false, 0, 0, [], [.int .u8 0], some .u8, false, false, false, [], [0], []⟩),
  (305, ⟨1, 4, false, 0, 0, [], [.int .i32 0], some .i32, false, false, false, [], [0], []⟩),
  (306, ⟨1, 4, false, 0, 0, [], [.int .i32 0], some .i32, false, false, false, [], [0], []⟩)]
theorem tok : TOk Try.prog (lk tab) := tok_of tab (by kernel_rfl)
theorem hP : Try.prog.follows .mixedOrders = true := by kernel_rfl
def en_str (x : ByteArray) : List V := [.str x]
def sv_str (l : List ByteArray) : V := .sl 1 l.length (l.map en_str)
def ob_str (l : List ByteArray) : Ob := .arr 9 1 (l.map en_str)
theorem bare_en_str (x : ByteArray) : (en_str x).all V.bare = true := rfl
theorem rdm_en_str (l : List ByteArray) (i : Int) (h0 : 0 ≤ i) (h1 : i < (l.length : Int)) : (l.map en_str)[i.toNat]? = some (en_str (rdOf ByteArray.empty l i)) := by
  have : i.toNat < l.length := by omega
  simp [rdOf, this]
def en_S_laws_PlantFoe (x : S_laws_PlantFoe) : List V := [.str x.f0, .str x.f1]
def sv_S_laws_PlantFoe (l : List S_laws_PlantFoe) : V := .sl 2 l.length (l.map en_S_laws_PlantFoe)
def ob_S_laws_PlantFoe (l : List S_laws_PlantFoe) : Ob := .arr 237 2 (l.map en_S_laws_PlantFoe)
theorem bare_en_S_laws_PlantFoe (x : S_laws_PlantFoe) : (en_S_laws_PlantFoe x).all V.bare = true := rfl
theorem rdm_en_S_laws_PlantFoe (l : List S_laws_PlantFoe) (i : Int) (h0 : 0 ≤ i) (h1 : i < (l.length : Int)) : (l.map en_S_laws_PlantFoe)[i.toNat]? = some (en_S_laws_PlantFoe (rd_laws_PlantFoe l i)) := by
  have : i.toNat < l.length := by omega
  simp [rd_laws_PlantFoe, this]
def en_S_laws_PlantPlace (x : S_laws_PlantPlace) : List V := [.str x.f0, .int .i64 x.f1, .str x.f2]
def sv_S_laws_PlantPlace (l : List S_laws_PlantPlace) : V := .sl 3 l.length (l.map en_S_laws_PlantPlace)
def ob_S_laws_PlantPlace (l : List S_laws_PlantPlace) : Ob := .arr 239 3 (l.map en_S_laws_PlantPlace)
theorem bare_en_S_laws_PlantPlace (x : S_laws_PlantPlace) : (en_S_laws_PlantPlace x).all V.bare = true := rfl
theorem rdm_en_S_laws_PlantPlace (l : List S_laws_PlantPlace) (i : Int) (h0 : 0 ≤ i) (h1 : i < (l.length : Int)) : (l.map en_S_laws_PlantPlace)[i.toNat]? = some (en_S_laws_PlantPlace (rd_laws_PlantPlace l i)) := by
  have : i.toNat < l.length := by omega
  simp [rd_laws_PlantPlace, this]
def en_S_laws_PlantValve (x : S_laws_PlantValve) : List V := [.str x.f0, .str x.f1, .str x.f2, .str x.f3]
def sv_S_laws_PlantValve (l : List S_laws_PlantValve) : V := .sl 4 l.length (l.map en_S_laws_PlantValve)
def ob_S_laws_PlantValve (l : List S_laws_PlantValve) : Ob := .arr 241 4 (l.map en_S_laws_PlantValve)
theorem bare_en_S_laws_PlantValve (x : S_laws_PlantValve) : (en_S_laws_PlantValve x).all V.bare = true := rfl
theorem rdm_en_S_laws_PlantValve (l : List S_laws_PlantValve) (i : Int) (h0 : 0 ≤ i) (h1 : i < (l.length : Int)) : (l.map en_S_laws_PlantValve)[i.toNat]? = some (en_S_laws_PlantValve (rd_laws_PlantValve l i)) := by
  have : i.toNat < l.length := by omega
  simp [rd_laws_PlantValve, this]
def en_S_laws_ClaimUse (x : S_laws_ClaimUse) : List V := [.str x.f0, .int .i64 x.f1, .int .i64 x.f2]
def sv_S_laws_ClaimUse (l : List S_laws_ClaimUse) : V := .sl 3 l.length (l.map en_S_laws_ClaimUse)
def ob_S_laws_ClaimUse (l : List S_laws_ClaimUse) : Ob := .arr 263 3 (l.map en_S_laws_ClaimUse)
theorem bare_en_S_laws_ClaimUse (x : S_laws_ClaimUse) : (en_S_laws_ClaimUse x).all V.bare = true := rfl
theorem rdm_en_S_laws_ClaimUse (l : List S_laws_ClaimUse) (i : Int) (h0 : 0 ≤ i) (h1 : i < (l.length : Int)) : (l.map en_S_laws_ClaimUse)[i.toNat]? = some (en_S_laws_ClaimUse (rd_laws_ClaimUse l i)) := by
  have : i.toNat < l.length := by omega
  simp [rd_laws_ClaimUse, this]
def en_S_impl_PlantFoe (x : S_impl_PlantFoe) : List V := [.str x.f0, .str x.f1]
def sv_S_impl_PlantFoe (l : List S_impl_PlantFoe) : V := .sl 2 l.length (l.map en_S_impl_PlantFoe)
def ob_S_impl_PlantFoe (l : List S_impl_PlantFoe) : Ob := .arr 170 2 (l.map en_S_impl_PlantFoe)
theorem bare_en_S_impl_PlantFoe (x : S_impl_PlantFoe) : (en_S_impl_PlantFoe x).all V.bare = true := rfl
theorem rdm_en_S_impl_PlantFoe (l : List S_impl_PlantFoe) (i : Int) (h0 : 0 ≤ i) (h1 : i < (l.length : Int)) : (l.map en_S_impl_PlantFoe)[i.toNat]? = some (en_S_impl_PlantFoe (rd_impl_PlantFoe l i)) := by
  have : i.toNat < l.length := by omega
  simp [rd_impl_PlantFoe, this]
def en_S_impl_PlantPlace (x : S_impl_PlantPlace) : List V := [.str x.f0, .int .i64 x.f1, .str x.f2]
def sv_S_impl_PlantPlace (l : List S_impl_PlantPlace) : V := .sl 3 l.length (l.map en_S_impl_PlantPlace)
def ob_S_impl_PlantPlace (l : List S_impl_PlantPlace) : Ob := .arr 173 3 (l.map en_S_impl_PlantPlace)
theorem bare_en_S_impl_PlantPlace (x : S_impl_PlantPlace) : (en_S_impl_PlantPlace x).all V.bare = true := rfl
theorem rdm_en_S_impl_PlantPlace (l : List S_impl_PlantPlace) (i : Int) (h0 : 0 ≤ i) (h1 : i < (l.length : Int)) : (l.map en_S_impl_PlantPlace)[i.toNat]? = some (en_S_impl_PlantPlace (rd_impl_PlantPlace l i)) := by
  have : i.toNat < l.length := by omega
  simp [rd_impl_PlantPlace, this]
def en_S_impl_PlantValve (x : S_impl_PlantValve) : List V := [.str x.f0, .str x.f1, .str x.f2, .str x.f3]
def sv_S_impl_PlantValve (l : List S_impl_PlantValve) : V := .sl 4 l.length (l.map en_S_impl_PlantValve)
def ob_S_impl_PlantValve (l : List S_impl_PlantValve) : Ob := .arr 175 4 (l.map en_S_impl_PlantValve)
theorem bare_en_S_impl_PlantValve (x : S_impl_PlantValve) : (en_S_impl_PlantValve x).all V.bare = true := rfl
theorem rdm_en_S_impl_PlantValve (l : List S_impl_PlantValve) (i : Int) (h0 : 0 ≤ i) (h1 : i < (l.length : Int)) : (l.map en_S_impl_PlantValve)[i.toNat]? = some (en_S_impl_PlantValve (rd_impl_PlantValve l i)) := by
  have : i.toNat < l.length := by omega
  simp [rd_impl_PlantValve, this]
def en_S_impl_ClaimUse (x : S_impl_ClaimUse) : List V := [.str x.f0, .int .i64 x.f1, .int .i64 x.f2]
def sv_S_impl_ClaimUse (l : List S_impl_ClaimUse) : V := .sl 3 l.length (l.map en_S_impl_ClaimUse)
def ob_S_impl_ClaimUse (l : List S_impl_ClaimUse) : Ob := .arr 231 3 (l.map en_S_impl_ClaimUse)
theorem bare_en_S_impl_ClaimUse (x : S_impl_ClaimUse) : (en_S_impl_ClaimUse x).all V.bare = true := rfl
theorem rdm_en_S_impl_ClaimUse (l : List S_impl_ClaimUse) (i : Int) (h0 : 0 ≤ i) (h1 : i < (l.length : Int)) : (l.map en_S_impl_ClaimUse)[i.toNat]? = some (en_S_impl_ClaimUse (rd_impl_ClaimUse l i)) := by
  have : i.toNat < l.length := by omega
  simp [rd_impl_ClaimUse, this]
def en_S_A2_string (x : S_A2_string) : List V := [.str x.f0, .str x.f1]
def sv_S_A2_string (l : List S_A2_string) : V := .sl 2 l.length (l.map en_S_A2_string)
def ob_S_A2_string (l : List S_A2_string) : Ob := .arr 205 2 (l.map en_S_A2_string)
theorem bare_en_S_A2_string (x : S_A2_string) : (en_S_A2_string x).all V.bare = true := rfl
theorem rdm_en_S_A2_string (l : List S_A2_string) (i : Int) (h0 : 0 ≤ i) (h1 : i < (l.length : Int)) : (l.map en_S_A2_string)[i.toNat]? = some (en_S_A2_string (rd_A2_string l i)) := by
  have : i.toNat < l.length := by omega
  simp [rd_A2_string, this]
def en_L_str (x : List ByteArray) : List V := [(sv_str x)]
def sv_L_str (l : List (List ByteArray)) : V := .sl 1 l.length (l.map en_L_str)
def ob_L_str (l : List (List ByteArray)) : Ob := .arr 44 1 (l.map en_L_str)
theorem rdm_en_L_str (l : List (List ByteArray)) (i : Int) (h0 : 0 ≤ i) (h1 : i < (l.length : Int)) : (l.map en_L_str)[i.toNat]? = some (en_L_str (rdOf ([] : List ByteArray) l i)) := by
  have : i.toNat < l.length := by omega
  simp [rdOf, this]
def en_L_S_laws_PlantFoe (x : List S_laws_PlantFoe) : List V := [(sv_S_laws_PlantFoe x)]
def sv_L_S_laws_PlantFoe (l : List (List S_laws_PlantFoe)) : V := .sl 1 l.length (l.map en_L_S_laws_PlantFoe)
def ob_L_S_laws_PlantFoe (l : List (List S_laws_PlantFoe)) : Ob := .arr 71 1 (l.map en_L_S_laws_PlantFoe)
theorem rdm_en_L_S_laws_PlantFoe (l : List (List S_laws_PlantFoe)) (i : Int) (h0 : 0 ≤ i) (h1 : i < (l.length : Int)) : (l.map en_L_S_laws_PlantFoe)[i.toNat]? = some (en_L_S_laws_PlantFoe (rdOf ([] : List S_laws_PlantFoe) l i)) := by
  have : i.toNat < l.length := by omega
  simp [rdOf, this]
def en_i64 (x : Int) : List V := [.int .i64 x]
def sv_i64 (l : List Int) : V := .sl 1 l.length (l.map en_i64)
def ob_i64 (l : List Int) : Ob := .arr 3 1 (l.map en_i64)
theorem bare_en_i64 (x : Int) : (en_i64 x).all V.bare = true := rfl
theorem rdm_en_i64 (l : List Int) (i : Int) (h0 : 0 ≤ i) (h1 : i < (l.length : Int)) : (l.map en_i64)[i.toNat]? = some (en_i64 (rd l i)) := by
  have : i.toNat < l.length := by omega
  simp [rd, this]
def en_L_S_laws_PlantPlace (x : List S_laws_PlantPlace) : List V := [(sv_S_laws_PlantPlace x)]
def sv_L_S_laws_PlantPlace (l : List (List S_laws_PlantPlace)) : V := .sl 1 l.length (l.map en_L_S_laws_PlantPlace)
def ob_L_S_laws_PlantPlace (l : List (List S_laws_PlantPlace)) : Ob := .arr 72 1 (l.map en_L_S_laws_PlantPlace)
theorem rdm_en_L_S_laws_PlantPlace (l : List (List S_laws_PlantPlace)) (i : Int) (h0 : 0 ≤ i) (h1 : i < (l.length : Int)) : (l.map en_L_S_laws_PlantPlace)[i.toNat]? = some (en_L_S_laws_PlantPlace (rdOf ([] : List S_laws_PlantPlace) l i)) := by
  have : i.toNat < l.length := by omega
  simp [rdOf, this]
def en_L_S_laws_PlantValve (x : List S_laws_PlantValve) : List V := [(sv_S_laws_PlantValve x)]
def sv_L_S_laws_PlantValve (l : List (List S_laws_PlantValve)) : V := .sl 1 l.length (l.map en_L_S_laws_PlantValve)
def ob_L_S_laws_PlantValve (l : List (List S_laws_PlantValve)) : Ob := .arr 73 1 (l.map en_L_S_laws_PlantValve)
theorem rdm_en_L_S_laws_PlantValve (l : List (List S_laws_PlantValve)) (i : Int) (h0 : 0 ≤ i) (h1 : i < (l.length : Int)) : (l.map en_L_S_laws_PlantValve)[i.toNat]? = some (en_L_S_laws_PlantValve (rdOf ([] : List S_laws_PlantValve) l i)) := by
  have : i.toNat < l.length := by omega
  simp [rdOf, this]
def en_S_laws_Plant (x : S_laws_Plant) : List V := [(sv_str x.f0), (sv_S_laws_PlantFoe x.f1), (sv_S_laws_PlantPlace x.f2), (sv_S_laws_PlantValve x.f3)]
def sv_S_laws_Plant (l : List S_laws_Plant) : V := .sl 4 l.length (l.map en_S_laws_Plant)
def ob_S_laws_Plant (l : List S_laws_Plant) : Ob := .arr 75 4 (l.map en_S_laws_Plant)
theorem rdm_en_S_laws_Plant (l : List S_laws_Plant) (i : Int) (h0 : 0 ≤ i) (h1 : i < (l.length : Int)) : (l.map en_S_laws_Plant)[i.toNat]? = some (en_S_laws_Plant (rd_laws_Plant l i)) := by
  have : i.toNat < l.length := by omega
  simp [rd_laws_Plant, this]
def en_L_S_laws_ClaimUse (x : List S_laws_ClaimUse) : List V := [(sv_S_laws_ClaimUse x)]
def sv_L_S_laws_ClaimUse (l : List (List S_laws_ClaimUse)) : V := .sl 1 l.length (l.map en_L_S_laws_ClaimUse)
def ob_L_S_laws_ClaimUse (l : List (List S_laws_ClaimUse)) : Ob := .arr 89 1 (l.map en_L_S_laws_ClaimUse)
theorem rdm_en_L_S_laws_ClaimUse (l : List (List S_laws_ClaimUse)) (i : Int) (h0 : 0 ≤ i) (h1 : i < (l.length : Int)) : (l.map en_L_S_laws_ClaimUse)[i.toNat]? = some (en_L_S_laws_ClaimUse (rdOf ([] : List S_laws_ClaimUse) l i)) := by
  have : i.toNat < l.length := by omega
  simp [rdOf, this]
def en_S_laws_ClaimWant (x : S_laws_ClaimWant) : List V := [.int .i64 x.f0, .int .i64 x.f1, (sv_str x.f2), (sv_S_laws_ClaimUse x.f3), (sv_str x.f4), (sv_str x.f5)]
def sv_S_laws_ClaimWant (l : List S_laws_ClaimWant) : V := .sl 6 l.length (l.map en_S_laws_ClaimWant)
def ob_S_laws_ClaimWant (l : List S_laws_ClaimWant) : Ob := .arr 91 6 (l.map en_S_laws_ClaimWant)
theorem rdm_en_S_laws_ClaimWant (l : List S_laws_ClaimWant) (i : Int) (h0 : 0 ≤ i) (h1 : i < (l.length : Int)) : (l.map en_S_laws_ClaimWant)[i.toNat]? = some (en_S_laws_ClaimWant (rd_laws_ClaimWant l i)) := by
  have : i.toNat < l.length := by omega
  simp [rd_laws_ClaimWant, this]
def en_bool (x : Bool) : List V := [.bool x]
def sv_bool (l : List Bool) : V := .sl 1 l.length (l.map en_bool)
def ob_bool (l : List Bool) : Ob := .arr 4 1 (l.map en_bool)
theorem bare_en_bool (x : Bool) : (en_bool x).all V.bare = true := rfl
theorem rdm_en_bool (l : List Bool) (i : Int) (h0 : 0 ≤ i) (h1 : i < (l.length : Int)) : (l.map en_bool)[i.toNat]? = some (en_bool (rdOf false l i)) := by
  have : i.toNat < l.length := by omega
  simp [rdOf, this]
def en_S_laws_CtlWord (x : S_laws_CtlWord) : List V := [.int .i64 x.f0, .str x.f1, .int .i64 x.f2, .int .i64 x.f3.f0, .int .i64 x.f3.f1, (sv_str x.f3.f2), (sv_S_laws_ClaimUse x.f3.f3), (sv_str x.f3.f4), (sv_str x.f3.f5), .int .i64 x.f4, .bool x.f5]
def sv_S_laws_CtlWord (l : List S_laws_CtlWord) : V := .sl 11 l.length (l.map en_S_laws_CtlWord)
def ob_S_laws_CtlWord (l : List S_laws_CtlWord) : Ob := .arr 93 11 (l.map en_S_laws_CtlWord)
theorem rdm_en_S_laws_CtlWord (l : List S_laws_CtlWord) (i : Int) (h0 : 0 ≤ i) (h1 : i < (l.length : Int)) : (l.map en_S_laws_CtlWord)[i.toNat]? = some (en_S_laws_CtlWord (rd_laws_CtlWord l i)) := by
  have : i.toNat < l.length := by omega
  simp [rd_laws_CtlWord, this]
attribute [local irreducible] callE Lp Sq Cut RetOk Fits

theorem laws_szStringS.l0_lp {F : (Exit → St → Prop) → St → Prop} {hv : List Tmp} {Q : Exit → St → Prop} {σ : St} {r : Int} {k : Nat} {l0 : List ByteArray} {x1 : Int} {x5 : Int} (H : laws_szStringS.l0 k l0 x1 x5 = some r) (rn : List (Option Nat)) (h1 : Fits σ σ [] [(1, .int .i64 x1), (5, .int .i64 x5)] [] [] rn)
    (h2 : ∀ (k0 : Nat) (x1 : Int) (x5 : Int), k0 < k + 1 → laws_szStringS.l0 k0 l0 x1 x5 = some r → headN σ hv [] [(1, .int .i64 x1), (5, .int .i64 x5)] [] [] (F (fun e σ' => match e with | .normal => ∃ (y : Nat × Int × Int) (rn : List (Option Nat)), (laws_szStringS.l0 y.1 l0 y.2.1 y.2.2 = some r ∧ y.1 < k + 1) ∧ y.1 < k0 ∧ Fits σ σ' [] [(1, .int .i64 y.2.1), (5, .int .i64 y.2.2)] [] [] rn | e => Q e σ'))) : Lp F hv Q σ := by
  unfold Lp
  refine ⟨Nat × Int × Int, fun x => laws_szStringS.l0 x.1 l0 x.2.1 x.2.2 = some r ∧ x.1 < k + 1, fun x => x.1, [], fun x => [(1, .int .i64 x.2.1), (5, .int .i64 x.2.2)], fun x => [], fun x => [], ⟨(k, x1, x5), rn, ⟨H, Nat.lt_succ_self _⟩, h1⟩, ?_⟩
  rintro ⟨k, x1, x5⟩ ⟨H, hk⟩
  exact h2 k x1 x5 hk H
theorem laws_szStringS.ac {k : Nat} {l0 : List ByteArray} {a1 : Int} {r : Int} (H : laws_szStringS.f k l0 a1 = some r) : ACalls Try.prog G 91 [] [(sv_str l0), .int .i64 a1] [] (.int .i64 r) := by
  refine acalls_of tok hP Try.func91 rfl (by kernel_rfl) [.tmp 4] rfl (by kernel_rfl) (Nat.le_of_ble_eq_true rfl) (.l .n (.l .n (.l .n (.l (.l .n (.l (.c .n .n) (.l (.l .n (.c .n .n)) .n))) .n)))) rfl ?_
  unfold laws_szStringS.f at H
  conv => whnf
  refine br_d H (fun c H => ?_) (fun c H => ?_)
  conv => whnf
  injection H with H; subst H
  exact ret_fz [] (rtA_eq rfl)
  conv => whnf
  refine laws_szStringS.l0_lp (l0 := l0) (k := k) H [] (fits_of ⟨.inl ⟨rfl, rfl⟩, ⟨.inl ⟨rfl, rfl⟩, trivial⟩⟩ trivial fi_ trivial rfl) ?_
  intro k x1 x5 hk H; rcases k with _ | k; exact none_elim H; rw [laws_szStringS.l0] at H; conv => whnf
  refine cut_ 104 [(0, (sv_str l0)), (1, .int .i64 x1), (5, .int .i64 x5), (15, .bool (decide (x5 < (l0.length : Int))))] [] rfl ⟨.inl rfl, ⟨.inl rfl, ⟨.inl rfl, ⟨.inl rfl, trivial⟩⟩⟩⟩ trivial ?_
  conv => whnf
  refine br_d H (fun c H => ?_) (fun c H => ?_)
  conv => whnf
  refine nd_ H (fun c H => ?_)
  conv => whnf
  refine Nd.mk nf_ ?_
  conv => whnf
  refine El.mk (rdm_en_str _ _ nf_ nf_) ?_
  conv => whnf
  refine cut_ 184 [(0, (sv_str l0)), (1, .int .i64 (wrap64 (x1 - ((rdOf ByteArray.empty l0 x5).size : Int)))), (5, .int .i64 x5), (26, .bool (decide ((wrap64 (x1 - ((rdOf ByteArray.empty l0 x5).size : Int))) < 0)))] [] rfl ⟨.inl rfl, ⟨.inl rfl, ⟨.inl rfl, ⟨.inl rfl, trivial⟩⟩⟩⟩ trivial ?_
  conv => whnf
  refine br_d H (fun c H => ?_) (fun c H => ?_)
  conv => whnf
  injection H with H; subst H
  exact ret_fz [] (rtA_eq rfl)
  conv => whnf
  exact ⟨(k, wrap64 (x1 - ((rdOf ByteArray.empty l0 x5).size : Int)), wrap64 (x5 + 1)), [], ⟨H, lt_⟩, lt_, (fits_of ⟨.inl ⟨rfl, rfl⟩, ⟨.inl ⟨rfl, rfl⟩, trivial⟩⟩ trivial fi_ trivial rfl)⟩
  conv => whnf
  injection H with H; subst H
  exact ret_fz [] (rtA_eq rfl)
theorem laws_szPlantFoe.ac {a0_0 : ByteArray} {a0_1 : ByteArray} {a1 : Int} {r : Int} (H : laws_szPlantFoe.f a0_0 a0_1 a1 = some r) : ACalls Try.prog G 184 [] [.agg [.str a0_0, .str a0_1], .int .i64 a1] [] (.int .i64 r) := by
  refine acalls_of tok hP Try.func184 rfl (by kernel_rfl) [.tmp 4] rfl (by kernel_rfl) (Nat.le_of_ble_eq_true rfl) (.l .n (.l .n (.l (.c .n .n) (.l .n (.l .n (.c .n .n)))))) rfl ?_
  unfold laws_szPlantFoe.f at H
  conv => whnf
  refine cut_ 80 [(1, .int .i64 (wrap64 (a1 - (a0_0.size : Int)))), (2, .bp 0 0), (11, .bool (decide ((wrap64 (a1 - (a0_0.size : Int))) < 0)))] [(0, .box [.str a0_0, .str a0_1])] rfl ⟨.inl rfl, ⟨.inl rfl, ⟨.inl rfl, trivial⟩⟩⟩ ⟨rfl, trivial⟩ ?_
  conv => whnf
  refine br_d H (fun c H => ?_) (fun c H => ?_)
  conv => whnf
  injection H with H; subst H
  exact ret_fz [] (rtA_eq rfl)
  conv => whnf
  refine br_d H (fun c H => ?_) (fun c H => ?_)
  conv => whnf
  injection H with H; subst H
  exact ret_fz [] (rtA_eq rfl)
  conv => whnf
  refine cut_ 160 [(4, .int .i64 (wrap64 ((wrap64 (a1 - (a0_0.size : Int))) - (a0_1.size : Int))))] [] rfl ⟨.inl rfl, trivial⟩ trivial ?_
  conv => whnf
  injection H with H; subst H
  exact ret_fz [] (rtA_eq rfl)
theorem laws_szPlantFoeS.l0_lp {F : (Exit → St → Prop) → St → Prop} {hv : List Tmp} {Q : Exit → St → Prop} {σ : St} {r : Int} {k : Nat} {l0 : List S_laws_PlantFoe} {x1 : Int} {x5 : Int} (H : laws_szPlantFoeS.l0 k l0 x1 x5 = some r) (rn : List (Option Nat)) (h1 : Fits σ σ [] [(1, .int .i64 x1), (5, .int .i64 x5)] [] [] rn)
    (h2 : ∀ (k0 : Nat) (x1 : Int) (x5 : Int), k0 < k + 1 → laws_szPlantFoeS.l0 k0 l0 x1 x5 = some r → headN σ hv [] [(1, .int .i64 x1), (5, .int .i64 x5)] [] [] (F (fun e σ' => match e with | .normal => ∃ (y : Nat × Int × Int) (rn : List (Option Nat)), (laws_szPlantFoeS.l0 y.1 l0 y.2.1 y.2.2 = some r ∧ y.1 < k + 1) ∧ y.1 < k0 ∧ Fits σ σ' [] [(1, .int .i64 y.2.1), (5, .int .i64 y.2.2)] [] [] rn | e => Q e σ'))) : Lp F hv Q σ := by
  unfold Lp
  refine ⟨Nat × Int × Int, fun x => laws_szPlantFoeS.l0 x.1 l0 x.2.1 x.2.2 = some r ∧ x.1 < k + 1, fun x => x.1, [], fun x => [(1, .int .i64 x.2.1), (5, .int .i64 x.2.2)], fun x => [], fun x => [], ⟨(k, x1, x5), rn, ⟨H, Nat.lt_succ_self _⟩, h1⟩, ?_⟩
  rintro ⟨k, x1, x5⟩ ⟨H, hk⟩
  exact h2 k x1 x5 hk H
theorem laws_szPlantFoeS.ac {k : Nat} {l0 : List S_laws_PlantFoe} {a1 : Int} {r : Int} (H : laws_szPlantFoeS.f k l0 a1 = some r) : ACalls Try.prog G 116 [] [(sv_S_laws_PlantFoe l0), .int .i64 a1] [] (.int .i64 r) := by
  refine acalls_of tok hP Try.func116 rfl (by kernel_rfl) [.tmp 4] rfl (by kernel_rfl) (Nat.le_of_ble_eq_true rfl) (.l .n (.l .n (.l .n (.l (.l .n (.l (.c .n .n) (.l (.l .n (.l .n (.l (.c .n .n) .n))) .n))) .n)))) rfl ?_
  unfold laws_szPlantFoeS.f at H
  conv => whnf
  refine br_d H (fun c H => ?_) (fun c H => ?_)
  conv => whnf
  injection H with H; subst H
  exact ret_fz [] (rtA_eq rfl)
  conv => whnf
  refine laws_szPlantFoeS.l0_lp (l0 := l0) (k := k) H [] (fits_of ⟨.inl ⟨rfl, rfl⟩, ⟨.inl ⟨rfl, rfl⟩, trivial⟩⟩ trivial fi_ trivial rfl) ?_
  intro k x1 x5 hk H; rcases k with _ | k; exact none_elim H; rw [laws_szPlantFoeS.l0] at H; conv => whnf
  refine cut_ 104 [(0, (sv_S_laws_PlantFoe l0)), (1, .int .i64 x1), (5, .int .i64 x5), (15, .bool (decide (x5 < (l0.length : Int))))] [] rfl ⟨.inl rfl, ⟨.inl rfl, ⟨.inl rfl, ⟨.inl rfl, trivial⟩⟩⟩⟩ trivial ?_
  conv => whnf
  refine br_d H (fun c H => ?_) (fun c H => ?_)
  conv => whnf
  refine nd_ H (fun c H => ?_)
  conv => whnf
  refine Nd.mk nf_ ?_
  conv => whnf
  refine El.mk (rdm_en_S_laws_PlantFoe _ _ nf_ nf_) ?_
  conv => whnf
  revert H; refine bind_elim (fun t8 A H => ?_)
  refine call_mk (laws_szPlantFoe.ac A) (avAL_cons (avA_agg (avL_cons (av_shut' rfl) (avL_cons (av_shut' rfl) (avL_nil)))) (avAL_cons (avA_shut' rfl) (avAL_nil))) (Or.inl rfl) rfl rfl (Nat.le_of_ble_eq_true rfl) ?_
  conv => whnf
  refine br_d H (fun c H => ?_) (fun c H => ?_)
  conv => whnf
  refine cut_ 184 [(4, .int .i64 (-1))] [] rfl ⟨.inl rfl, trivial⟩ trivial ?_
  conv => whnf
  injection H with H; subst H
  exact ret_fz [] (rtA_eq rfl)
  conv => whnf
  exact ⟨(k, t8, wrap64 (x5 + 1)), [], ⟨H, lt_⟩, lt_, (fits_of ⟨.inl ⟨rfl, rfl⟩, ⟨.inl ⟨rfl, rfl⟩, trivial⟩⟩ trivial fi_ trivial rfl)⟩
  conv => whnf
  injection H with H; subst H
  exact ret_fz [] (rtA_eq rfl)
theorem laws_szPlantPlace.ac {a0_0 : ByteArray} {a0_1 : Int} {a0_2 : ByteArray} {a1 : Int} {r : Int} (H : laws_szPlantPlace.f a0_0 a0_1 a0_2 a1 = some r) : ACalls Try.prog G 185 [] [.agg [.str a0_0, .int .i64 a0_1, .str a0_2], .int .i64 a1] [] (.int .i64 r) := by
  refine acalls_of tok hP Try.func185 rfl (by kernel_rfl) [.tmp 4] rfl (by kernel_rfl) (Nat.le_of_ble_eq_true rfl) (.l .n (.l .n (.l (.c .n .n) (.l .n (.l .n (.c .n .n)))))) rfl ?_
  unfold laws_szPlantPlace.f at H
  conv => whnf
  refine cut_ 80 [(1, .int .i64 (wrap64 (a1 - (a0_0.size : Int)))), (2, .bp 0 0), (11, .bool (decide ((wrap64 (a1 - (a0_0.size : Int))) < 0)))] [(0, .box [.str a0_0, .int .i64 a0_1, .str a0_2])] rfl ⟨.inl rfl, ⟨.inl rfl, ⟨.inl rfl, trivial⟩⟩⟩ ⟨rfl, trivial⟩ ?_
  conv => whnf
  refine br_d H (fun c H => ?_) (fun c H => ?_)
  conv => whnf
  injection H with H; subst H
  exact ret_fz [] (rtA_eq rfl)
  conv => whnf
  refine br_d H (fun c H => ?_) (fun c H => ?_)
  conv => whnf
  injection H with H; subst H
  exact ret_fz [] (rtA_eq rfl)
  conv => whnf
  refine cut_ 160 [(4, .int .i64 (wrap64 ((wrap64 (a1 - (a0_0.size : Int))) - (a0_2.size : Int))))] [] rfl ⟨.inl rfl, trivial⟩ trivial ?_
  conv => whnf
  injection H with H; subst H
  exact ret_fz [] (rtA_eq rfl)
theorem laws_szPlantPlaceS.l0_lp {F : (Exit → St → Prop) → St → Prop} {hv : List Tmp} {Q : Exit → St → Prop} {σ : St} {r : Int} {k : Nat} {l0 : List S_laws_PlantPlace} {x1 : Int} {x5 : Int} (H : laws_szPlantPlaceS.l0 k l0 x1 x5 = some r) (rn : List (Option Nat)) (h1 : Fits σ σ [] [(1, .int .i64 x1), (5, .int .i64 x5)] [] [] rn)
    (h2 : ∀ (k0 : Nat) (x1 : Int) (x5 : Int), k0 < k + 1 → laws_szPlantPlaceS.l0 k0 l0 x1 x5 = some r → headN σ hv [] [(1, .int .i64 x1), (5, .int .i64 x5)] [] [] (F (fun e σ' => match e with | .normal => ∃ (y : Nat × Int × Int) (rn : List (Option Nat)), (laws_szPlantPlaceS.l0 y.1 l0 y.2.1 y.2.2 = some r ∧ y.1 < k + 1) ∧ y.1 < k0 ∧ Fits σ σ' [] [(1, .int .i64 y.2.1), (5, .int .i64 y.2.2)] [] [] rn | e => Q e σ'))) : Lp F hv Q σ := by
  unfold Lp
  refine ⟨Nat × Int × Int, fun x => laws_szPlantPlaceS.l0 x.1 l0 x.2.1 x.2.2 = some r ∧ x.1 < k + 1, fun x => x.1, [], fun x => [(1, .int .i64 x.2.1), (5, .int .i64 x.2.2)], fun x => [], fun x => [], ⟨(k, x1, x5), rn, ⟨H, Nat.lt_succ_self _⟩, h1⟩, ?_⟩
  rintro ⟨k, x1, x5⟩ ⟨H, hk⟩
  exact h2 k x1 x5 hk H
theorem laws_szPlantPlaceS.ac {k : Nat} {l0 : List S_laws_PlantPlace} {a1 : Int} {r : Int} (H : laws_szPlantPlaceS.f k l0 a1 = some r) : ACalls Try.prog G 117 [] [(sv_S_laws_PlantPlace l0), .int .i64 a1] [] (.int .i64 r) := by
  refine acalls_of tok hP Try.func117 rfl (by kernel_rfl) [.tmp 4] rfl (by kernel_rfl) (Nat.le_of_ble_eq_true rfl) (.l .n (.l .n (.l .n (.l (.l .n (.l (.c .n .n) (.l (.l .n (.l .n (.l (.c .n .n) .n))) .n))) .n)))) rfl ?_
  unfold laws_szPlantPlaceS.f at H
  conv => whnf
  refine br_d H (fun c H => ?_) (fun c H => ?_)
  conv => whnf
  injection H with H; subst H
  exact ret_fz [] (rtA_eq rfl)
  conv => whnf
  refine laws_szPlantPlaceS.l0_lp (l0 := l0) (k := k) H [] (fits_of ⟨.inl ⟨rfl, rfl⟩, ⟨.inl ⟨rfl, rfl⟩, trivial⟩⟩ trivial fi_ trivial rfl) ?_
  intro k x1 x5 hk H; rcases k with _ | k; exact none_elim H; rw [laws_szPlantPlaceS.l0] at H; conv => whnf
  refine cut_ 104 [(0, (sv_S_laws_PlantPlace l0)), (1, .int .i64 x1), (5, .int .i64 x5), (15, .bool (decide (x5 < (l0.length : Int))))] [] rfl ⟨.inl rfl, ⟨.inl rfl, ⟨.inl rfl, ⟨.inl rfl, trivial⟩⟩⟩⟩ trivial ?_
  conv => whnf
  refine br_d H (fun c H => ?_) (fun c H => ?_)
  conv => whnf
  refine nd_ H (fun c H => ?_)
  conv => whnf
  refine Nd.mk nf_ ?_
  conv => whnf
  refine El.mk (rdm_en_S_laws_PlantPlace _ _ nf_ nf_) ?_
  conv => whnf
  revert H; refine bind_elim (fun t20 A H => ?_)
  refine call_mk (laws_szPlantPlace.ac A) (avAL_cons (avA_agg (avL_cons (av_shut' rfl) (avL_cons (av_shut' rfl) (avL_cons (av_shut' rfl) (avL_nil))))) (avAL_cons (avA_shut' rfl) (avAL_nil))) (Or.inl rfl) rfl rfl (Nat.le_of_ble_eq_true rfl) ?_
  conv => whnf
  refine br_d H (fun c H => ?_) (fun c H => ?_)
  conv => whnf
  refine cut_ 184 [(4, .int .i64 (-1))] [] rfl ⟨.inl rfl, trivial⟩ trivial ?_
  conv => whnf
  injection H with H; subst H
  exact ret_fz [] (rtA_eq rfl)
  conv => whnf
  exact ⟨(k, t20, wrap64 (x5 + 1)), [], ⟨H, lt_⟩, lt_, (fits_of ⟨.inl ⟨rfl, rfl⟩, ⟨.inl ⟨rfl, rfl⟩, trivial⟩⟩ trivial fi_ trivial rfl)⟩
  conv => whnf
  injection H with H; subst H
  exact ret_fz [] (rtA_eq rfl)
theorem laws_szPlantValve.ac {a0_0 : ByteArray} {a0_1 : ByteArray} {a0_2 : ByteArray} {a0_3 : ByteArray} {a1 : Int} {r : Int} (H : laws_szPlantValve.f a0_0 a0_1 a0_2 a0_3 a1 = some r) : ACalls Try.prog G 186 [] [.agg [.str a0_0, .str a0_1, .str a0_2, .str a0_3], .int .i64 a1] [] (.int .i64 r) := by
  refine acalls_of tok hP Try.func186 rfl (by kernel_rfl) [.tmp 4] rfl (by kernel_rfl) (Nat.le_of_ble_eq_true rfl) (.l .n (.l .n (.l (.c .n .n) (.l .n (.l .n (.c .n (.l .n (.l .n (.l (.c .n .n) .n))))))))) rfl ?_
  unfold laws_szPlantValve.f at H
  conv => whnf
  refine cut_ 80 [(1, .int .i64 (wrap64 (a1 - (a0_0.size : Int)))), (2, .bp 0 0), (11, .bool (decide ((wrap64 (a1 - (a0_0.size : Int))) < 0)))] [(0, .box [.str a0_0, .str a0_1, .str a0_2, .str a0_3])] rfl ⟨.inl rfl, ⟨.inl rfl, ⟨.inl rfl, trivial⟩⟩⟩ ⟨rfl, trivial⟩ ?_
  conv => whnf
  refine br_d H (fun c H => ?_) (fun c H => ?_)
  conv => whnf
  injection H with H; subst H
  exact ret_fz [] (rtA_eq rfl)
  conv => whnf
  refine br_d H (fun c H => ?_) (fun c H => ?_)
  conv => whnf
  injection H with H; subst H
  exact ret_fz [] (rtA_eq rfl)
  conv => whnf
  refine cut_ 192 [(1, .int .i64 (wrap64 ((wrap64 ((wrap64 (a1 - (a0_0.size : Int))) - (a0_1.size : Int))) - (a0_2.size : Int)))), (2, .bp 0 0)] [(0, .box [.str a0_0, .str a0_1, .str a0_2, .str a0_3])] rfl ⟨.inl rfl, ⟨.inl rfl, trivial⟩⟩ ⟨rfl, trivial⟩ ?_
  conv => whnf
  refine br_d H (fun c H => ?_) (fun c H => ?_)
  conv => whnf
  injection H with H; subst H
  exact ret_fz [] (rtA_eq rfl)
  conv => whnf
  refine cut_ 272 [(1, .int .i64 (wrap64 ((wrap64 ((wrap64 ((wrap64 (a1 - (a0_0.size : Int))) - (a0_1.size : Int))) - (a0_2.size : Int))) - (a0_3.size : Int)))), (32, .bool (decide ((wrap64 ((wrap64 ((wrap64 ((wrap64 (a1 - (a0_0.size : Int))) - (a0_1.size : Int))) - (a0_2.size : Int))) - (a0_3.size : Int))) < 0)))] [] rfl ⟨.inl rfl, ⟨.inl rfl, trivial⟩⟩ trivial ?_
  conv => whnf
  refine br_d H (fun c H => ?_) (fun c H => ?_)
  conv => whnf
  injection H with H; subst H
  exact ret_fz [] (rtA_eq rfl)
  conv => whnf
  injection H with H; subst H
  exact ret_fz [] (rtA_eq rfl)
theorem laws_szPlantValveS.l0_lp {F : (Exit → St → Prop) → St → Prop} {hv : List Tmp} {Q : Exit → St → Prop} {σ : St} {r : Int} {k : Nat} {l0 : List S_laws_PlantValve} {x1 : Int} {x5 : Int} (H : laws_szPlantValveS.l0 k l0 x1 x5 = some r) (rn : List (Option Nat)) (h1 : Fits σ σ [] [(1, .int .i64 x1), (5, .int .i64 x5)] [] [] rn)
    (h2 : ∀ (k0 : Nat) (x1 : Int) (x5 : Int), k0 < k + 1 → laws_szPlantValveS.l0 k0 l0 x1 x5 = some r → headN σ hv [] [(1, .int .i64 x1), (5, .int .i64 x5)] [] [] (F (fun e σ' => match e with | .normal => ∃ (y : Nat × Int × Int) (rn : List (Option Nat)), (laws_szPlantValveS.l0 y.1 l0 y.2.1 y.2.2 = some r ∧ y.1 < k + 1) ∧ y.1 < k0 ∧ Fits σ σ' [] [(1, .int .i64 y.2.1), (5, .int .i64 y.2.2)] [] [] rn | e => Q e σ'))) : Lp F hv Q σ := by
  unfold Lp
  refine ⟨Nat × Int × Int, fun x => laws_szPlantValveS.l0 x.1 l0 x.2.1 x.2.2 = some r ∧ x.1 < k + 1, fun x => x.1, [], fun x => [(1, .int .i64 x.2.1), (5, .int .i64 x.2.2)], fun x => [], fun x => [], ⟨(k, x1, x5), rn, ⟨H, Nat.lt_succ_self _⟩, h1⟩, ?_⟩
  rintro ⟨k, x1, x5⟩ ⟨H, hk⟩
  exact h2 k x1 x5 hk H
theorem laws_szPlantValveS.ac {k : Nat} {l0 : List S_laws_PlantValve} {a1 : Int} {r : Int} (H : laws_szPlantValveS.f k l0 a1 = some r) : ACalls Try.prog G 118 [] [(sv_S_laws_PlantValve l0), .int .i64 a1] [] (.int .i64 r) := by
  refine acalls_of tok hP Try.func118 rfl (by kernel_rfl) [.tmp 4] rfl (by kernel_rfl) (Nat.le_of_ble_eq_true rfl) (.l .n (.l .n (.l .n (.l (.l .n (.l (.c .n .n) (.l (.l .n (.l .n (.l (.c .n .n) .n))) .n))) .n)))) rfl ?_
  unfold laws_szPlantValveS.f at H
  conv => whnf
  refine br_d H (fun c H => ?_) (fun c H => ?_)
  conv => whnf
  injection H with H; subst H
  exact ret_fz [] (rtA_eq rfl)
  conv => whnf
  refine laws_szPlantValveS.l0_lp (l0 := l0) (k := k) H [] (fits_of ⟨.inl ⟨rfl, rfl⟩, ⟨.inl ⟨rfl, rfl⟩, trivial⟩⟩ trivial fi_ trivial rfl) ?_
  intro k x1 x5 hk H; rcases k with _ | k; exact none_elim H; rw [laws_szPlantValveS.l0] at H; conv => whnf
  refine cut_ 104 [(0, (sv_S_laws_PlantValve l0)), (1, .int .i64 x1), (5, .int .i64 x5), (15, .bool (decide (x5 < (l0.length : Int))))] [] rfl ⟨.inl rfl, ⟨.inl rfl, ⟨.inl rfl, ⟨.inl rfl, trivial⟩⟩⟩⟩ trivial ?_
  conv => whnf
  refine br_d H (fun c H => ?_) (fun c H => ?_)
  conv => whnf
  refine nd_ H (fun c H => ?_)
  conv => whnf
  refine Nd.mk nf_ ?_
  conv => whnf
  refine El.mk (rdm_en_S_laws_PlantValve _ _ nf_ nf_) ?_
  conv => whnf
  revert H; refine bind_elim (fun t36 A H => ?_)
  refine call_mk (laws_szPlantValve.ac A) (avAL_cons (avA_agg (avL_cons (av_shut' rfl) (avL_cons (av_shut' rfl) (avL_cons (av_shut' rfl) (avL_cons (av_shut' rfl) (avL_nil)))))) (avAL_cons (avA_shut' rfl) (avAL_nil))) (Or.inl rfl) rfl rfl (Nat.le_of_ble_eq_true rfl) ?_
  conv => whnf
  refine br_d H (fun c H => ?_) (fun c H => ?_)
  conv => whnf
  refine cut_ 184 [(4, .int .i64 (-1))] [] rfl ⟨.inl rfl, trivial⟩ trivial ?_
  conv => whnf
  injection H with H; subst H
  exact ret_fz [] (rtA_eq rfl)
  conv => whnf
  exact ⟨(k, t36, wrap64 (x5 + 1)), [], ⟨H, lt_⟩, lt_, (fits_of ⟨.inl ⟨rfl, rfl⟩, ⟨.inl ⟨rfl, rfl⟩, trivial⟩⟩ trivial fi_ trivial rfl)⟩
  conv => whnf
  injection H with H; subst H
  exact ret_fz [] (rtA_eq rfl)
theorem laws_szPlant.ac {k : Nat} {a0_0 : List ByteArray} {a0_1 : List S_laws_PlantFoe} {a0_2 : List S_laws_PlantPlace} {a0_3 : List S_laws_PlantValve} {a1 : Int} {r : Int} (H : laws_szPlant.f k a0_0 a0_1 a0_2 a0_3 a1 = some r) : ACalls Try.prog G 41 [] [.agg [(sv_str a0_0), (sv_S_laws_PlantFoe a0_1), (sv_S_laws_PlantPlace a0_2), (sv_S_laws_PlantValve a0_3)], .int .i64 a1] [] (.int .i64 r) := by
  refine acalls_of tok hP Try.func41 rfl (by kernel_rfl) [.tmp 4] rfl (by kernel_rfl) (Nat.le_of_ble_eq_true rfl) (.l .n (.l .n (.l (.l .n (.l (.c .n .n) .n)) (.c .n (.l .n (.l .n (.l (.l .n (.l (.c .n .n) .n)) (.c .n .n)))))))) rfl ?_
  unfold laws_szPlant.f at H
  conv => whnf
  revert H; refine bind_elim (fun t38 A H => ?_)
  refine call_mk (laws_szStringS.ac A) (avAL_cons (avA_shut' rfl) (avAL_cons (avA_shut' rfl) (avAL_nil))) (Or.inl rfl) rfl rfl (Nat.le_of_ble_eq_true rfl) ?_
  conv => whnf
  refine br_d H (fun c H => ?_) (fun c H => ?_)
  conv => whnf
  refine cut_ 80 [(4, .int .i64 (-1))] [] rfl ⟨.inl rfl, trivial⟩ trivial ?_
  conv => whnf
  injection H with H; subst H
  exact ret_fz [] (rtA_eq rfl)
  conv => whnf
  revert H; refine bind_elim (fun t40 A H => ?_)
  refine call_mk (laws_szPlantFoeS.ac A) (avAL_cons (avA_shut' rfl) (avAL_cons (avA_shut' rfl) (avAL_nil))) (Or.inl rfl) rfl rfl (Nat.le_of_ble_eq_true rfl) ?_
  conv => whnf
  refine cut_ 112 [(1, .int .i64 t40), (2, .bp 0 0)] [(0, .box [(sv_str a0_0), (sv_S_laws_PlantFoe a0_1), (sv_S_laws_PlantPlace a0_2), (sv_S_laws_PlantValve a0_3)])] rfl ⟨.inl rfl, ⟨.inl rfl, trivial⟩⟩ ⟨rfl, trivial⟩ ?_
  conv => whnf
  refine br_d H (fun c H => ?_) (fun c H => ?_)
  conv => whnf
  injection H with H; subst H
  exact ret_fz [] (rtA_eq rfl)
  conv => whnf
  revert H; refine bind_elim (fun t42 A H => ?_)
  refine call_mk (laws_szPlantPlaceS.ac A) (avAL_cons (avA_shut' rfl) (avAL_cons (avA_shut' rfl) (avAL_nil))) (Or.inl rfl) rfl rfl (Nat.le_of_ble_eq_true rfl) ?_
  conv => whnf
  refine br_d H (fun c H => ?_) (fun c H => ?_)
  conv => whnf
  refine cut_ 192 [(4, .int .i64 (-1))] [] rfl ⟨.inl rfl, trivial⟩ trivial ?_
  conv => whnf
  injection H with H; subst H
  exact ret_fz [] (rtA_eq rfl)
  conv => whnf
  revert H; refine bind_elim (fun t44 A H => ?_)
  refine call_mk (laws_szPlantValveS.ac A) (avAL_cons (avA_shut' rfl) (avAL_cons (avA_shut' rfl) (avAL_nil))) (Or.inl rfl) rfl rfl (Nat.le_of_ble_eq_true rfl) ?_
  conv => whnf
  refine cut_ 224 [(1, .int .i64 t44)] [] rfl ⟨.inl rfl, trivial⟩ trivial ?_
  conv => whnf
  refine br_d H (fun c H => ?_) (fun c H => ?_)
  conv => whnf
  injection H with H; subst H
  exact ret_fz [] (rtA_eq rfl)
  conv => whnf
  injection H with H; subst H
  exact ret_fz [] (rtA_eq rfl)
theorem laws_szClaimUse.ac {a0_0 : ByteArray} {a0_1 : Int} {a0_2 : Int} {a1 : Int} {r : Int} (H : laws_szClaimUse.f a0_0 a0_1 a0_2 a1 = some r) : ACalls Try.prog G 216 [] [.agg [.str a0_0, .int .i64 a0_1, .int .i64 a0_2], .int .i64 a1] [] (.int .i64 r) := by
  refine acalls_of tok hP Try.func216 rfl (by kernel_rfl) [.tmp 4] rfl (by kernel_rfl) (Nat.le_of_ble_eq_true rfl) (.l .n (.l .n (.l (.c .n .n) .n))) rfl ?_
  unfold laws_szClaimUse.f at H
  conv => whnf
  refine cut_ 80 [(1, .int .i64 (wrap64 (a1 - (a0_0.size : Int)))), (11, .bool (decide ((wrap64 (a1 - (a0_0.size : Int))) < 0)))] [] rfl ⟨.inl rfl, ⟨.inl rfl, trivial⟩⟩ trivial ?_
  conv => whnf
  refine br_d H (fun c H => ?_) (fun c H => ?_)
  conv => whnf
  injection H with H; subst H
  exact ret_fz [] (rtA_eq rfl)
  conv => whnf
  injection H with H; subst H
  exact ret_fz [] (rtA_eq rfl)
theorem laws_szClaimUseS.l0_lp {F : (Exit → St → Prop) → St → Prop} {hv : List Tmp} {Q : Exit → St → Prop} {σ : St} {r : Int} {k : Nat} {l0 : List S_laws_ClaimUse} {x1 : Int} {x5 : Int} (H : laws_szClaimUseS.l0 k l0 x1 x5 = some r) (rn : List (Option Nat)) (h1 : Fits σ σ [] [(1, .int .i64 x1), (5, .int .i64 x5)] [] [] rn)
    (h2 : ∀ (k0 : Nat) (x1 : Int) (x5 : Int), k0 < k + 1 → laws_szClaimUseS.l0 k0 l0 x1 x5 = some r → headN σ hv [] [(1, .int .i64 x1), (5, .int .i64 x5)] [] [] (F (fun e σ' => match e with | .normal => ∃ (y : Nat × Int × Int) (rn : List (Option Nat)), (laws_szClaimUseS.l0 y.1 l0 y.2.1 y.2.2 = some r ∧ y.1 < k + 1) ∧ y.1 < k0 ∧ Fits σ σ' [] [(1, .int .i64 y.2.1), (5, .int .i64 y.2.2)] [] [] rn | e => Q e σ'))) : Lp F hv Q σ := by
  unfold Lp
  refine ⟨Nat × Int × Int, fun x => laws_szClaimUseS.l0 x.1 l0 x.2.1 x.2.2 = some r ∧ x.1 < k + 1, fun x => x.1, [], fun x => [(1, .int .i64 x.2.1), (5, .int .i64 x.2.2)], fun x => [], fun x => [], ⟨(k, x1, x5), rn, ⟨H, Nat.lt_succ_self _⟩, h1⟩, ?_⟩
  rintro ⟨k, x1, x5⟩ ⟨H, hk⟩
  exact h2 k x1 x5 hk H
theorem laws_szClaimUseS.ac {k : Nat} {l0 : List S_laws_ClaimUse} {a1 : Int} {r : Int} (H : laws_szClaimUseS.f k l0 a1 = some r) : ACalls Try.prog G 199 [] [(sv_S_laws_ClaimUse l0), .int .i64 a1] [] (.int .i64 r) := by
  refine acalls_of tok hP Try.func199 rfl (by kernel_rfl) [.tmp 4] rfl (by kernel_rfl) (Nat.le_of_ble_eq_true rfl) (.l .n (.l .n (.l .n (.l (.l .n (.l (.c .n .n) (.l (.l .n (.l .n (.l (.c .n .n) .n))) .n))) .n)))) rfl ?_
  unfold laws_szClaimUseS.f at H
  conv => whnf
  refine br_d H (fun c H => ?_) (fun c H => ?_)
  conv => whnf
  injection H with H; subst H
  exact ret_fz [] (rtA_eq rfl)
  conv => whnf
  refine laws_szClaimUseS.l0_lp (l0 := l0) (k := k) H [] (fits_of ⟨.inl ⟨rfl, rfl⟩, ⟨.inl ⟨rfl, rfl⟩, trivial⟩⟩ trivial fi_ trivial rfl) ?_
  intro k x1 x5 hk H; rcases k with _ | k; exact none_elim H; rw [laws_szClaimUseS.l0] at H; conv => whnf
  refine cut_ 104 [(0, (sv_S_laws_ClaimUse l0)), (1, .int .i64 x1), (5, .int .i64 x5), (15, .bool (decide (x5 < (l0.length : Int))))] [] rfl ⟨.inl rfl, ⟨.inl rfl, ⟨.inl rfl, ⟨.inl rfl, trivial⟩⟩⟩⟩ trivial ?_
  conv => whnf
  refine br_d H (fun c H => ?_) (fun c H => ?_)
  conv => whnf
  refine nd_ H (fun c H => ?_)
  conv => whnf
  refine Nd.mk nf_ ?_
  conv => whnf
  refine El.mk (rdm_en_S_laws_ClaimUse _ _ nf_ nf_) ?_
  conv => whnf
  revert H; refine bind_elim (fun t60 A H => ?_)
  refine call_mk (laws_szClaimUse.ac A) (avAL_cons (avA_agg (avL_cons (av_shut' rfl) (avL_cons (av_shut' rfl) (avL_cons (av_shut' rfl) (avL_nil))))) (avAL_cons (avA_shut' rfl) (avAL_nil))) (Or.inl rfl) rfl rfl (Nat.le_of_ble_eq_true rfl) ?_
  conv => whnf
  refine br_d H (fun c H => ?_) (fun c H => ?_)
  conv => whnf
  refine cut_ 184 [(4, .int .i64 (-1))] [] rfl ⟨.inl rfl, trivial⟩ trivial ?_
  conv => whnf
  injection H with H; subst H
  exact ret_fz [] (rtA_eq rfl)
  conv => whnf
  exact ⟨(k, t60, wrap64 (x5 + 1)), [], ⟨H, lt_⟩, lt_, (fits_of ⟨.inl ⟨rfl, rfl⟩, ⟨.inl ⟨rfl, rfl⟩, trivial⟩⟩ trivial fi_ trivial rfl)⟩
  conv => whnf
  injection H with H; subst H
  exact ret_fz [] (rtA_eq rfl)
theorem laws_szClaimWant.ac {k : Nat} {a0_0 : Int} {a0_1 : Int} {a0_2 : List ByteArray} {a0_3 : List S_laws_ClaimUse} {a0_4 : List ByteArray} {a0_5 : List ByteArray} {a1 : Int} {r : Int} (H : laws_szClaimWant.f k a0_0 a0_1 a0_2 a0_3 a0_4 a0_5 a1 = some r) : ACalls Try.prog G 136 [] [.agg [.int .i64 a0_0, .int .i64 a0_1, (sv_str a0_2), (sv_S_laws_ClaimUse a0_3), (sv_str a0_4), (sv_str a0_5)], .int .i64 a1] [] (.int .i64 r) := by
  refine acalls_of tok hP Try.func136 rfl (by kernel_rfl) [.tmp 4] rfl (by kernel_rfl) (Nat.le_of_ble_eq_true rfl) (.l .n (.l .n (.l (.l .n (.l (.c .n .n) .n)) (.c .n (.l .n (.l .n (.l (.l .n (.l (.c .n .n) .n)) (.c .n .n)))))))) rfl ?_
  unfold laws_szClaimWant.f at H
  conv => whnf
  revert H; refine bind_elim (fun t62 A H => ?_)
  refine call_mk (laws_szStringS.ac A) (avAL_cons (avA_shut' rfl) (avAL_cons (avA_shut' rfl) (avAL_nil))) (Or.inl rfl) rfl rfl (Nat.le_of_ble_eq_true rfl) ?_
  conv => whnf
  refine br_d H (fun c H => ?_) (fun c H => ?_)
  conv => whnf
  refine cut_ 80 [(4, .int .i64 (-1))] [] rfl ⟨.inl rfl, trivial⟩ trivial ?_
  conv => whnf
  injection H with H; subst H
  exact ret_fz [] (rtA_eq rfl)
  conv => whnf
  revert H; refine bind_elim (fun t64 A H => ?_)
  refine call_mk (laws_szClaimUseS.ac A) (avAL_cons (avA_shut' rfl) (avAL_cons (avA_shut' rfl) (avAL_nil))) (Or.inl rfl) rfl rfl (Nat.le_of_ble_eq_true rfl) ?_
  conv => whnf
  refine cut_ 112 [(1, .int .i64 t64), (2, .bp 0 0)] [(0, .box [.int .i64 a0_0, .int .i64 a0_1, (sv_str a0_2), (sv_S_laws_ClaimUse a0_3), (sv_str a0_4), (sv_str a0_5)])] rfl ⟨.inl rfl, ⟨.inl rfl, trivial⟩⟩ ⟨rfl, trivial⟩ ?_
  conv => whnf
  refine br_d H (fun c H => ?_) (fun c H => ?_)
  conv => whnf
  injection H with H; subst H
  exact ret_fz [] (rtA_eq rfl)
  conv => whnf
  revert H; refine bind_elim (fun t66 A H => ?_)
  refine call_mk (laws_szStringS.ac A) (avAL_cons (avA_shut' rfl) (avAL_cons (avA_shut' rfl) (avAL_nil))) (Or.inl rfl) rfl rfl (Nat.le_of_ble_eq_true rfl) ?_
  conv => whnf
  refine br_d H (fun c H => ?_) (fun c H => ?_)
  conv => whnf
  refine cut_ 192 [(4, .int .i64 (-1))] [] rfl ⟨.inl rfl, trivial⟩ trivial ?_
  conv => whnf
  injection H with H; subst H
  exact ret_fz [] (rtA_eq rfl)
  conv => whnf
  revert H; refine bind_elim (fun t68 A H => ?_)
  refine call_mk (laws_szStringS.ac A) (avAL_cons (avA_shut' rfl) (avAL_cons (avA_shut' rfl) (avAL_nil))) (Or.inl rfl) rfl rfl (Nat.le_of_ble_eq_true rfl) ?_
  conv => whnf
  refine cut_ 224 [(1, .int .i64 t68)] [] rfl ⟨.inl rfl, trivial⟩ trivial ?_
  conv => whnf
  refine br_d H (fun c H => ?_) (fun c H => ?_)
  conv => whnf
  injection H with H; subst H
  exact ret_fz [] (rtA_eq rfl)
  conv => whnf
  injection H with H; subst H
  exact ret_fz [] (rtA_eq rfl)
theorem laws_szCtlWord.ac {k : Nat} {a0_0 : Int} {a0_1 : ByteArray} {a0_2 : Int} {a0_3 : Int} {a0_4 : Int} {a0_5 : List ByteArray} {a0_6 : List S_laws_ClaimUse} {a0_7 : List ByteArray} {a0_8 : List ByteArray} {a0_9 : Int} {a0_10 : Bool} {a1 : Int} {r : Int} (H : laws_szCtlWord.f k a0_0 a0_1 a0_2 a0_3 a0_4 a0_5 a0_6 a0_7 a0_8 a0_9 a0_10 a1 = some r) : ACalls Try.prog G 50 [] [.agg [.int .i64 a0_0, .str a0_1, .int .i64 a0_2, .int .i64 a0_3, .int .i64 a0_4, (sv_str a0_5), (sv_S_laws_ClaimUse a0_6), (sv_str a0_7), (sv_str a0_8), .int .i64 a0_9, .bool a0_10], .int .i64 a1] [] (.int .i64 r) := by
  refine acalls_of tok hP Try.func50 rfl (by kernel_rfl) [.tmp 4] rfl (by kernel_rfl) (Nat.le_of_ble_eq_true rfl) (.l .n (.l .n (.l (.c .n .n) .n))) rfl ?_
  unfold laws_szCtlWord.f at H
  conv => whnf
  refine cut_ 80 [(1, .int .i64 (wrap64 (a1 - (a0_1.size : Int)))), (2, .bp 0 0), (11, .bool (decide ((wrap64 (a1 - (a0_1.size : Int))) < 0)))] [(0, .box [.int .i64 a0_0, .str a0_1, .int .i64 a0_2, .int .i64 a0_3, .int .i64 a0_4, (sv_str a0_5), (sv_S_laws_ClaimUse a0_6), (sv_str a0_7), (sv_str a0_8), .int .i64 a0_9, .bool a0_10])] rfl ⟨.inl rfl, ⟨.inl rfl, ⟨.inl rfl, trivial⟩⟩⟩ ⟨rfl, trivial⟩ ?_
  conv => whnf
  refine br_d H (fun c H => ?_) (fun c H => ?_)
  conv => whnf
  injection H with H; subst H
  exact ret_fz [] (rtA_eq rfl)
  conv => whnf
  revert H; refine bind_elim (fun t70 A H => ?_)
  refine call_mk (laws_szClaimWant.ac A) (avAL_cons (avA_agg (avL_cons (av_shut' rfl) (avL_cons (av_shut' rfl) (avL_cons (av_shut' rfl) (avL_cons (av_shut' rfl) (avL_cons (av_shut' rfl) (avL_cons (av_shut' rfl) (avL_nil)))))))) (avAL_cons (avA_shut' rfl) (avAL_nil))) (Or.inl rfl) rfl rfl (Nat.le_of_ble_eq_true rfl) ?_
  conv => whnf
  refine br_d H (fun c H => ?_) (fun c H => ?_)
  conv => whnf
  injection H with H; subst H
  exact ret_fz [] (rtA_eq rfl)
  conv => whnf
  injection H with H; subst H
  exact ret_fz [] (rtA_eq rfl)
theorem laws_toStringS.l0_lp {F : (Exit → St → Prop) → St → Prop} {hv : List Tmp} {Q : Exit → St → Prop} {σ : St} {r : List ByteArray} {k : Nat} {l0 : List ByteArray} {x3 : List ByteArray} {x4 : Int} (H : laws_toStringS.l0 k l0 x3 x4 = some r) (rn : List (Option Nat)) (h1 : Fits σ σ [24] [(3, .own 0 x3.length), (4, .int .i64 x4)] [] [.arr 9 1 (x3.map en_str)] rn)
    (h2 : ∀ (k0 : Nat) (x3 : List ByteArray) (x4 : Int), k0 < k + 1 → laws_toStringS.l0 k0 l0 x3 x4 = some r → headN σ hv [24] [(3, .own 0 x3.length), (4, .int .i64 x4)] [] [.arr 9 1 (x3.map en_str)] (F (fun e σ' => match e with | .normal => ∃ (y : Nat × (List ByteArray) × Int) (rn : List (Option Nat)), (laws_toStringS.l0 y.1 l0 y.2.1 y.2.2 = some r ∧ y.1 < k + 1) ∧ y.1 < k0 ∧ Fits σ σ' [24] [(3, .own 0 y.2.1.length), (4, .int .i64 y.2.2)] [] [.arr 9 1 (y.2.1.map en_str)] rn | e => Q e σ'))) : Lp F hv Q σ := by
  unfold Lp
  refine ⟨Nat × (List ByteArray) × Int, fun x => laws_toStringS.l0 x.1 l0 x.2.1 x.2.2 = some r ∧ x.1 < k + 1, fun x => x.1, [24], fun x => [(3, .own 0 x.2.1.length), (4, .int .i64 x.2.2)], fun x => [], fun x => [.arr 9 1 (x.2.1.map en_str)], ⟨(k, x3, x4), rn, ⟨H, Nat.lt_succ_self _⟩, h1⟩, ?_⟩
  rintro ⟨k, x3, x4⟩ ⟨H, hk⟩
  exact h2 k x3 x4 hk H
theorem laws_toStringS.ac {k : Nat} {l0 : List ByteArray} {r : List ByteArray} (H : laws_toStringS.f k l0 = some r) : ACalls Try.prog G 100 [] [(sv_str l0)] [] ((sv_str r)) := by
  refine acalls_of tok hP Try.func100 rfl (by kernel_rfl) [.tmp 2] rfl (by kernel_rfl) (Nat.le_of_ble_eq_true rfl) (.l .n (.l .n (.l (.l .n (.l (.c .n .n) .n)) .n))) rfl ?_
  unfold laws_toStringS.f at H
  conv => whnf
  refine Nd.mk (Int.natCast_nonneg _) ?_
  conv => whnf
  refine Nd.mk (Int.le_refl _) ?_
  conv => whnf
  refine nd_ H (fun c H => ?_)
  conv => whnf
  refine laws_toStringS.l0_lp (l0 := l0) (k := k) H [some 24] (fits_of ⟨mt_own lm_, ⟨.inl ⟨rfl, rfl⟩, trivial⟩⟩ ⟨fm_, trivial⟩ fi_ trivial rfl) ?_
  intro k x3 x4 hk H; rcases k with _ | k; exact none_elim H; rw [laws_toStringS.l0] at H; conv => whnf
  refine cut_ 81 [(0, (sv_str l0)), (3, .own 48 x3.length), (4, .int .i64 x4), (11, .bool (decide (x4 < (l0.length : Int))))] [(48, .arr 9 1 (x3.map en_str))] rfl ⟨.inl rfl, ⟨.inl rfl, ⟨.inl rfl, ⟨.inl rfl, trivial⟩⟩⟩⟩ ⟨rfl, trivial⟩ ?_
  conv => whnf
  refine br_d H (fun c H => ?_) (fun c H => ?_)
  conv => whnf
  refine nd_ H (fun c H => ?_)
  conv => whnf
  refine Nd.mk nf_ ?_
  conv => whnf
  refine El.mk (rdm_en_str _ _ nf_ nf_) ?_
  conv => whnf
  refine Nd.mk nf_ ?_
  conv => whnf
  refine nd_ H (fun c H => ?_)
  conv => whnf
  refine El.mk (rdm_en_str _ _ nf_ nf_) ?_
  conv => whnf
  exact ⟨(k, (x3.set (x4).toNat (rdOf ByteArray.empty l0 x4)), wrap64 (x4 + 1)), [some 48], ⟨H, lt_⟩, lt_, (fits_of ⟨mt_own lm_, ⟨.inl ⟨rfl, rfl⟩, trivial⟩⟩ ⟨fm_, trivial⟩ fi_ trivial rfl)⟩
  conv => whnf
  injection H with H; subst H
  exact ret_fz [48] (rtA_fz' rfl rfl)
theorem laws_toPlantFoe.ac {a0_0 : ByteArray} {a0_1 : ByteArray} {r : ByteArray × ByteArray} (H : laws_toPlantFoe.f a0_0 a0_1 = some r) : ACalls Try.prog G 190 [] [.agg [.str a0_0, .str a0_1]] [] (.agg [.str r.1, .str r.2]) := by
  refine acalls_of tok hP Try.func190 rfl (by kernel_rfl) [.cell 2 170] rfl (by kernel_rfl) (Nat.le_of_ble_eq_true rfl) (.l .n (.l .n (.l .n (.l .n (.c .n .n))))) rfl ?_
  unfold laws_toPlantFoe.f at H
  conv => whnf
  refine cut_ 104 [(2, .bp 8 0)] [(8, .box [.str a0_0, .str a0_1])] rfl ⟨.inl rfl, trivial⟩ ⟨rfl, trivial⟩ ?_
  conv => whnf
  injection H with H; subst H
  exact ret_fz [] (rtA_agg (rtL_cons (rt_eq rfl) (rtL_cons (rt_eq rfl) (rtL_nil))))
theorem laws_toPlantFoeS.l0_lp {F : (Exit → St → Prop) → St → Prop} {hv : List Tmp} {Q : Exit → St → Prop} {σ : St} {r : List S_impl_PlantFoe} {k : Nat} {l0 : List S_laws_PlantFoe} {x3 : List S_impl_PlantFoe} {x4 : Int} (H : laws_toPlantFoeS.l0 k l0 x3 x4 = some r) (rn : List (Option Nat)) (h1 : Fits σ σ [24] [(3, .own 0 x3.length), (4, .int .i64 x4)] [] [.arr 170 2 (x3.map en_S_impl_PlantFoe)] rn)
    (h2 : ∀ (k0 : Nat) (x3 : List S_impl_PlantFoe) (x4 : Int), k0 < k + 1 → laws_toPlantFoeS.l0 k0 l0 x3 x4 = some r → headN σ hv [24] [(3, .own 0 x3.length), (4, .int .i64 x4)] [] [.arr 170 2 (x3.map en_S_impl_PlantFoe)] (F (fun e σ' => match e with | .normal => ∃ (y : Nat × (List S_impl_PlantFoe) × Int) (rn : List (Option Nat)), (laws_toPlantFoeS.l0 y.1 l0 y.2.1 y.2.2 = some r ∧ y.1 < k + 1) ∧ y.1 < k0 ∧ Fits σ σ' [24] [(3, .own 0 y.2.1.length), (4, .int .i64 y.2.2)] [] [.arr 170 2 (y.2.1.map en_S_impl_PlantFoe)] rn | e => Q e σ'))) : Lp F hv Q σ := by
  unfold Lp
  refine ⟨Nat × (List S_impl_PlantFoe) × Int, fun x => laws_toPlantFoeS.l0 x.1 l0 x.2.1 x.2.2 = some r ∧ x.1 < k + 1, fun x => x.1, [24], fun x => [(3, .own 0 x.2.1.length), (4, .int .i64 x.2.2)], fun x => [], fun x => [.arr 170 2 (x.2.1.map en_S_impl_PlantFoe)], ⟨(k, x3, x4), rn, ⟨H, Nat.lt_succ_self _⟩, h1⟩, ?_⟩
  rintro ⟨k, x3, x4⟩ ⟨H, hk⟩
  exact h2 k x3 x4 hk H
theorem laws_toPlantFoeS.ac {k : Nat} {l0 : List S_laws_PlantFoe} {r : List S_impl_PlantFoe} (H : laws_toPlantFoeS.f k l0 = some r) : ACalls Try.prog G 120 [] [(sv_S_laws_PlantFoe l0)] [] ((sv_S_impl_PlantFoe r)) := by
  refine acalls_of tok hP Try.func120 rfl (by kernel_rfl) [.tmp 2] rfl (by kernel_rfl) (Nat.le_of_ble_eq_true rfl) (.l .n (.l .n (.l (.l .n (.l (.c .n .n) .n)) .n))) rfl ?_
  unfold laws_toPlantFoeS.f at H
  conv => whnf
  refine Nd.mk (Int.natCast_nonneg _) ?_
  conv => whnf
  refine Nd.mk (Int.le_refl _) ?_
  conv => whnf
  refine nd_ H (fun c H => ?_)
  conv => whnf
  refine laws_toPlantFoeS.l0_lp (l0 := l0) (k := k) H [some 24] (fits_of ⟨mt_own lm_, ⟨.inl ⟨rfl, rfl⟩, trivial⟩⟩ ⟨fm_, trivial⟩ fi_ trivial rfl) ?_
  intro k x3 x4 hk H; rcases k with _ | k; exact none_elim H; rw [laws_toPlantFoeS.l0] at H; conv => whnf
  refine cut_ 81 [(0, (sv_S_laws_PlantFoe l0)), (3, .own 48 x3.length), (4, .int .i64 x4), (11, .bool (decide (x4 < (l0.length : Int))))] [(48, .arr 170 2 (x3.map en_S_impl_PlantFoe))] rfl ⟨.inl rfl, ⟨.inl rfl, ⟨.inl rfl, ⟨.inl rfl, trivial⟩⟩⟩⟩ ⟨rfl, trivial⟩ ?_
  conv => whnf
  refine br_d H (fun c H => ?_) (fun c H => ?_)
  conv => whnf
  refine nd_ H (fun c H => ?_)
  conv => whnf
  refine Nd.mk nf_ ?_
  conv => whnf
  refine El.mk (rdm_en_S_laws_PlantFoe _ _ nf_ nf_) ?_
  conv => whnf
  revert H; refine bind_elim (fun t95 A H => ?_)
  refine call_mk (laws_toPlantFoe.ac A) (avAL_cons (avA_agg (avL_cons (av_shut' rfl) (avL_cons (av_shut' rfl) (avL_nil)))) (avAL_nil)) (Or.inl rfl) rfl rfl (Nat.le_of_ble_eq_true rfl) ?_
  conv => whnf
  refine Nd.mk nf_ ?_
  conv => whnf
  refine nd_ H (fun c H => ?_)
  conv => whnf
  refine El.mk (rdm_en_S_impl_PlantFoe _ _ nf_ nf_) ?_
  conv => whnf
  exact ⟨(k, (x3.set (x4).toNat (⟨t95.1, t95.2⟩ : S_impl_PlantFoe)), wrap64 (x4 + 1)), [some 48], ⟨H, lt_⟩, lt_, (fits_of ⟨mt_own lm_, ⟨.inl ⟨rfl, rfl⟩, trivial⟩⟩ ⟨fm_, trivial⟩ fi_ trivial rfl)⟩
  conv => whnf
  injection H with H; subst H
  exact ret_fz [48] (rtA_fz' rfl rfl)
theorem laws_toPlantPlace.ac {a0_0 : ByteArray} {a0_1 : Int} {a0_2 : ByteArray} {r : ByteArray × Int × ByteArray} (H : laws_toPlantPlace.f a0_0 a0_1 a0_2 = some r) : ACalls Try.prog G 191 [] [.agg [.str a0_0, .int .i64 a0_1, .str a0_2]] [] (.agg [.str r.1, .int .i64 r.2.1, .str r.2.2]) := by
  refine acalls_of tok hP Try.func191 rfl (by kernel_rfl) [.cell 2 173] rfl (by kernel_rfl) (Nat.le_of_ble_eq_true rfl) (.l .n (.l .n (.l .n (.l .n (.c .n .n))))) rfl ?_
  unfold laws_toPlantPlace.f at H
  conv => whnf
  refine cut_ 120 [(2, .bp 8 0), (3, .bp 16 0)] [(8, .box [.str (⟨#[]⟩ : ByteArray), .int .i64 0, .str (⟨#[]⟩ : ByteArray)]), (16, .box [.str a0_0, .int .i64 a0_1, .str a0_2])] rfl ⟨.inl rfl, ⟨.inl rfl, trivial⟩⟩ ⟨rfl, ⟨rfl, trivial⟩⟩ ?_
  conv => whnf
  injection H with H; subst H
  exact ret_fz [] (rtA_agg (rtL_cons (rt_eq rfl) (rtL_cons (rt_eq rfl) (rtL_cons (rt_eq rfl) (rtL_nil)))))
theorem laws_toPlantPlaceS.l0_lp {F : (Exit → St → Prop) → St → Prop} {hv : List Tmp} {Q : Exit → St → Prop} {σ : St} {r : List S_impl_PlantPlace} {k : Nat} {l0 : List S_laws_PlantPlace} {x3 : List S_impl_PlantPlace} {x4 : Int} (H : laws_toPlantPlaceS.l0 k l0 x3 x4 = some r) (rn : List (Option Nat)) (h1 : Fits σ σ [24] [(3, .own 0 x3.length), (4, .int .i64 x4)] [] [.arr 173 3 (x3.map en_S_impl_PlantPlace)] rn)
    (h2 : ∀ (k0 : Nat) (x3 : List S_impl_PlantPlace) (x4 : Int), k0 < k + 1 → laws_toPlantPlaceS.l0 k0 l0 x3 x4 = some r → headN σ hv [24] [(3, .own 0 x3.length), (4, .int .i64 x4)] [] [.arr 173 3 (x3.map en_S_impl_PlantPlace)] (F (fun e σ' => match e with | .normal => ∃ (y : Nat × (List S_impl_PlantPlace) × Int) (rn : List (Option Nat)), (laws_toPlantPlaceS.l0 y.1 l0 y.2.1 y.2.2 = some r ∧ y.1 < k + 1) ∧ y.1 < k0 ∧ Fits σ σ' [24] [(3, .own 0 y.2.1.length), (4, .int .i64 y.2.2)] [] [.arr 173 3 (y.2.1.map en_S_impl_PlantPlace)] rn | e => Q e σ'))) : Lp F hv Q σ := by
  unfold Lp
  refine ⟨Nat × (List S_impl_PlantPlace) × Int, fun x => laws_toPlantPlaceS.l0 x.1 l0 x.2.1 x.2.2 = some r ∧ x.1 < k + 1, fun x => x.1, [24], fun x => [(3, .own 0 x.2.1.length), (4, .int .i64 x.2.2)], fun x => [], fun x => [.arr 173 3 (x.2.1.map en_S_impl_PlantPlace)], ⟨(k, x3, x4), rn, ⟨H, Nat.lt_succ_self _⟩, h1⟩, ?_⟩
  rintro ⟨k, x3, x4⟩ ⟨H, hk⟩
  exact h2 k x3 x4 hk H
theorem laws_toPlantPlaceS.ac {k : Nat} {l0 : List S_laws_PlantPlace} {r : List S_impl_PlantPlace} (H : laws_toPlantPlaceS.f k l0 = some r) : ACalls Try.prog G 121 [] [(sv_S_laws_PlantPlace l0)] [] ((sv_S_impl_PlantPlace r)) := by
  refine acalls_of tok hP Try.func121 rfl (by kernel_rfl) [.tmp 2] rfl (by kernel_rfl) (Nat.le_of_ble_eq_true rfl) (.l .n (.l .n (.l (.l .n (.l (.c .n .n) .n)) .n))) rfl ?_
  unfold laws_toPlantPlaceS.f at H
  conv => whnf
  refine Nd.mk (Int.natCast_nonneg _) ?_
  conv => whnf
  refine Nd.mk (Int.le_refl _) ?_
  conv => whnf
  refine nd_ H (fun c H => ?_)
  conv => whnf
  refine laws_toPlantPlaceS.l0_lp (l0 := l0) (k := k) H [some 24] (fits_of ⟨mt_own lm_, ⟨.inl ⟨rfl, rfl⟩, trivial⟩⟩ ⟨fm_, trivial⟩ fi_ trivial rfl) ?_
  intro k x3 x4 hk H; rcases k with _ | k; exact none_elim H; rw [laws_toPlantPlaceS.l0] at H; conv => whnf
  refine cut_ 81 [(0, (sv_S_laws_PlantPlace l0)), (3, .own 48 x3.length), (4, .int .i64 x4), (11, .bool (decide (x4 < (l0.length : Int))))] [(48, .arr 173 3 (x3.map en_S_impl_PlantPlace))] rfl ⟨.inl rfl, ⟨.inl rfl, ⟨.inl rfl, ⟨.inl rfl, trivial⟩⟩⟩⟩ ⟨rfl, trivial⟩ ?_
  conv => whnf
  refine br_d H (fun c H => ?_) (fun c H => ?_)
  conv => whnf
  refine nd_ H (fun c H => ?_)
  conv => whnf
  refine Nd.mk nf_ ?_
  conv => whnf
  refine El.mk (rdm_en_S_laws_PlantPlace _ _ nf_ nf_) ?_
  conv => whnf
  revert H; refine bind_elim (fun t116 A H => ?_)
  refine call_mk (laws_toPlantPlace.ac A) (avAL_cons (avA_agg (avL_cons (av_shut' rfl) (avL_cons (av_shut' rfl) (avL_cons (av_shut' rfl) (avL_nil))))) (avAL_nil)) (Or.inl rfl) rfl rfl (Nat.le_of_ble_eq_true rfl) ?_
  conv => whnf
  refine Nd.mk nf_ ?_
  conv => whnf
  refine nd_ H (fun c H => ?_)
  conv => whnf
  refine El.mk (rdm_en_S_impl_PlantPlace _ _ nf_ nf_) ?_
  conv => whnf
  exact ⟨(k, (x3.set (x4).toNat (⟨t116.1, t116.2.1, t116.2.2⟩ : S_impl_PlantPlace)), wrap64 (x4 + 1)), [some 48], ⟨H, lt_⟩, lt_, (fits_of ⟨mt_own lm_, ⟨.inl ⟨rfl, rfl⟩, trivial⟩⟩ ⟨fm_, trivial⟩ fi_ trivial rfl)⟩
  conv => whnf
  injection H with H; subst H
  exact ret_fz [48] (rtA_fz' rfl rfl)
theorem laws_toPlantValve.ac {a0_0 : ByteArray} {a0_1 : ByteArray} {a0_2 : ByteArray} {a0_3 : ByteArray} {r : ByteArray × ByteArray × ByteArray × ByteArray} (H : laws_toPlantValve.f a0_0 a0_1 a0_2 a0_3 = some r) : ACalls Try.prog G 192 [] [.agg [.str a0_0, .str a0_1, .str a0_2, .str a0_3]] [] (.agg [.str r.1, .str r.2.1, .str r.2.2.1, .str r.2.2.2]) := by
  refine acalls_of tok hP Try.func192 rfl (by kernel_rfl) [.cell 2 175] rfl (by kernel_rfl) (Nat.le_of_ble_eq_true rfl) (.l .n (.l .n (.l .n (.l .n (.c .n .n))))) rfl ?_
  unfold laws_toPlantValve.f at H
  conv => whnf
  refine cut_ 120 [(1, .bp 0 0), (2, .bp 8 0), (3, .bp 16 0)] [(0, .box [.str a0_0, .str a0_1, .str a0_2, .str a0_3]), (8, .box [.str (⟨#[]⟩ : ByteArray), .str (⟨#[]⟩ : ByteArray), .str (⟨#[]⟩ : ByteArray), .str (⟨#[]⟩ : ByteArray)]), (16, .box [.str a0_0, .str a0_1, .str a0_2, .str (⟨#[]⟩ : ByteArray)])] rfl ⟨.inl rfl, ⟨.inl rfl, ⟨.inl rfl, trivial⟩⟩⟩ ⟨rfl, ⟨rfl, ⟨rfl, trivial⟩⟩⟩ ?_
  conv => whnf
  injection H with H; subst H
  exact ret_fz [] (rtA_agg (rtL_cons (rt_eq rfl) (rtL_cons (rt_eq rfl) (rtL_cons (rt_eq rfl) (rtL_cons (rt_eq rfl) (rtL_nil))))))
theorem laws_toPlantValveS.l0_lp {F : (Exit → St → Prop) → St → Prop} {hv : List Tmp} {Q : Exit → St → Prop} {σ : St} {r : List S_impl_PlantValve} {k : Nat} {l0 : List S_laws_PlantValve} {x3 : List S_impl_PlantValve} {x4 : Int} (H : laws_toPlantValveS.l0 k l0 x3 x4 = some r) (rn : List (Option Nat)) (h1 : Fits σ σ [24] [(3, .own 0 x3.length), (4, .int .i64 x4)] [] [.arr 175 4 (x3.map en_S_impl_PlantValve)] rn)
    (h2 : ∀ (k0 : Nat) (x3 : List S_impl_PlantValve) (x4 : Int), k0 < k + 1 → laws_toPlantValveS.l0 k0 l0 x3 x4 = some r → headN σ hv [24] [(3, .own 0 x3.length), (4, .int .i64 x4)] [] [.arr 175 4 (x3.map en_S_impl_PlantValve)] (F (fun e σ' => match e with | .normal => ∃ (y : Nat × (List S_impl_PlantValve) × Int) (rn : List (Option Nat)), (laws_toPlantValveS.l0 y.1 l0 y.2.1 y.2.2 = some r ∧ y.1 < k + 1) ∧ y.1 < k0 ∧ Fits σ σ' [24] [(3, .own 0 y.2.1.length), (4, .int .i64 y.2.2)] [] [.arr 175 4 (y.2.1.map en_S_impl_PlantValve)] rn | e => Q e σ'))) : Lp F hv Q σ := by
  unfold Lp
  refine ⟨Nat × (List S_impl_PlantValve) × Int, fun x => laws_toPlantValveS.l0 x.1 l0 x.2.1 x.2.2 = some r ∧ x.1 < k + 1, fun x => x.1, [24], fun x => [(3, .own 0 x.2.1.length), (4, .int .i64 x.2.2)], fun x => [], fun x => [.arr 175 4 (x.2.1.map en_S_impl_PlantValve)], ⟨(k, x3, x4), rn, ⟨H, Nat.lt_succ_self _⟩, h1⟩, ?_⟩
  rintro ⟨k, x3, x4⟩ ⟨H, hk⟩
  exact h2 k x3 x4 hk H
theorem laws_toPlantValveS.ac {k : Nat} {l0 : List S_laws_PlantValve} {r : List S_impl_PlantValve} (H : laws_toPlantValveS.f k l0 = some r) : ACalls Try.prog G 122 [] [(sv_S_laws_PlantValve l0)] [] ((sv_S_impl_PlantValve r)) := by
  refine acalls_of tok hP Try.func122 rfl (by kernel_rfl) [.tmp 2] rfl (by kernel_rfl) (Nat.le_of_ble_eq_true rfl) (.l .n (.l .n (.l (.l .n (.l (.c .n .n) .n)) .n))) rfl ?_
  unfold laws_toPlantValveS.f at H
  conv => whnf
  refine Nd.mk (Int.natCast_nonneg _) ?_
  conv => whnf
  refine Nd.mk (Int.le_refl _) ?_
  conv => whnf
  refine nd_ H (fun c H => ?_)
  conv => whnf
  refine laws_toPlantValveS.l0_lp (l0 := l0) (k := k) H [some 24] (fits_of ⟨mt_own lm_, ⟨.inl ⟨rfl, rfl⟩, trivial⟩⟩ ⟨fm_, trivial⟩ fi_ trivial rfl) ?_
  intro k x3 x4 hk H; rcases k with _ | k; exact none_elim H; rw [laws_toPlantValveS.l0] at H; conv => whnf
  refine cut_ 81 [(0, (sv_S_laws_PlantValve l0)), (3, .own 48 x3.length), (4, .int .i64 x4), (11, .bool (decide (x4 < (l0.length : Int))))] [(48, .arr 175 4 (x3.map en_S_impl_PlantValve))] rfl ⟨.inl rfl, ⟨.inl rfl, ⟨.inl rfl, ⟨.inl rfl, trivial⟩⟩⟩⟩ ⟨rfl, trivial⟩ ?_
  conv => whnf
  refine br_d H (fun c H => ?_) (fun c H => ?_)
  conv => whnf
  refine nd_ H (fun c H => ?_)
  conv => whnf
  refine Nd.mk nf_ ?_
  conv => whnf
  refine El.mk (rdm_en_S_laws_PlantValve _ _ nf_ nf_) ?_
  conv => whnf
  revert H; refine bind_elim (fun t141 A H => ?_)
  refine call_mk (laws_toPlantValve.ac A) (avAL_cons (avA_agg (avL_cons (av_shut' rfl) (avL_cons (av_shut' rfl) (avL_cons (av_shut' rfl) (avL_cons (av_shut' rfl) (avL_nil)))))) (avAL_nil)) (Or.inl rfl) rfl rfl (Nat.le_of_ble_eq_true rfl) ?_
  conv => whnf
  refine Nd.mk nf_ ?_
  conv => whnf
  refine nd_ H (fun c H => ?_)
  conv => whnf
  refine El.mk (rdm_en_S_impl_PlantValve _ _ nf_ nf_) ?_
  conv => whnf
  exact ⟨(k, (x3.set (x4).toNat (⟨t141.1, t141.2.1, t141.2.2.1, t141.2.2.2⟩ : S_impl_PlantValve)), wrap64 (x4 + 1)), [some 48], ⟨H, lt_⟩, lt_, (fits_of ⟨mt_own lm_, ⟨.inl ⟨rfl, rfl⟩, trivial⟩⟩ ⟨fm_, trivial⟩ fi_ trivial rfl)⟩
  conv => whnf
  injection H with H; subst H
  exact ret_fz [48] (rtA_fz' rfl rfl)
theorem laws_toPlant.ac {k : Nat} {a0_0 : List ByteArray} {a0_1 : List S_laws_PlantFoe} {a0_2 : List S_laws_PlantPlace} {a0_3 : List S_laws_PlantValve} {r : (List ByteArray) × (List S_impl_PlantFoe) × (List S_impl_PlantPlace) × (List S_impl_PlantValve)} (H : laws_toPlant.f k a0_0 a0_1 a0_2 a0_3 = some r) : ACalls Try.prog G 43 [] [.agg [(sv_str a0_0), (sv_S_laws_PlantFoe a0_1), (sv_S_laws_PlantPlace a0_2), (sv_S_laws_PlantValve a0_3)]] [] (.agg [(sv_str r.1), (sv_S_impl_PlantFoe r.2.1), (sv_S_impl_PlantPlace r.2.2.1), (sv_S_impl_PlantValve r.2.2.2)]) := by
  refine acalls_of tok hP Try.func43 rfl (by kernel_rfl) [.cell 2 82] rfl (by kernel_rfl) (Nat.le_of_ble_eq_true rfl) (.l .n (.l .n (.l .n (.c .n .n)))) rfl ?_
  unfold laws_toPlant.f at H
  conv => whnf
  revert H; refine bind_elim (fun t143 A H => ?_)
  refine call_mk (laws_toStringS.ac A) (avAL_cons (avA_shut' rfl) (avAL_nil)) (Or.inl rfl) rfl rfl (Nat.le_of_ble_eq_true rfl) ?_
  conv => whnf
  revert H; refine bind_elim (fun t145 A H => ?_)
  refine call_mk (laws_toPlantFoeS.ac A) (avAL_cons (avA_shut' rfl) (avAL_nil)) (Or.inl rfl) rfl rfl (Nat.le_of_ble_eq_true rfl) ?_
  conv => whnf
  refine cut_ 104 [(1, .bp 0 0), (2, .bp 8 0), (3, .bp 16 0)] [(0, .box [(sv_str a0_0), (sv_S_laws_PlantFoe a0_1), (sv_S_laws_PlantPlace a0_2), (sv_S_laws_PlantValve a0_3)]), (8, .box [.nil, .nil, .nil, .nil]), (16, .box [(sv_str t143), (sv_S_impl_PlantFoe t145), .nil, .nil])] rfl ⟨.inl rfl, ⟨.inl rfl, ⟨.inl rfl, trivial⟩⟩⟩ ⟨rfl, ⟨rfl, ⟨rfl, trivial⟩⟩⟩ ?_
  conv => whnf
  revert H; refine bind_elim (fun t147 A H => ?_)
  refine call_mk (laws_toPlantPlaceS.ac A) (avAL_cons (avA_shut' rfl) (avAL_nil)) (Or.inl rfl) rfl rfl (Nat.le_of_ble_eq_true rfl) ?_
  conv => whnf
  revert H; refine bind_elim (fun t149 A H => ?_)
  refine call_mk (laws_toPlantValveS.ac A) (avAL_cons (avA_shut' rfl) (avAL_nil)) (Or.inl rfl) rfl rfl (Nat.le_of_ble_eq_true rfl) ?_
  conv => whnf
  injection H with H; subst H
  exact ret_fz [] (rtA_agg (rtL_cons (rt_eq rfl) (rtL_cons (rt_eq rfl) (rtL_cons (rt_eq rfl) (rtL_cons (rt_eq rfl) (rtL_nil))))))
theorem laws_toClaimUse.ac {a0_0 : ByteArray} {a0_1 : Int} {a0_2 : Int} {r : ByteArray × Int × Int} (H : laws_toClaimUse.f a0_0 a0_1 a0_2 = some r) : ACalls Try.prog G 217 [] [.agg [.str a0_0, .int .i64 a0_1, .int .i64 a0_2]] [] (.agg [.str r.1, .int .i64 r.2.1, .int .i64 r.2.2]) := by
  refine acalls_of tok hP Try.func217 rfl (by kernel_rfl) [.cell 2 231] rfl (by kernel_rfl) (Nat.le_of_ble_eq_true rfl) (.l .n (.l .n (.l .n (.l .n (.c .n .n))))) rfl ?_
  unfold laws_toClaimUse.f at H
  conv => whnf
  refine cut_ 120 [(2, .bp 8 0), (3, .bp 16 0)] [(8, .box [.str (⟨#[]⟩ : ByteArray), .int .i64 0, .int .i64 0]), (16, .box [.str a0_0, .int .i64 a0_1, .int .i64 a0_2])] rfl ⟨.inl rfl, ⟨.inl rfl, trivial⟩⟩ ⟨rfl, ⟨rfl, trivial⟩⟩ ?_
  conv => whnf
  injection H with H; subst H
  exact ret_fz [] (rtA_agg (rtL_cons (rt_eq rfl) (rtL_cons (rt_eq rfl) (rtL_cons (rt_eq rfl) (rtL_nil)))))
theorem laws_toClaimUseS.l0_lp {F : (Exit → St → Prop) → St → Prop} {hv : List Tmp} {Q : Exit → St → Prop} {σ : St} {r : List S_impl_ClaimUse} {k : Nat} {l0 : List S_laws_ClaimUse} {x3 : List S_impl_ClaimUse} {x4 : Int} (H : laws_toClaimUseS.l0 k l0 x3 x4 = some r) (rn : List (Option Nat)) (h1 : Fits σ σ [24] [(3, .own 0 x3.length), (4, .int .i64 x4)] [] [.arr 231 3 (x3.map en_S_impl_ClaimUse)] rn)
    (h2 : ∀ (k0 : Nat) (x3 : List S_impl_ClaimUse) (x4 : Int), k0 < k + 1 → laws_toClaimUseS.l0 k0 l0 x3 x4 = some r → headN σ hv [24] [(3, .own 0 x3.length), (4, .int .i64 x4)] [] [.arr 231 3 (x3.map en_S_impl_ClaimUse)] (F (fun e σ' => match e with | .normal => ∃ (y : Nat × (List S_impl_ClaimUse) × Int) (rn : List (Option Nat)), (laws_toClaimUseS.l0 y.1 l0 y.2.1 y.2.2 = some r ∧ y.1 < k + 1) ∧ y.1 < k0 ∧ Fits σ σ' [24] [(3, .own 0 y.2.1.length), (4, .int .i64 y.2.2)] [] [.arr 231 3 (y.2.1.map en_S_impl_ClaimUse)] rn | e => Q e σ'))) : Lp F hv Q σ := by
  unfold Lp
  refine ⟨Nat × (List S_impl_ClaimUse) × Int, fun x => laws_toClaimUseS.l0 x.1 l0 x.2.1 x.2.2 = some r ∧ x.1 < k + 1, fun x => x.1, [24], fun x => [(3, .own 0 x.2.1.length), (4, .int .i64 x.2.2)], fun x => [], fun x => [.arr 231 3 (x.2.1.map en_S_impl_ClaimUse)], ⟨(k, x3, x4), rn, ⟨H, Nat.lt_succ_self _⟩, h1⟩, ?_⟩
  rintro ⟨k, x3, x4⟩ ⟨H, hk⟩
  exact h2 k x3 x4 hk H
theorem laws_toClaimUseS.ac {k : Nat} {l0 : List S_laws_ClaimUse} {r : List S_impl_ClaimUse} (H : laws_toClaimUseS.f k l0 = some r) : ACalls Try.prog G 201 [] [(sv_S_laws_ClaimUse l0)] [] ((sv_S_impl_ClaimUse r)) := by
  refine acalls_of tok hP Try.func201 rfl (by kernel_rfl) [.tmp 2] rfl (by kernel_rfl) (Nat.le_of_ble_eq_true rfl) (.l .n (.l .n (.l (.l .n (.l (.c .n .n) .n)) .n))) rfl ?_
  unfold laws_toClaimUseS.f at H
  conv => whnf
  refine Nd.mk (Int.natCast_nonneg _) ?_
  conv => whnf
  refine Nd.mk (Int.le_refl _) ?_
  conv => whnf
  refine nd_ H (fun c H => ?_)
  conv => whnf
  refine laws_toClaimUseS.l0_lp (l0 := l0) (k := k) H [some 24] (fits_of ⟨mt_own lm_, ⟨.inl ⟨rfl, rfl⟩, trivial⟩⟩ ⟨fm_, trivial⟩ fi_ trivial rfl) ?_
  intro k x3 x4 hk H; rcases k with _ | k; exact none_elim H; rw [laws_toClaimUseS.l0] at H; conv => whnf
  refine cut_ 81 [(0, (sv_S_laws_ClaimUse l0)), (3, .own 48 x3.length), (4, .int .i64 x4), (11, .bool (decide (x4 < (l0.length : Int))))] [(48, .arr 231 3 (x3.map en_S_impl_ClaimUse))] rfl ⟨.inl rfl, ⟨.inl rfl, ⟨.inl rfl, ⟨.inl rfl, trivial⟩⟩⟩⟩ ⟨rfl, trivial⟩ ?_
  conv => whnf
  refine br_d H (fun c H => ?_) (fun c H => ?_)
  conv => whnf
  refine nd_ H (fun c H => ?_)
  conv => whnf
  refine Nd.mk nf_ ?_
  conv => whnf
  refine El.mk (rdm_en_S_laws_ClaimUse _ _ nf_ nf_) ?_
  conv => whnf
  revert H; refine bind_elim (fun t178 A H => ?_)
  refine call_mk (laws_toClaimUse.ac A) (avAL_cons (avA_agg (avL_cons (av_shut' rfl) (avL_cons (av_shut' rfl) (avL_cons (av_shut' rfl) (avL_nil))))) (avAL_nil)) (Or.inl rfl) rfl rfl (Nat.le_of_ble_eq_true rfl) ?_
  conv => whnf
  refine Nd.mk nf_ ?_
  conv => whnf
  refine nd_ H (fun c H => ?_)
  conv => whnf
  refine El.mk (rdm_en_S_impl_ClaimUse _ _ nf_ nf_) ?_
  conv => whnf
  exact ⟨(k, (x3.set (x4).toNat (⟨t178.1, t178.2.1, t178.2.2⟩ : S_impl_ClaimUse)), wrap64 (x4 + 1)), [some 48], ⟨H, lt_⟩, lt_, (fits_of ⟨mt_own lm_, ⟨.inl ⟨rfl, rfl⟩, trivial⟩⟩ ⟨fm_, trivial⟩ fi_ trivial rfl)⟩
  conv => whnf
  injection H with H; subst H
  exact ret_fz [48] (rtA_fz' rfl rfl)
theorem laws_toClaimWant.ac {k : Nat} {a0_0 : Int} {a0_1 : Int} {a0_2 : List ByteArray} {a0_3 : List S_laws_ClaimUse} {a0_4 : List ByteArray} {a0_5 : List ByteArray} {r : Int × Int × (List ByteArray) × (List S_impl_ClaimUse) × (List ByteArray) × (List ByteArray)} (H : laws_toClaimWant.f k a0_0 a0_1 a0_2 a0_3 a0_4 a0_5 = some r) : ACalls Try.prog G 141 [] [.agg [.int .i64 a0_0, .int .i64 a0_1, (sv_str a0_2), (sv_S_laws_ClaimUse a0_3), (sv_str a0_4), (sv_str a0_5)]] [] (.agg [.int .i64 r.1, .int .i64 r.2.1, (sv_str r.2.2.1), (sv_S_impl_ClaimUse r.2.2.2.1), (sv_str r.2.2.2.2.1), (sv_str r.2.2.2.2.2)]) := by
  refine acalls_of tok hP Try.func141 rfl (by kernel_rfl) [.cell 2 98] rfl (by kernel_rfl) (Nat.le_of_ble_eq_true rfl) (.l .n (.l .n (.l .n (.l .n (.c .n (.l .n (.l .n (.c .n .n)))))))) rfl ?_
  unfold laws_toClaimWant.f at H
  conv => whnf
  revert H; refine bind_elim (fun t180 A H => ?_)
  refine call_mk (laws_toStringS.ac A) (avAL_cons (avA_shut' rfl) (avAL_nil)) (Or.inl rfl) rfl rfl (Nat.le_of_ble_eq_true rfl) ?_
  conv => whnf
  refine cut_ 128 [(1, .bp 0 0), (2, .bp 8 0), (3, .bp 16 0)] [(0, .box [.int .i64 a0_0, .int .i64 a0_1, (sv_str a0_2), (sv_S_laws_ClaimUse a0_3), (sv_str a0_4), (sv_str a0_5)]), (8, .box [.int .i64 0, .int .i64 0, .nil, .nil, .nil, .nil]), (16, .box [.int .i64 a0_0, .int .i64 a0_1, (sv_str t180), .nil, .nil, .nil])] rfl ⟨.inl rfl, ⟨.inl rfl, ⟨.inl rfl, trivial⟩⟩⟩ ⟨rfl, ⟨rfl, ⟨rfl, trivial⟩⟩⟩ ?_
  conv => whnf
  revert H; refine bind_elim (fun t182 A H => ?_)
  refine call_mk (laws_toClaimUseS.ac A) (avAL_cons (avA_shut' rfl) (avAL_nil)) (Or.inl rfl) rfl rfl (Nat.le_of_ble_eq_true rfl) ?_
  conv => whnf
  revert H; refine bind_elim (fun t184 A H => ?_)
  refine call_mk (laws_toStringS.ac A) (avAL_cons (avA_shut' rfl) (avAL_nil)) (Or.inl rfl) rfl rfl (Nat.le_of_ble_eq_true rfl) ?_
  conv => whnf
  revert H; refine bind_elim (fun t186 A H => ?_)
  refine call_mk (laws_toStringS.ac A) (avAL_cons (avA_shut' rfl) (avAL_nil)) (Or.inl rfl) rfl rfl (Nat.le_of_ble_eq_true rfl) ?_
  conv => whnf
  refine cut_ 248 [(2, .bp 8 0), (3, .bp 16 0)] [(8, .box [.int .i64 0, .int .i64 0, .nil, .nil, .nil, .nil]), (16, .box [.int .i64 a0_0, .int .i64 a0_1, (sv_str t180), (sv_S_impl_ClaimUse t182), (sv_str t184), (sv_str t186)])] rfl ⟨.inl rfl, ⟨.inl rfl, trivial⟩⟩ ⟨rfl, ⟨rfl, trivial⟩⟩ ?_
  conv => whnf
  injection H with H; subst H
  exact ret_fz [] (rtA_agg (rtL_cons (rt_eq rfl) (rtL_cons (rt_eq rfl) (rtL_cons (rt_eq rfl) (rtL_cons (rt_eq rfl) (rtL_cons (rt_eq rfl) (rtL_cons (rt_eq rfl) (rtL_nil))))))))
theorem laws_toCtlWord.ac {k : Nat} {a0_0 : Int} {a0_1 : ByteArray} {a0_2 : Int} {a0_3 : Int} {a0_4 : Int} {a0_5 : List ByteArray} {a0_6 : List S_laws_ClaimUse} {a0_7 : List ByteArray} {a0_8 : List ByteArray} {a0_9 : Int} {a0_10 : Bool} {r : Int × ByteArray × Int × Int × Int × (List ByteArray) × (List S_impl_ClaimUse) × (List ByteArray) × (List ByteArray) × Int × Bool} (H : laws_toCtlWord.f k a0_0 a0_1 a0_2 a0_3 a0_4 a0_5 a0_6 a0_7 a0_8 a0_9 a0_10 = some r) : ACalls Try.prog G 52 [] [.agg [.int .i64 a0_0, .str a0_1, .int .i64 a0_2, .int .i64 a0_3, .int .i64 a0_4, (sv_str a0_5), (sv_S_laws_ClaimUse a0_6), (sv_str a0_7), (sv_str a0_8), .int .i64 a0_9, .bool a0_10]] [] (.agg [.int .i64 r.1, .str r.2.1, .int .i64 r.2.2.1, .int .i64 r.2.2.2.1, .int .i64 r.2.2.2.2.1, (sv_str r.2.2.2.2.2.1), (sv_S_impl_ClaimUse r.2.2.2.2.2.2.1), (sv_str r.2.2.2.2.2.2.2.1), (sv_str r.2.2.2.2.2.2.2.2.1), .int .i64 r.2.2.2.2.2.2.2.2.2.1, .bool r.2.2.2.2.2.2.2.2.2.2]) := by
  refine acalls_of tok hP Try.func52 rfl (by kernel_rfl) [.cell 2 100] rfl (by kernel_rfl) (Nat.le_of_ble_eq_true rfl) (.l .n (.l .n (.l .n (.l .n (.c .n (.l .n (.l .n (.c .n .n)))))))) rfl ?_
  unfold laws_toCtlWord.f at H
  conv => whnf
  refine cut_ 120 [(1, .bp 0 0), (2, .bp 8 0), (3, .bp 16 0)] [(0, .box [.int .i64 a0_0, .str a0_1, .int .i64 a0_2, .int .i64 a0_3, .int .i64 a0_4, (sv_str a0_5), (sv_S_laws_ClaimUse a0_6), (sv_str a0_7), (sv_str a0_8), .int .i64 a0_9, .bool a0_10]), (8, .box [.int .i64 0, .str (⟨#[]⟩ : ByteArray), .int .i64 0, .int .i64 0, .int .i64 0, .nil, .nil, .nil, .nil, .int .i64 0, .bool false]), (16, .box [.int .i64 a0_0, .str a0_1, .int .i64 a0_2, .int .i64 0, .int .i64 0, .nil, .nil, .nil, .nil, .int .i64 0, .bool false])] rfl ⟨.inl rfl, ⟨.inl rfl, ⟨.inl rfl, trivial⟩⟩⟩ ⟨rfl, ⟨rfl, ⟨rfl, trivial⟩⟩⟩ ?_
  conv => whnf
  revert H; refine bind_elim (fun t188 A H => ?_)
  refine call_mk (laws_toClaimWant.ac A) (avAL_cons (avA_agg (avL_cons (av_shut' rfl) (avL_cons (av_shut' rfl) (avL_cons (av_shut' rfl) (avL_cons (av_shut' rfl) (avL_cons (av_shut' rfl) (avL_cons (av_shut' rfl) (avL_nil)))))))) (avAL_nil)) (Or.inl rfl) rfl rfl (Nat.le_of_ble_eq_true rfl) ?_
  conv => whnf
  refine cut_ 224 [(2, .bp 8 0), (3, .bp 16 0)] [(8, .box [.int .i64 0, .str (⟨#[]⟩ : ByteArray), .int .i64 0, .int .i64 0, .int .i64 0, .nil, .nil, .nil, .nil, .int .i64 0, .bool false]), (16, .box [.int .i64 a0_0, .str a0_1, .int .i64 a0_2, .int .i64 t188.1, .int .i64 t188.2.1, (sv_str t188.2.2.1), (sv_S_impl_ClaimUse t188.2.2.2.1), (sv_str t188.2.2.2.2.1), (sv_str t188.2.2.2.2.2), .int .i64 a0_9, .bool a0_10])] rfl ⟨.inl rfl, ⟨.inl rfl, trivial⟩⟩ ⟨rfl, ⟨rfl, trivial⟩⟩ ?_
  conv => whnf
  injection H with H; subst H
  exact ret_fz [] (rtA_agg (rtL_cons (rt_eq rfl) (rtL_cons (rt_eq rfl) (rtL_cons (rt_eq rfl) (rtL_cons (rt_eq rfl) (rtL_cons (rt_eq rfl) (rtL_cons (rt_eq rfl) (rtL_cons (rt_eq rfl) (rtL_cons (rt_eq rfl) (rtL_cons (rt_eq rfl) (rtL_cons (rt_eq rfl) (rtL_cons (rt_eq rfl) (rtL_nil)))))))))))))
theorem spec_l1In.ac {a0 : Int} {a1 : Int} {a2 : Int} {r : Bool} (H : spec_l1In.f a0 a1 a2 = some r) : ACalls Try.prog G 137 [] [.int .i64 a0, .int .i64 a1, .int .i64 a2] [] (.bool r) := by
  refine acalls_of tok hP Try.func137 rfl (by kernel_rfl) [.tmp 6] rfl (by kernel_rfl) (Nat.le_of_ble_eq_true rfl) (.l .n (.c .n .n)) rfl ?_
  unfold spec_l1In.f at H
  conv => whnf
  refine br_d H (fun c H => ?_) (fun c H => ?_)
  conv => whnf
  refine Br.t ft_ ?_
  conv => whnf
  refine Br.t ft_ ?_
  conv => whnf
  refine Br.t ft_ ?_
  conv => whnf
  refine cut_ 80 [(6, .bool (decide (a0 ≤ a2)))] [] rfl ⟨.inl rfl, trivial⟩ trivial ?_
  conv => whnf
  injection H with H; subst H
  exact ret_fz [] (rtA_eq rfl)
  conv => whnf
  refine Br.f ff_ ?_
  conv => whnf
  refine Br.f ff_ ?_
  conv => whnf
  refine Br.f ff_ ?_
  conv => whnf
  refine cut_ 80 [(6, .bool false)] [] rfl ⟨.inl rfl, trivial⟩ trivial ?_
  conv => whnf
  injection H with H; subst H
  exact ret_fz [] (rtA_eq rfl)
theorem spec_l2NameOk.l0_lp {F : (Exit → St → Prop) → St → Prop} {hv : List Tmp} {Q : Exit → St → Prop} {σ : St} {r : Bool} {k : Nat} {a0 : ByteArray} {x3 : Int} (H : spec_l2NameOk.l0 k a0 x3 = some r) (rn : List (Option Nat)) (h1 : Fits σ σ [] [(3, .int .i64 x3)] [] [] rn)
    (h2 : ∀ (k0 : Nat) (x3 : Int), k0 < k + 1 → spec_l2NameOk.l0 k0 a0 x3 = some r → headN σ hv [] [(3, .int .i64 x3)] [] [] (F (fun e σ' => match e with | .normal => ∃ (y : Nat × Int) (rn : List (Option Nat)), (spec_l2NameOk.l0 y.1 a0 y.2 = some r ∧ y.1 < k + 1) ∧ y.1 < k0 ∧ Fits σ σ' [] [(3, .int .i64 y.2)] [] [] rn | e => Q e σ'))) : Lp F hv Q σ := by
  unfold Lp
  refine ⟨Nat × Int, fun x => spec_l2NameOk.l0 x.1 a0 x.2 = some r ∧ x.1 < k + 1, fun x => x.1, [], fun x => [(3, .int .i64 x.2)], fun x => [], fun x => [], ⟨(k, x3), rn, ⟨H, Nat.lt_succ_self _⟩, h1⟩, ?_⟩
  rintro ⟨k, x3⟩ ⟨H, hk⟩
  exact h2 k x3 hk H
theorem spec_l2NameOk.ac {k : Nat} {a0 : ByteArray} {r : Bool} (H : spec_l2NameOk.f k a0 = some r) : ACalls Try.prog G 213 [] [.str a0] [] (.bool r) := by
  refine acalls_of tok hP Try.func213 rfl (by kernel_rfl) [.tmp 2] rfl (by kernel_rfl) (Nat.le_of_ble_eq_true rfl) (.l .n (.l .n (.l (.l .n (.l (.c .n .n) (.l (.l .n (.c .n .n)) .n))) .n))) rfl ?_
  unfold spec_l2NameOk.f at H
  conv => whnf
  revert H; refine bind_elim (fun t221 A H => ?_)
  refine call_mk (spec_l1In.ac A) (avAL_cons (avA_shut' rfl) (avAL_cons (avA_shut' rfl) (avAL_cons (avA_shut' rfl) (avAL_nil)))) (Or.inl rfl) rfl rfl (Nat.le_of_ble_eq_true rfl) ?_
  conv => whnf
  refine br_nt H (fun c H => ?_) (fun c H => ?_)
  conv => whnf
  refine spec_l2NameOk.l0_lp (a0 := a0) (k := k) H [] (fits_of ⟨.inl ⟨rfl, rfl⟩, trivial⟩ trivial fi_ trivial rfl) ?_
  intro k x3 hk H; rcases k with _ | k; exact none_elim H; rw [spec_l2NameOk.l0] at H; conv => whnf
  refine cut_ 80 [(0, .str a0), (3, .int .i64 x3), (12, .bool (decide (x3 < (a0.size : Int))))] [] rfl ⟨.inl rfl, ⟨.inl rfl, ⟨.inl rfl, trivial⟩⟩⟩ trivial ?_
  conv => whnf
  refine br_d H (fun c H => ?_) (fun c H => ?_)
  conv => whnf
  refine nd_ H (fun c H => ?_)
  conv => whnf
  refine Nd.mk nf_ ?_
  conv => whnf
  refine br_d H (fun c H => ?_) (fun c H => ?_)
  conv => whnf
  refine Br.t ft_ ?_
  conv => whnf
  refine Br.t ft_ ?_
  conv => whnf
  refine br_d H (fun c H => ?_) (fun c H => ?_)
  conv => whnf
  refine Br.t ft_ ?_
  conv => whnf
  refine Br.t ft_ ?_
  conv => whnf
  refine Br.t ft_ ?_
  conv => whnf
  refine Br.t ft_ ?_
  conv => whnf
  refine Br.t rfl ?_
  conv => whnf
  refine Br.t rfl ?_
  conv => whnf
  refine Br.t rfl ?_
  conv => whnf
  refine cut_ 264 [(0, .str a0), (3, .int .i64 x3), (36, .bool (!true))] [] rfl ⟨.inl rfl, ⟨.inl rfl, ⟨.inl rfl, trivial⟩⟩⟩ trivial ?_
  conv => whnf
  refine Br.f rfl ?_
  conv => whnf
  exact ⟨(k, wrap64 (x3 + 1)), [], ⟨H, lt_⟩, lt_, (fits_of ⟨.inl ⟨rfl, rfl⟩, trivial⟩ trivial fi_ trivial rfl)⟩
  conv => whnf
  refine Br.f ff_ ?_
  conv => whnf
  refine Br.f ff_ ?_
  conv => whnf
  refine br_d H (fun c H => ?_) (fun c H => ?_)
  conv => whnf
  refine Br.t ft_ ?_
  conv => whnf
  refine Br.f ff_ ?_
  conv => whnf
  refine Br.t ft_ ?_
  conv => whnf
  refine Br.f ff_ ?_
  conv => whnf
  refine br_d H (fun c H => ?_) (fun c H => ?_)
  conv => whnf
  refine Br.t ft_ ?_
  conv => whnf
  refine Br.t ft_ ?_
  conv => whnf
  refine cut_ 264 [(0, .str a0), (3, .int .i64 x3), (36, .bool (!true))] [] rfl ⟨.inl rfl, ⟨.inl rfl, ⟨.inl rfl, trivial⟩⟩⟩ trivial ?_
  conv => whnf
  refine Br.f rfl ?_
  conv => whnf
  exact ⟨(k, wrap64 (x3 + 1)), [], ⟨H, lt_⟩, lt_, (fits_of ⟨.inl ⟨rfl, rfl⟩, trivial⟩ trivial fi_ trivial rfl)⟩
  conv => whnf
  refine Br.f ff_ ?_
  conv => whnf
  refine Br.f ff_ ?_
  conv => whnf
  refine cut_ 264 [(0, .str a0), (3, .int .i64 x3), (36, .bool (!(decide ((bt a0 x3) = 45))))] [] rfl ⟨.inl rfl, ⟨.inl rfl, ⟨.inl rfl, trivial⟩⟩⟩ trivial ?_
  conv => whnf
  refine br_nd H (fun c H => ?_) (fun c H => ?_)
  conv => whnf
  exact ⟨(k, wrap64 (x3 + 1)), [], ⟨H, lt_⟩, lt_, (fits_of ⟨.inl ⟨rfl, rfl⟩, trivial⟩ trivial fi_ trivial rfl)⟩
  conv => whnf
  injection H with H; subst H
  exact ret_fz [] (rtA_eq rfl)
  conv => whnf
  refine Br.f ff_ ?_
  conv => whnf
  refine Br.f ff_ ?_
  conv => whnf
  refine Br.f ff_ ?_
  conv => whnf
  refine Br.f ff_ ?_
  conv => whnf
  refine Br.f rfl ?_
  conv => whnf
  refine Br.f rfl ?_
  conv => whnf
  refine Br.f rfl ?_
  conv => whnf
  refine cut_ 264 [(0, .str a0), (3, .int .i64 x3), (36, .bool (!(decide ((bt a0 x3) = 45))))] [] rfl ⟨.inl rfl, ⟨.inl rfl, ⟨.inl rfl, trivial⟩⟩⟩ trivial ?_
  conv => whnf
  refine br_nd H (fun c H => ?_) (fun c H => ?_)
  conv => whnf
  exact ⟨(k, wrap64 (x3 + 1)), [], ⟨H, lt_⟩, lt_, (fits_of ⟨.inl ⟨rfl, rfl⟩, trivial⟩ trivial fi_ trivial rfl)⟩
  conv => whnf
  injection H with H; subst H
  exact ret_fz [] (rtA_eq rfl)
  conv => whnf
  refine Br.f ff_ ?_
  conv => whnf
  refine Br.f ff_ ?_
  conv => whnf
  refine Br.f rfl ?_
  conv => whnf
  refine Br.f rfl ?_
  conv => whnf
  refine Br.f rfl ?_
  conv => whnf
  refine br_d H (fun c H => ?_) (fun c H => ?_)
  conv => whnf
  refine Br.t ft_ ?_
  conv => whnf
  refine Br.f rfl ?_
  conv => whnf
  refine Br.t ft_ ?_
  conv => whnf
  refine Br.f rfl ?_
  conv => whnf
  refine br_d H (fun c H => ?_) (fun c H => ?_)
  conv => whnf
  refine Br.t ft_ ?_
  conv => whnf
  refine Br.t ft_ ?_
  conv => whnf
  refine cut_ 264 [(0, .str a0), (3, .int .i64 x3), (36, .bool (!true))] [] rfl ⟨.inl rfl, ⟨.inl rfl, ⟨.inl rfl, trivial⟩⟩⟩ trivial ?_
  conv => whnf
  refine Br.f rfl ?_
  conv => whnf
  exact ⟨(k, wrap64 (x3 + 1)), [], ⟨H, lt_⟩, lt_, (fits_of ⟨.inl ⟨rfl, rfl⟩, trivial⟩ trivial fi_ trivial rfl)⟩
  conv => whnf
  refine Br.f ff_ ?_
  conv => whnf
  refine Br.f ff_ ?_
  conv => whnf
  refine cut_ 264 [(0, .str a0), (3, .int .i64 x3), (36, .bool (!(decide ((bt a0 x3) = 45))))] [] rfl ⟨.inl rfl, ⟨.inl rfl, ⟨.inl rfl, trivial⟩⟩⟩ trivial ?_
  conv => whnf
  refine br_nd H (fun c H => ?_) (fun c H => ?_)
  conv => whnf
  exact ⟨(k, wrap64 (x3 + 1)), [], ⟨H, lt_⟩, lt_, (fits_of ⟨.inl ⟨rfl, rfl⟩, trivial⟩ trivial fi_ trivial rfl)⟩
  conv => whnf
  injection H with H; subst H
  exact ret_fz [] (rtA_eq rfl)
  conv => whnf
  refine Br.f ff_ ?_
  conv => whnf
  refine Br.f rfl ?_
  conv => whnf
  refine Br.f ff_ ?_
  conv => whnf
  refine Br.f rfl ?_
  conv => whnf
  refine Br.f rfl ?_
  conv => whnf
  refine Br.f rfl ?_
  conv => whnf
  refine Br.f rfl ?_
  conv => whnf
  refine cut_ 264 [(0, .str a0), (3, .int .i64 x3), (36, .bool (!(decide ((bt a0 x3) = 45))))] [] rfl ⟨.inl rfl, ⟨.inl rfl, ⟨.inl rfl, trivial⟩⟩⟩ trivial ?_
  conv => whnf
  refine br_nd H (fun c H => ?_) (fun c H => ?_)
  conv => whnf
  exact ⟨(k, wrap64 (x3 + 1)), [], ⟨H, lt_⟩, lt_, (fits_of ⟨.inl ⟨rfl, rfl⟩, trivial⟩ trivial fi_ trivial rfl)⟩
  conv => whnf
  injection H with H; subst H
  exact ret_fz [] (rtA_eq rfl)
  conv => whnf
  injection H with H; subst H
  exact ret_fz [] (rtA_eq rfl)
  conv => whnf
  injection H with H; subst H
  exact ret_fz [] (rtA_eq rfl)
theorem spec_l2Has.l0_lp {F : (Exit → St → Prop) → St → Prop} {hv : List Tmp} {Q : Exit → St → Prop} {σ : St} {r : Bool} {k : Nat} {l0 : List ByteArray} {a1 : ByteArray} {x5 : Int} (H : spec_l2Has.l0 k l0 a1 x5 = some r) (rn : List (Option Nat)) (h1 : Fits σ σ [] [(5, .int .i64 x5)] [] [] rn)
    (h2 : ∀ (k0 : Nat) (x5 : Int), k0 < k + 1 → spec_l2Has.l0 k0 l0 a1 x5 = some r → headN σ hv [] [(5, .int .i64 x5)] [] [] (F (fun e σ' => match e with | .normal => ∃ (y : Nat × Int) (rn : List (Option Nat)), (spec_l2Has.l0 y.1 l0 a1 y.2 = some r ∧ y.1 < k + 1) ∧ y.1 < k0 ∧ Fits σ σ' [] [(5, .int .i64 y.2)] [] [] rn | e => Q e σ'))) : Lp F hv Q σ := by
  unfold Lp
  refine ⟨Nat × Int, fun x => spec_l2Has.l0 x.1 l0 a1 x.2 = some r ∧ x.1 < k + 1, fun x => x.1, [], fun x => [(5, .int .i64 x.2)], fun x => [], fun x => [], ⟨(k, x5), rn, ⟨H, Nat.lt_succ_self _⟩, h1⟩, ?_⟩
  rintro ⟨k, x5⟩ ⟨H, hk⟩
  exact h2 k x5 hk H
theorem spec_l2Has.ac {k : Nat} {l0 : List ByteArray} {a1 : ByteArray} {r : Bool} (H : spec_l2Has.f k l0 a1 = some r) : ACalls Try.prog G 138 [] [(sv_str l0), .str a1] [] (.bool r) := by
  refine acalls_of tok hP Try.func138 rfl (by kernel_rfl) [.tmp 4] rfl (by kernel_rfl) (Nat.le_of_ble_eq_true rfl) (.l .n (.l (.l .n (.l .n (.l (.c .n .n) .n))) .n)) rfl ?_
  unfold spec_l2Has.f at H
  conv => whnf
  refine spec_l2Has.l0_lp (l0 := l0) (a1 := a1) (k := k) H [] (fits_of ⟨.inl ⟨rfl, rfl⟩, trivial⟩ trivial fi_ trivial rfl) ?_
  intro k x5 hk H; rcases k with _ | k; exact none_elim H; rw [spec_l2Has.l0] at H; conv => whnf
  refine br_d H (fun c H => ?_) (fun c H => ?_)
  conv => whnf
  refine nd_ H (fun c H => ?_)
  conv => whnf
  refine Nd.mk nf_ ?_
  conv => whnf
  refine El.mk (rdm_en_str _ _ nf_ nf_) ?_
  conv => whnf
  refine cut_ 96 [(0, (sv_str l0)), (1, .str a1), (5, .int .i64 x5), (17, .bool (decide ((rdOf ByteArray.empty l0 x5).toList = a1.toList)))] [] rfl ⟨.inl rfl, ⟨.inl rfl, ⟨.inl rfl, ⟨.inl rfl, trivial⟩⟩⟩⟩ trivial ?_
  conv => whnf
  refine br_d H (fun c H => ?_) (fun c H => ?_)
  conv => whnf
  injection H with H; subst H
  exact ret_fz [] (rtA_eq rfl)
  conv => whnf
  exact ⟨(k, wrap64 (x5 + 1)), [], ⟨H, lt_⟩, lt_, (fits_of ⟨.inl ⟨rfl, rfl⟩, trivial⟩ trivial fi_ trivial rfl)⟩
  conv => whnf
  injection H with H; subst H
  exact ret_fz [] (rtA_eq rfl)
theorem spec_l2Before.ac {a0_0 : ByteArray} {a0_1 : ByteArray} {a1_0 : ByteArray} {a1_1 : ByteArray} {r : Bool} (H : spec_l2Before.f a0_0 a0_1 a1_0 a1_1 = some r) : ACalls Try.prog G 214 [] [.agg [.str a0_0, .str a0_1], .agg [.str a1_0, .str a1_1]] [] (.bool r) := by
  refine acalls_of tok hP Try.func214 rfl (by kernel_rfl) [.tmp 4] rfl (by kernel_rfl) (Nat.le_of_ble_eq_true rfl) (.l .n (.c .n .n)) rfl ?_
  unfold spec_l2Before.f at H
  conv => whnf
  refine br_t H (fun c H => ?_) (fun c H => ?_)
  conv => whnf
  refine Br.t ft_ ?_
  conv => whnf
  refine Br.t ft_ ?_
  conv => whnf
  refine Br.t ft_ ?_
  conv => whnf
  refine Br.t ft_ ?_
  conv => whnf
  refine Br.t ft_ ?_
  conv => whnf
  refine Br.t ft_ ?_
  conv => whnf
  refine Br.t ft_ ?_
  conv => whnf
  refine cut_ 184 [(4, .bool true)] [] rfl ⟨.inl rfl, trivial⟩ trivial ?_
  conv => whnf
  injection H with H; subst H
  exact ret_fz [] (rtA_eq rfl)
  conv => whnf
  refine Br.f ff_ ?_
  conv => whnf
  refine Br.f ff_ ?_
  conv => whnf
  refine Br.f ff_ ?_
  conv => whnf
  refine Br.f ff_ ?_
  conv => whnf
  refine Br.f ff_ ?_
  conv => whnf
  refine br_d H (fun c H => ?_) (fun c H => ?_)
  conv => whnf
  refine Br.t ft_ ?_
  conv => whnf
  refine Br.t ft_ ?_
  conv => whnf
  refine Br.t ft_ ?_
  conv => whnf
  refine Br.t ft_ ?_
  conv => whnf
  refine Br.f ff_ ?_
  conv => whnf
  refine Br.t ft_ ?_
  conv => whnf
  refine Br.f ff_ ?_
  conv => whnf
  refine cut_ 184 [(4, .bool (Op.bytesLess a0_1.toList a1_1.toList))] [] rfl ⟨.inl rfl, trivial⟩ trivial ?_
  conv => whnf
  injection H with H; subst H
  exact ret_fz [] (rtA_eq rfl)
  conv => whnf
  refine Br.f ff_ ?_
  conv => whnf
  refine Br.f ff_ ?_
  conv => whnf
  refine Br.f ff_ ?_
  conv => whnf
  refine Br.f ff_ ?_
  conv => whnf
  refine Br.f ff_ ?_
  conv => whnf
  refine Br.f ff_ ?_
  conv => whnf
  refine Br.f ff_ ?_
  conv => whnf
  refine cut_ 184 [(4, .bool false)] [] rfl ⟨.inl rfl, trivial⟩ trivial ?_
  conv => whnf
  injection H with H; subst H
  exact ret_fz [] (rtA_eq rfl)
theorem spec_l2StuffsOk.l1_lp {F : (Exit → St → Prop) → St → Prop} {hv : List Tmp} {Q : Exit → St → Prop} {σ : St} {r : Bool} {k : Nat} {a0_0 : List ByteArray} {a0_1 : List S_impl_PlantFoe} {x4 : Int} (H : spec_l2StuffsOk.l1 k a0_0 a0_1 x4 = some r) (rn : List (Option Nat)) (h1 : Fits σ σ [] [(4, .int .i64 x4)] [] [] rn)
    (h2 : ∀ (k0 : Nat) (x4 : Int), k0 < k + 1 → spec_l2StuffsOk.l1 k0 a0_0 a0_1 x4 = some r → headN σ hv [] [(4, .int .i64 x4)] [] [] (F (fun e σ' => match e with | .normal => ∃ (y : Nat × Int) (rn : List (Option Nat)), (spec_l2StuffsOk.l1 y.1 a0_0 a0_1 y.2 = some r ∧ y.1 < k + 1) ∧ y.1 < k0 ∧ Fits σ σ' [] [(4, .int .i64 y.2)] [] [] rn | e => Q e σ'))) : Lp F hv Q σ := by
  unfold Lp
  refine ⟨Nat × Int, fun x => spec_l2StuffsOk.l1 x.1 a0_0 a0_1 x.2 = some r ∧ x.1 < k + 1, fun x => x.1, [], fun x => [(4, .int .i64 x.2)], fun x => [], fun x => [], ⟨(k, x4), rn, ⟨H, Nat.lt_succ_self _⟩, h1⟩, ?_⟩
  rintro ⟨k, x4⟩ ⟨H, hk⟩
  exact h2 k x4 hk H
theorem spec_l2StuffsOk.l0_lp {F : (Exit → St → Prop) → St → Prop} {hv : List Tmp} {Q : Exit → St → Prop} {σ : St} {r : Bool} {k : Nat} {a0_0 : List ByteArray} {a0_1 : List S_impl_PlantFoe} {x3 : Int} (H : spec_l2StuffsOk.l0 k a0_0 a0_1 x3 = some r) (rn : List (Option Nat)) (h1 : Fits σ σ [] [(3, .int .i64 x3)] [] [] rn)
    (h2 : ∀ (k0 : Nat) (x3 : Int), k0 < k + 1 → spec_l2StuffsOk.l0 k0 a0_0 a0_1 x3 = some r → headN σ hv [] [(3, .int .i64 x3)] [] [] (F (fun e σ' => match e with | .normal => ∃ (y : Nat × Int) (rn : List (Option Nat)), (spec_l2StuffsOk.l0 y.1 a0_0 a0_1 y.2 = some r ∧ y.1 < k + 1) ∧ y.1 < k0 ∧ Fits σ σ' [] [(3, .int .i64 y.2)] [] [] rn | e => Q e σ'))) : Lp F hv Q σ := by
  unfold Lp
  refine ⟨Nat × Int, fun x => spec_l2StuffsOk.l0 x.1 a0_0 a0_1 x.2 = some r ∧ x.1 < k + 1, fun x => x.1, [], fun x => [(3, .int .i64 x.2)], fun x => [], fun x => [], ⟨(k, x3), rn, ⟨H, Nat.lt_succ_self _⟩, h1⟩, ?_⟩
  rintro ⟨k, x3⟩ ⟨H, hk⟩
  exact h2 k x3 hk H
theorem spec_l2StuffsOk.ac {k : Nat} {a0_0 : List ByteArray} {a0_1 : List S_impl_PlantFoe} {a0_2 : List S_impl_PlantPlace} {a0_3 : List S_impl_PlantValve} {r : Bool} (H : spec_l2StuffsOk.f k a0_0 a0_1 a0_2 a0_3 = some r) : ACalls Try.prog G 187 [] [.agg [(sv_str a0_0), (sv_S_impl_PlantFoe a0_1), (sv_S_impl_PlantPlace a0_2), (sv_S_impl_PlantValve a0_3)]] [] (.bool r) := by
  refine acalls_of tok hP Try.func187 rfl (by kernel_rfl) [.tmp 2] rfl (by kernel_rfl) (Nat.le_of_ble_eq_true rfl) (.l .n (.l (.c .n (.l (.c .n .n) .n)) (.l (.l .n (.l .n (.l (.c .n (.l (.c .n .n) .n)) .n))) (.l (.l .n (.l (.c .n .n) (.l (.l .n (.c .n (.l (.c .n .n) .n))) .n))) .n)))) rfl ?_
  unfold spec_l2StuffsOk.f at H
  conv => whnf
  refine br_d H (fun c H => ?_) (fun c H => ?_)
  conv => whnf
  refine Br.t ft_ ?_
  conv => whnf
  refine Br.t ft_ ?_
  conv => whnf
  refine Br.t ft_ ?_
  conv => whnf
  refine Br.t ft_ ?_
  conv => whnf
  refine cut_ 96 [(1, .bp 0 0), (15, .bool true)] [(0, .box [(sv_str a0_0), (sv_S_impl_PlantFoe a0_1), (sv_S_impl_PlantPlace a0_2), (sv_S_impl_PlantValve a0_3)])] rfl ⟨.inl rfl, ⟨.inl rfl, trivial⟩⟩ ⟨rfl, trivial⟩ ?_
  conv => whnf
  refine Br.t rfl ?_
  conv => whnf
  refine cut_ 104 [(2, .bool false)] [] rfl ⟨.inl rfl, trivial⟩ trivial ?_
  conv => whnf
  injection H with H; subst H
  exact ret_fz [] (rtA_eq rfl)
  conv => whnf
  refine Br.f ff_ ?_
  conv => whnf
  refine Br.f ff_ ?_
  conv => whnf
  refine Br.f ff_ ?_
  conv => whnf
  refine Br.f ff_ ?_
  conv => whnf
  refine cut_ 96 [(1, .bp 0 0), (15, .bool (decide ((a0_1.length : Int) > 12)))] [(0, .box [(sv_str a0_0), (sv_S_impl_PlantFoe a0_1), (sv_S_impl_PlantPlace a0_2), (sv_S_impl_PlantValve a0_3)])] rfl ⟨.inl rfl, ⟨.inl rfl, trivial⟩⟩ ⟨rfl, trivial⟩ ?_
  conv => whnf
  refine br_d H (fun c H => ?_) (fun c H => ?_)
  conv => whnf
  refine cut_ 104 [(2, .bool false)] [] rfl ⟨.inl rfl, trivial⟩ trivial ?_
  conv => whnf
  injection H with H; subst H
  exact ret_fz [] (rtA_eq rfl)
  conv => whnf
  refine spec_l2StuffsOk.l0_lp (a0_0 := a0_0) (a0_1 := a0_1) (k := k) H [] (fits_of ⟨.inl ⟨rfl, rfl⟩, trivial⟩ trivial fi_ trivial rfl) ?_
  intro k x3 hk H; rcases k with _ | k; exact none_elim H; rw [spec_l2StuffsOk.l0] at H; conv => whnf
  refine br_d H (fun c H => ?_) (fun c H => ?_)
  conv => whnf
  refine nd_ H (fun c H => ?_)
  conv => whnf
  refine Nd.mk nf_ ?_
  conv => whnf
  refine El.mk (rdm_en_str _ _ nf_ nf_) ?_
  conv => whnf
  revert H; refine bind_elim (fun t247 A H => ?_)
  refine call_mk (spec_l2NameOk.ac A) (avAL_cons (avA_shut' rfl) (avAL_nil)) (Or.inl rfl) rfl rfl (Nat.le_of_ble_eq_true rfl) ?_
  conv => whnf
  refine br_nt H (fun c H => ?_) (fun c H => ?_)
  conv => whnf
  refine Br.f ff_ ?_
  conv => whnf
  refine Br.f ff_ ?_
  conv => whnf
  refine br_d H (fun c H => ?_) (fun c H => ?_)
  conv => whnf
  refine Br.t ft_ ?_
  conv => whnf
  refine Br.t ft_ ?_
  conv => whnf
  refine Br.t ft_ ?_
  conv => whnf
  refine Br.t ft_ ?_
  conv => whnf
  refine nd_ H (fun c H => ?_)
  conv => whnf
  refine nd_ H (fun c H => ?_)
  conv => whnf
  refine El.mk (rdm_en_str _ _ nf_ nf_) ?_
  conv => whnf
  refine Br.t ft_ ?_
  conv => whnf
  refine Br.t ft_ ?_
  conv => whnf
  refine Br.t ft_ ?_
  conv => whnf
  refine Br.t ft_ ?_
  conv => whnf
  refine Br.t ft_ ?_
  conv => whnf
  refine Nd.mk nf_ ?_
  conv => whnf
  refine Nd.mk nf_ ?_
  conv => whnf
  refine El.mk (rdm_en_str _ _ nf_ nf_) ?_
  conv => whnf
  refine Br.t ft_ ?_
  conv => whnf
  refine Br.t ft_ ?_
  conv => whnf
  refine Br.f ff_ ?_
  conv => whnf
  refine Br.t ft_ ?_
  conv => whnf
  refine Br.f ff_ ?_
  conv => whnf
  refine cut_ 344 [(1, .bp 0 0), (3, .int .i64 x3), (47, .bool (!(Op.bytesLess (rdOf ByteArray.empty a0_0 (wrap64 (x3 - 1))).toList (rdOf ByteArray.empty a0_0 x3).toList)))] [(0, .box [(sv_str a0_0), (sv_S_impl_PlantFoe a0_1), (sv_S_impl_PlantPlace a0_2), (sv_S_impl_PlantValve a0_3)])] rfl ⟨.inl rfl, ⟨.inl rfl, ⟨.inl rfl, trivial⟩⟩⟩ ⟨rfl, trivial⟩ ?_
  conv => whnf
  refine br_nt H (fun c H => ?_) (fun c H => ?_)
  conv => whnf
  exact ⟨(k, wrap64 (x3 + 1)), [], ⟨H, lt_⟩, lt_, (fits_of ⟨.inl ⟨rfl, rfl⟩, trivial⟩ trivial fi_ trivial rfl)⟩
  conv => whnf
  refine cut_ 352 [(2, .bool false)] [] rfl ⟨.inl rfl, trivial⟩ trivial ?_
  conv => whnf
  injection H with H; subst H
  exact ret_fz [] (rtA_eq rfl)
  conv => whnf
  refine Br.f ff_ ?_
  conv => whnf
  refine Br.f ff_ ?_
  conv => whnf
  refine Br.f ff_ ?_
  conv => whnf
  refine Br.f ff_ ?_
  conv => whnf
  refine Br.f ff_ ?_
  conv => whnf
  refine Br.f ff_ ?_
  conv => whnf
  refine Br.f ff_ ?_
  conv => whnf
  refine Br.f ff_ ?_
  conv => whnf
  refine Br.f ff_ ?_
  conv => whnf
  refine Br.f ff_ ?_
  conv => whnf
  refine Br.f ff_ ?_
  conv => whnf
  refine Br.f ff_ ?_
  conv => whnf
  refine Br.f ff_ ?_
  conv => whnf
  refine Br.f ff_ ?_
  conv => whnf
  refine cut_ 344 [(1, .bp 0 0), (3, .int .i64 x3), (47, .bool false)] [(0, .box [(sv_str a0_0), (sv_S_impl_PlantFoe a0_1), (sv_S_impl_PlantPlace a0_2), (sv_S_impl_PlantValve a0_3)])] rfl ⟨.inl rfl, ⟨.inl rfl, ⟨.inl rfl, trivial⟩⟩⟩ ⟨rfl, trivial⟩ ?_
  conv => whnf
  refine Br.f rfl ?_
  conv => whnf
  exact ⟨(k, wrap64 (x3 + 1)), [], ⟨H, lt_⟩, lt_, (fits_of ⟨.inl ⟨rfl, rfl⟩, trivial⟩ trivial fi_ trivial rfl)⟩
  conv => whnf
  refine Br.t ft_ ?_
  conv => whnf
  refine Br.t ft_ ?_
  conv => whnf
  refine Br.t ft_ ?_
  conv => whnf
  refine Br.t ft_ ?_
  conv => whnf
  refine cut_ 344 [(1, .bp 0 0), (3, .int .i64 x3), (47, .bool true)] [(0, .box [(sv_str a0_0), (sv_S_impl_PlantFoe a0_1), (sv_S_impl_PlantPlace a0_2), (sv_S_impl_PlantValve a0_3)])] rfl ⟨.inl rfl, ⟨.inl rfl, ⟨.inl rfl, trivial⟩⟩⟩ ⟨rfl, trivial⟩ ?_
  conv => whnf
  refine Br.t rfl ?_
  conv => whnf
  refine cut_ 352 [(2, .bool false)] [] rfl ⟨.inl rfl, trivial⟩ trivial ?_
  conv => whnf
  injection H with H; subst H
  exact ret_fz [] (rtA_eq rfl)
  conv => whnf
  refine spec_l2StuffsOk.l1_lp (a0_0 := a0_0) (a0_1 := a0_1) (k := k) H [] (fits_of ⟨.inl ⟨rfl, rfl⟩, trivial⟩ trivial fi_ trivial rfl) ?_
  intro k x4 hk H; rcases k with _ | k; exact none_elim H; rw [spec_l2StuffsOk.l1] at H; conv => whnf
  refine cut_ 192 [(1, .bp 0 0), (4, .int .i64 x4), (52, .bool (decide (x4 < (a0_1.length : Int))))] [(0, .box [(sv_str a0_0), (sv_S_impl_PlantFoe a0_1), (sv_S_impl_PlantPlace a0_2), (sv_S_impl_PlantValve a0_3)])] rfl ⟨.inl rfl, ⟨.inl rfl, ⟨.inl rfl, trivial⟩⟩⟩ ⟨rfl, trivial⟩ ?_
  conv => whnf
  refine br_d H (fun c H => ?_) (fun c H => ?_)
  conv => whnf
  refine nd_ H (fun c H => ?_)
  conv => whnf
  refine Nd.mk nf_ ?_
  conv => whnf
  refine El.mk (rdm_en_S_impl_PlantFoe _ _ nf_ nf_) ?_
  conv => whnf
  refine br_nt H (fun c H => ?_) (fun c H => ?_)
  conv => whnf
  refine Br.f ff_ ?_
  conv => whnf
  refine Br.f ff_ ?_
  conv => whnf
  refine Br.f ff_ ?_
  conv => whnf
  refine Br.f ff_ ?_
  conv => whnf
  revert H; refine bind_elim (fun t257 A H => ?_)
  refine call_mk (spec_l2Has.ac A) (avAL_cons (avA_shut' rfl) (avAL_cons (avA_shut' rfl) (avAL_nil))) (Or.inl rfl) rfl rfl (Nat.le_of_ble_eq_true rfl) ?_
  conv => whnf
  refine Br.f ff_ ?_
  conv => whnf
  refine Br.f ff_ ?_
  conv => whnf
  refine br_nt H (fun c H => ?_) (fun c H => ?_)
  conv => whnf
  refine Br.f ff_ ?_
  conv => whnf
  refine Br.f ff_ ?_
  conv => whnf
  refine Br.f ff_ ?_
  conv => whnf
  refine Br.f ff_ ?_
  conv => whnf
  revert H; refine bind_elim (fun t258 A H => ?_)
  refine call_mk (spec_l2Has.ac A) (avAL_cons (avA_shut' rfl) (avAL_cons (avA_shut' rfl) (avAL_nil))) (Or.inl rfl) rfl rfl (Nat.le_of_ble_eq_true rfl) ?_
  conv => whnf
  refine Br.f ff_ ?_
  conv => whnf
  refine Br.f ff_ ?_
  conv => whnf
  refine br_nt H (fun c H => ?_) (fun c H => ?_)
  conv => whnf
  refine Br.f ff_ ?_
  conv => whnf
  refine Br.f ff_ ?_
  conv => whnf
  refine br_d H (fun c H => ?_) (fun c H => ?_)
  conv => whnf
  refine Br.t ft_ ?_
  conv => whnf
  refine Br.t ft_ ?_
  conv => whnf
  refine Br.t ft_ ?_
  conv => whnf
  refine Br.t ft_ ?_
  conv => whnf
  refine nd_ H (fun c H => ?_)
  conv => whnf
  refine nd_ H (fun c H => ?_)
  conv => whnf
  refine El.mk (rdm_en_S_impl_PlantFoe _ _ nf_ nf_) ?_
  conv => whnf
  refine Br.t ft_ ?_
  conv => whnf
  refine Br.t ft_ ?_
  conv => whnf
  refine Br.t ft_ ?_
  conv => whnf
  revert H; refine bind_elim (fun t259 A H => ?_)
  refine call_mk (spec_l2Before.ac A) (avAL_cons (avA_agg (avL_cons (av_shut' rfl) (avL_cons (av_shut' rfl) (avL_nil)))) (avAL_cons (avA_agg (avL_cons (av_shut' rfl) (avL_cons (av_shut' rfl) (avL_nil)))) (avAL_nil))) (Or.inl rfl) rfl rfl (Nat.le_of_ble_eq_true rfl) ?_
  conv => whnf
  refine Br.t ft_ ?_
  conv => whnf
  refine Br.f ff_ ?_
  conv => whnf
  refine Br.t ft_ ?_
  conv => whnf
  refine Br.f ff_ ?_
  conv => whnf
  refine cut_ 536 [(1, .bp 0 0), (4, .int .i64 x4), (95, .bool (!t259))] [(0, .box [(sv_str a0_0), (sv_S_impl_PlantFoe a0_1), (sv_S_impl_PlantPlace a0_2), (sv_S_impl_PlantValve a0_3)])] rfl ⟨.inl rfl, ⟨.inl rfl, ⟨.inl rfl, trivial⟩⟩⟩ ⟨rfl, trivial⟩ ?_
  conv => whnf
  refine br_nt H (fun c H => ?_) (fun c H => ?_)
  conv => whnf
  exact ⟨(k, wrap64 (x4 + 1)), [], ⟨H, lt_⟩, lt_, (fits_of ⟨.inl ⟨rfl, rfl⟩, trivial⟩ trivial fi_ trivial rfl)⟩
  conv => whnf
  refine cut_ 544 [(2, .bool false)] [] rfl ⟨.inl rfl, trivial⟩ trivial ?_
  conv => whnf
  injection H with H; subst H
  exact ret_fz [] (rtA_eq rfl)
  conv => whnf
  refine Br.f ff_ ?_
  conv => whnf
  refine Br.f ff_ ?_
  conv => whnf
  refine Br.f ff_ ?_
  conv => whnf
  refine Br.f ff_ ?_
  conv => whnf
  refine Br.f ff_ ?_
  conv => whnf
  refine Br.f ff_ ?_
  conv => whnf
  refine Br.f ff_ ?_
  conv => whnf
  refine Br.f ff_ ?_
  conv => whnf
  refine Br.f ff_ ?_
  conv => whnf
  refine Br.f ff_ ?_
  conv => whnf
  refine Br.f ff_ ?_
  conv => whnf
  refine cut_ 536 [(1, .bp 0 0), (4, .int .i64 x4), (95, .bool false)] [(0, .box [(sv_str a0_0), (sv_S_impl_PlantFoe a0_1), (sv_S_impl_PlantPlace a0_2), (sv_S_impl_PlantValve a0_3)])] rfl ⟨.inl rfl, ⟨.inl rfl, ⟨.inl rfl, trivial⟩⟩⟩ ⟨rfl, trivial⟩ ?_
  conv => whnf
  refine Br.f rfl ?_
  conv => whnf
  exact ⟨(k, wrap64 (x4 + 1)), [], ⟨H, lt_⟩, lt_, (fits_of ⟨.inl ⟨rfl, rfl⟩, trivial⟩ trivial fi_ trivial rfl)⟩
  conv => whnf
  refine Br.t ft_ ?_
  conv => whnf
  refine Br.t ft_ ?_
  conv => whnf
  refine Br.t ft_ ?_
  conv => whnf
  refine Br.t ft_ ?_
  conv => whnf
  refine cut_ 536 [(1, .bp 0 0), (4, .int .i64 x4), (95, .bool true)] [(0, .box [(sv_str a0_0), (sv_S_impl_PlantFoe a0_1), (sv_S_impl_PlantPlace a0_2), (sv_S_impl_PlantValve a0_3)])] rfl ⟨.inl rfl, ⟨.inl rfl, ⟨.inl rfl, trivial⟩⟩⟩ ⟨rfl, trivial⟩ ?_
  conv => whnf
  refine Br.t rfl ?_
  conv => whnf
  refine cut_ 544 [(2, .bool false)] [] rfl ⟨.inl rfl, trivial⟩ trivial ?_
  conv => whnf
  injection H with H; subst H
  exact ret_fz [] (rtA_eq rfl)
  conv => whnf
  refine Br.t ft_ ?_
  conv => whnf
  refine Br.t ft_ ?_
  conv => whnf
  refine Br.t ft_ ?_
  conv => whnf
  refine Br.t ft_ ?_
  conv => whnf
  refine Br.t ft_ ?_
  conv => whnf
  refine Br.t ft_ ?_
  conv => whnf
  refine Br.t rfl ?_
  conv => whnf
  refine Br.t rfl ?_
  conv => whnf
  refine Br.t rfl ?_
  conv => whnf
  refine Br.t rfl ?_
  conv => whnf
  refine Br.t rfl ?_
  conv => whnf
  refine cut_ 536 [(1, .bp 0 0), (4, .int .i64 x4), (95, .bool true)] [(0, .box [(sv_str a0_0), (sv_S_impl_PlantFoe a0_1), (sv_S_impl_PlantPlace a0_2), (sv_S_impl_PlantValve a0_3)])] rfl ⟨.inl rfl, ⟨.inl rfl, ⟨.inl rfl, trivial⟩⟩⟩ ⟨rfl, trivial⟩ ?_
  conv => whnf
  refine Br.t rfl ?_
  conv => whnf
  refine cut_ 544 [(2, .bool false)] [] rfl ⟨.inl rfl, trivial⟩ trivial ?_
  conv => whnf
  injection H with H; subst H
  exact ret_fz [] (rtA_eq rfl)
  conv => whnf
  refine Br.t ft_ ?_
  conv => whnf
  refine Br.t ft_ ?_
  conv => whnf
  refine Br.t ft_ ?_
  conv => whnf
  refine Br.t ft_ ?_
  conv => whnf
  refine Br.t ft_ ?_
  conv => whnf
  refine Br.t ft_ ?_
  conv => whnf
  refine Br.t rfl ?_
  conv => whnf
  refine Br.t rfl ?_
  conv => whnf
  refine Br.t rfl ?_
  conv => whnf
  refine Br.t rfl ?_
  conv => whnf
  refine Br.t rfl ?_
  conv => whnf
  refine Br.t rfl ?_
  conv => whnf
  refine Br.t rfl ?_
  conv => whnf
  refine Br.t rfl ?_
  conv => whnf
  refine Br.t rfl ?_
  conv => whnf
  refine Br.t rfl ?_
  conv => whnf
  refine Br.t rfl ?_
  conv => whnf
  refine Br.t rfl ?_
  conv => whnf
  refine cut_ 536 [(1, .bp 0 0), (4, .int .i64 x4), (95, .bool true)] [(0, .box [(sv_str a0_0), (sv_S_impl_PlantFoe a0_1), (sv_S_impl_PlantPlace a0_2), (sv_S_impl_PlantValve a0_3)])] rfl ⟨.inl rfl, ⟨.inl rfl, ⟨.inl rfl, trivial⟩⟩⟩ ⟨rfl, trivial⟩ ?_
  conv => whnf
  refine Br.t rfl ?_
  conv => whnf
  refine cut_ 544 [(2, .bool false)] [] rfl ⟨.inl rfl, trivial⟩ trivial ?_
  conv => whnf
  injection H with H; subst H
  exact ret_fz [] (rtA_eq rfl)
  conv => whnf
  injection H with H; subst H
  exact ret_fz [] (rtA_eq rfl)
theorem spec_l2PlacesOk.l0_lp {F : (Exit → St → Prop) → St → Prop} {hv : List Tmp} {Q : Exit → St → Prop} {σ : St} {r : Bool} {k : Nat} {a0_2 : List S_impl_PlantPlace} {x3 : Int} (H : spec_l2PlacesOk.l0 k a0_2 x3 = some r) (rn : List (Option Nat)) (h1 : Fits σ σ [] [(3, .int .i64 x3)] [] [] rn)
    (h2 : ∀ (k0 : Nat) (x3 : Int), k0 < k + 1 → spec_l2PlacesOk.l0 k0 a0_2 x3 = some r → headN σ hv [] [(3, .int .i64 x3)] [] [] (F (fun e σ' => match e with | .normal => ∃ (y : Nat × Int) (rn : List (Option Nat)), (spec_l2PlacesOk.l0 y.1 a0_2 y.2 = some r ∧ y.1 < k + 1) ∧ y.1 < k0 ∧ Fits σ σ' [] [(3, .int .i64 y.2)] [] [] rn | e => Q e σ'))) : Lp F hv Q σ := by
  unfold Lp
  refine ⟨Nat × Int, fun x => spec_l2PlacesOk.l0 x.1 a0_2 x.2 = some r ∧ x.1 < k + 1, fun x => x.1, [], fun x => [(3, .int .i64 x.2)], fun x => [], fun x => [], ⟨(k, x3), rn, ⟨H, Nat.lt_succ_self _⟩, h1⟩, ?_⟩
  rintro ⟨k, x3⟩ ⟨H, hk⟩
  exact h2 k x3 hk H
theorem spec_l2PlacesOk.ac {k : Nat} {a0_0 : List ByteArray} {a0_1 : List S_impl_PlantFoe} {a0_2 : List S_impl_PlantPlace} {a0_3 : List S_impl_PlantValve} {r : Bool} (H : spec_l2PlacesOk.f k a0_0 a0_1 a0_2 a0_3 = some r) : ACalls Try.prog G 188 [] [.agg [(sv_str a0_0), (sv_S_impl_PlantFoe a0_1), (sv_S_impl_PlantPlace a0_2), (sv_S_impl_PlantValve a0_3)]] [] (.bool r) := by
  refine acalls_of tok hP Try.func188 rfl (by kernel_rfl) [.tmp 2] rfl (by kernel_rfl) (Nat.le_of_ble_eq_true rfl) (.l .n (.l .n (.l (.l .n (.l (.c .n .n) (.l (.l .n (.c .n (.l (.c .n .n) .n))) .n))) .n))) rfl ?_
  unfold spec_l2PlacesOk.f at H
  conv => whnf
  refine br_d H (fun c H => ?_) (fun c H => ?_)
  conv => whnf
  injection H with H; subst H
  exact ret_fz [] (rtA_eq rfl)
  conv => whnf
  refine spec_l2PlacesOk.l0_lp (a0_2 := a0_2) (k := k) H [] (fits_of ⟨.inl ⟨rfl, rfl⟩, trivial⟩ trivial fi_ trivial rfl) ?_
  intro k x3 hk H; rcases k with _ | k; exact none_elim H; rw [spec_l2PlacesOk.l0] at H; conv => whnf
  refine cut_ 96 [(1, .bp 0 0), (3, .int .i64 x3), (13, .bool (decide (x3 < (a0_2.length : Int))))] [(0, .box [(sv_str a0_0), (sv_S_impl_PlantFoe a0_1), (sv_S_impl_PlantPlace a0_2), (sv_S_impl_PlantValve a0_3)])] rfl ⟨.inl rfl, ⟨.inl rfl, ⟨.inl rfl, trivial⟩⟩⟩ ⟨rfl, trivial⟩ ?_
  conv => whnf
  refine br_d H (fun c H => ?_) (fun c H => ?_)
  conv => whnf
  refine nd_ H (fun c H => ?_)
  conv => whnf
  refine Nd.mk nf_ ?_
  conv => whnf
  refine El.mk (rdm_en_S_impl_PlantPlace _ _ nf_ nf_) ?_
  conv => whnf
  revert H; refine bind_elim (fun t282 A H => ?_)
  refine call_mk (spec_l2NameOk.ac A) (avAL_cons (avA_shut' rfl) (avAL_nil)) (Or.inl rfl) rfl rfl (Nat.le_of_ble_eq_true rfl) ?_
  conv => whnf
  refine br_nt H (fun c H => ?_) (fun c H => ?_)
  conv => whnf
  refine Br.f ff_ ?_
  conv => whnf
  refine Br.f ff_ ?_
  conv => whnf
  refine br_d H (fun c H => ?_) (fun c H => ?_)
  conv => whnf
  refine Br.t ft_ ?_
  conv => whnf
  refine Br.t ft_ ?_
  conv => whnf
  refine Br.t ft_ ?_
  conv => whnf
  refine Br.t ft_ ?_
  conv => whnf
  refine nd_ H (fun c H => ?_)
  conv => whnf
  refine nd_ H (fun c H => ?_)
  conv => whnf
  refine El.mk (rdm_en_S_impl_PlantPlace _ _ nf_ nf_) ?_
  conv => whnf
  refine Br.t ft_ ?_
  conv => whnf
  refine Br.t ft_ ?_
  conv => whnf
  refine Br.t ft_ ?_
  conv => whnf
  refine Br.t ft_ ?_
  conv => whnf
  refine Br.t ft_ ?_
  conv => whnf
  refine Br.f ff_ ?_
  conv => whnf
  refine Br.t ft_ ?_
  conv => whnf
  refine Br.f ff_ ?_
  conv => whnf
  refine br_nt H (fun c H => ?_) (fun c H => ?_)
  conv => whnf
  refine Br.f ff_ ?_
  conv => whnf
  refine Br.f ff_ ?_
  conv => whnf
  revert H; refine bind_elim (fun t283 A H => ?_)
  refine call_mk (spec_l1In.ac A) (avAL_cons (avA_shut' rfl) (avAL_cons (avA_shut' rfl) (avAL_cons (avA_shut' rfl) (avAL_nil)))) (Or.inl rfl) rfl rfl (Nat.le_of_ble_eq_true rfl) ?_
  conv => whnf
  refine Br.f ff_ ?_
  conv => whnf
  refine Br.f ff_ ?_
  conv => whnf
  refine br_nt H (fun c H => ?_) (fun c H => ?_)
  conv => whnf
  refine Br.f ff_ ?_
  conv => whnf
  refine Br.f ff_ ?_
  conv => whnf
  revert H; refine bind_elim (fun t284 A H => ?_)
  refine call_mk (spec_l2NameOk.ac A) (avAL_cons (avA_shut' rfl) (avAL_nil)) (Or.inl rfl) rfl rfl (Nat.le_of_ble_eq_true rfl) ?_
  conv => whnf
  refine Br.f ff_ ?_
  conv => whnf
  refine Br.f ff_ ?_
  conv => whnf
  refine cut_ 408 [(1, .bp 0 0), (3, .int .i64 x3), (52, .bool (!t284))] [(0, .box [(sv_str a0_0), (sv_S_impl_PlantFoe a0_1), (sv_S_impl_PlantPlace a0_2), (sv_S_impl_PlantValve a0_3)])] rfl ⟨.inl rfl, ⟨.inl rfl, ⟨.inl rfl, trivial⟩⟩⟩ ⟨rfl, trivial⟩ ?_
  conv => whnf
  refine br_nt H (fun c H => ?_) (fun c H => ?_)
  conv => whnf
  exact ⟨(k, wrap64 (x3 + 1)), [], ⟨H, lt_⟩, lt_, (fits_of ⟨.inl ⟨rfl, rfl⟩, trivial⟩ trivial fi_ trivial rfl)⟩
  conv => whnf
  refine cut_ 416 [(2, .bool false)] [] rfl ⟨.inl rfl, trivial⟩ trivial ?_
  conv => whnf
  injection H with H; subst H
  exact ret_fz [] (rtA_eq rfl)
  conv => whnf
  refine Br.t ft_ ?_
  conv => whnf
  refine Br.t ft_ ?_
  conv => whnf
  refine Br.t ft_ ?_
  conv => whnf
  refine Br.t ft_ ?_
  conv => whnf
  refine cut_ 408 [(1, .bp 0 0), (3, .int .i64 x3), (52, .bool true)] [(0, .box [(sv_str a0_0), (sv_S_impl_PlantFoe a0_1), (sv_S_impl_PlantPlace a0_2), (sv_S_impl_PlantValve a0_3)])] rfl ⟨.inl rfl, ⟨.inl rfl, ⟨.inl rfl, trivial⟩⟩⟩ ⟨rfl, trivial⟩ ?_
  conv => whnf
  refine Br.t rfl ?_
  conv => whnf
  refine cut_ 416 [(2, .bool false)] [] rfl ⟨.inl rfl, trivial⟩ trivial ?_
  conv => whnf
  injection H with H; subst H
  exact ret_fz [] (rtA_eq rfl)
  conv => whnf
  refine Br.t ft_ ?_
  conv => whnf
  refine Br.t ft_ ?_
  conv => whnf
  refine Br.t ft_ ?_
  conv => whnf
  refine Br.t ft_ ?_
  conv => whnf
  refine Br.t rfl ?_
  conv => whnf
  refine Br.t rfl ?_
  conv => whnf
  refine Br.t rfl ?_
  conv => whnf
  refine Br.t rfl ?_
  conv => whnf
  refine Br.t rfl ?_
  conv => whnf
  refine cut_ 408 [(1, .bp 0 0), (3, .int .i64 x3), (52, .bool true)] [(0, .box [(sv_str a0_0), (sv_S_impl_PlantFoe a0_1), (sv_S_impl_PlantPlace a0_2), (sv_S_impl_PlantValve a0_3)])] rfl ⟨.inl rfl, ⟨.inl rfl, ⟨.inl rfl, trivial⟩⟩⟩ ⟨rfl, trivial⟩ ?_
  conv => whnf
  refine Br.t rfl ?_
  conv => whnf
  refine cut_ 416 [(2, .bool false)] [] rfl ⟨.inl rfl, trivial⟩ trivial ?_
  conv => whnf
  injection H with H; subst H
  exact ret_fz [] (rtA_eq rfl)
  conv => whnf
  refine Br.f ff_ ?_
  conv => whnf
  refine Br.f ff_ ?_
  conv => whnf
  refine Br.f ff_ ?_
  conv => whnf
  refine Br.f ff_ ?_
  conv => whnf
  refine Br.f ff_ ?_
  conv => whnf
  refine Br.f ff_ ?_
  conv => whnf
  refine Br.f ff_ ?_
  conv => whnf
  refine Br.f ff_ ?_
  conv => whnf
  refine Br.f ff_ ?_
  conv => whnf
  refine Br.f ff_ ?_
  conv => whnf
  refine Br.f ff_ ?_
  conv => whnf
  refine Br.f ff_ ?_
  conv => whnf
  refine Br.f rfl ?_
  conv => whnf
  refine Br.f rfl ?_
  conv => whnf
  refine Br.f rfl ?_
  conv => whnf
  revert H; refine bind_elim (fun t285 A H => ?_)
  refine call_mk (spec_l1In.ac A) (avAL_cons (avA_shut' rfl) (avAL_cons (avA_shut' rfl) (avAL_cons (avA_shut' rfl) (avAL_nil)))) (Or.inl rfl) rfl rfl (Nat.le_of_ble_eq_true rfl) ?_
  conv => whnf
  refine Br.f rfl ?_
  conv => whnf
  refine Br.f rfl ?_
  conv => whnf
  refine br_nt H (fun c H => ?_) (fun c H => ?_)
  conv => whnf
  refine Br.f ff_ ?_
  conv => whnf
  refine Br.f ff_ ?_
  conv => whnf
  revert H; refine bind_elim (fun t286 A H => ?_)
  refine call_mk (spec_l2NameOk.ac A) (avAL_cons (avA_shut' rfl) (avAL_nil)) (Or.inl rfl) rfl rfl (Nat.le_of_ble_eq_true rfl) ?_
  conv => whnf
  refine Br.f ff_ ?_
  conv => whnf
  refine Br.f ff_ ?_
  conv => whnf
  refine cut_ 408 [(1, .bp 0 0), (3, .int .i64 x3), (52, .bool (!t286))] [(0, .box [(sv_str a0_0), (sv_S_impl_PlantFoe a0_1), (sv_S_impl_PlantPlace a0_2), (sv_S_impl_PlantValve a0_3)])] rfl ⟨.inl rfl, ⟨.inl rfl, ⟨.inl rfl, trivial⟩⟩⟩ ⟨rfl, trivial⟩ ?_
  conv => whnf
  refine br_nt H (fun c H => ?_) (fun c H => ?_)
  conv => whnf
  exact ⟨(k, wrap64 (x3 + 1)), [], ⟨H, lt_⟩, lt_, (fits_of ⟨.inl ⟨rfl, rfl⟩, trivial⟩ trivial fi_ trivial rfl)⟩
  conv => whnf
  refine cut_ 416 [(2, .bool false)] [] rfl ⟨.inl rfl, trivial⟩ trivial ?_
  conv => whnf
  injection H with H; subst H
  exact ret_fz [] (rtA_eq rfl)
  conv => whnf
  refine Br.t ft_ ?_
  conv => whnf
  refine Br.t ft_ ?_
  conv => whnf
  refine Br.t ft_ ?_
  conv => whnf
  refine Br.t ft_ ?_
  conv => whnf
  refine cut_ 408 [(1, .bp 0 0), (3, .int .i64 x3), (52, .bool true)] [(0, .box [(sv_str a0_0), (sv_S_impl_PlantFoe a0_1), (sv_S_impl_PlantPlace a0_2), (sv_S_impl_PlantValve a0_3)])] rfl ⟨.inl rfl, ⟨.inl rfl, ⟨.inl rfl, trivial⟩⟩⟩ ⟨rfl, trivial⟩ ?_
  conv => whnf
  refine Br.t rfl ?_
  conv => whnf
  refine cut_ 416 [(2, .bool false)] [] rfl ⟨.inl rfl, trivial⟩ trivial ?_
  conv => whnf
  injection H with H; subst H
  exact ret_fz [] (rtA_eq rfl)
  conv => whnf
  refine Br.t ft_ ?_
  conv => whnf
  refine Br.t ft_ ?_
  conv => whnf
  refine Br.t ft_ ?_
  conv => whnf
  refine Br.t ft_ ?_
  conv => whnf
  refine Br.t rfl ?_
  conv => whnf
  refine Br.t rfl ?_
  conv => whnf
  refine Br.t rfl ?_
  conv => whnf
  refine Br.t rfl ?_
  conv => whnf
  refine Br.t rfl ?_
  conv => whnf
  refine Br.t rfl ?_
  conv => whnf
  refine Br.t rfl ?_
  conv => whnf
  refine Br.t rfl ?_
  conv => whnf
  refine Br.t rfl ?_
  conv => whnf
  refine Br.t rfl ?_
  conv => whnf
  refine cut_ 408 [(1, .bp 0 0), (3, .int .i64 x3), (52, .bool true)] [(0, .box [(sv_str a0_0), (sv_S_impl_PlantFoe a0_1), (sv_S_impl_PlantPlace a0_2), (sv_S_impl_PlantValve a0_3)])] rfl ⟨.inl rfl, ⟨.inl rfl, ⟨.inl rfl, trivial⟩⟩⟩ ⟨rfl, trivial⟩ ?_
  conv => whnf
  refine Br.t rfl ?_
  conv => whnf
  refine cut_ 416 [(2, .bool false)] [] rfl ⟨.inl rfl, trivial⟩ trivial ?_
  conv => whnf
  injection H with H; subst H
  exact ret_fz [] (rtA_eq rfl)
  conv => whnf
  injection H with H; subst H
  exact ret_fz [] (rtA_eq rfl)
theorem spec_l2Place.l0_lp {F : (Exit → St → Prop) → St → Prop} {hv : List Tmp} {Q : Exit → St → Prop} {σ : St} {r : Int} {k : Nat} {a0_2 : List S_impl_PlantPlace} {a1 : ByteArray} {x5 : Int} (H : spec_l2Place.l0 k a0_2 a1 x5 = some r) (rn : List (Option Nat)) (h1 : Fits σ σ [] [(5, .int .i64 x5)] [] [] rn)
    (h2 : ∀ (k0 : Nat) (x5 : Int), k0 < k + 1 → spec_l2Place.l0 k0 a0_2 a1 x5 = some r → headN σ hv [] [(5, .int .i64 x5)] [] [] (F (fun e σ' => match e with | .normal => ∃ (y : Nat × Int) (rn : List (Option Nat)), (spec_l2Place.l0 y.1 a0_2 a1 y.2 = some r ∧ y.1 < k + 1) ∧ y.1 < k0 ∧ Fits σ σ' [] [(5, .int .i64 y.2)] [] [] rn | e => Q e σ'))) : Lp F hv Q σ := by
  unfold Lp
  refine ⟨Nat × Int, fun x => spec_l2Place.l0 x.1 a0_2 a1 x.2 = some r ∧ x.1 < k + 1, fun x => x.1, [], fun x => [(5, .int .i64 x.2)], fun x => [], fun x => [], ⟨(k, x5), rn, ⟨H, Nat.lt_succ_self _⟩, h1⟩, ?_⟩
  rintro ⟨k, x5⟩ ⟨H, hk⟩
  exact h2 k x5 hk H
theorem spec_l2Place.ac {k : Nat} {a0_0 : List ByteArray} {a0_1 : List S_impl_PlantFoe} {a0_2 : List S_impl_PlantPlace} {a0_3 : List S_impl_PlantValve} {a1 : ByteArray} {r : Int} (H : spec_l2Place.f k a0_0 a0_1 a0_2 a0_3 a1 = some r) : ACalls Try.prog G 215 [] [.agg [(sv_str a0_0), (sv_S_impl_PlantFoe a0_1), (sv_S_impl_PlantPlace a0_2), (sv_S_impl_PlantValve a0_3)], .str a1] [] (.int .i64 r) := by
  refine acalls_of tok hP Try.func215 rfl (by kernel_rfl) [.tmp 4] rfl (by kernel_rfl) (Nat.le_of_ble_eq_true rfl) (.l .n (.l (.l .n (.l .n (.l (.c .n .n) .n))) .n)) rfl ?_
  unfold spec_l2Place.f at H
  conv => whnf
  refine spec_l2Place.l0_lp (a0_2 := a0_2) (a1 := a1) (k := k) H [] (fits_of ⟨.inl ⟨rfl, rfl⟩, trivial⟩ trivial fi_ trivial rfl) ?_
  intro k x5 hk H; rcases k with _ | k; exact none_elim H; rw [spec_l2Place.l0] at H; conv => whnf
  refine br_d H (fun c H => ?_) (fun c H => ?_)
  conv => whnf
  refine nd_ H (fun c H => ?_)
  conv => whnf
  refine Nd.mk nf_ ?_
  conv => whnf
  refine El.mk (rdm_en_S_impl_PlantPlace _ _ nf_ nf_) ?_
  conv => whnf
  refine cut_ 128 [(1, .str a1), (2, .bp 0 0), (5, .int .i64 x5), (20, .bool (decide (((rd_impl_PlantPlace a0_2 x5).f0).toList = a1.toList)))] [(0, .box [(sv_str a0_0), (sv_S_impl_PlantFoe a0_1), (sv_S_impl_PlantPlace a0_2), (sv_S_impl_PlantValve a0_3)])] rfl ⟨.inl rfl, ⟨.inl rfl, ⟨.inl rfl, ⟨.inl rfl, trivial⟩⟩⟩⟩ ⟨rfl, trivial⟩ ?_
  conv => whnf
  refine br_d H (fun c H => ?_) (fun c H => ?_)
  conv => whnf
  injection H with H; subst H
  exact ret_fz [] (rtA_eq rfl)
  conv => whnf
  exact ⟨(k, wrap64 (x5 + 1)), [], ⟨H, lt_⟩, lt_, (fits_of ⟨.inl ⟨rfl, rfl⟩, trivial⟩ trivial fi_ trivial rfl)⟩
  conv => whnf
  injection H with H; subst H
  exact ret_fz [] (rtA_eq rfl)
theorem spec_l2ValvesOk.l0_lp {F : (Exit → St → Prop) → St → Prop} {hv : List Tmp} {Q : Exit → St → Prop} {σ : St} {r : Bool} {k : Nat} {a0_0 : List ByteArray} {a0_1 : List S_impl_PlantFoe} {a0_2 : List S_impl_PlantPlace} {a0_3 : List S_impl_PlantValve} {x3 : Int} (H : spec_l2ValvesOk.l0 k a0_0 a0_1 a0_2 a0_3 x3 = some r) (rn : List (Option Nat)) (h1 : Fits σ σ [] [(3, .int .i64 x3)] [] [] rn)
    (h2 : ∀ (k0 : Nat) (x3 : Int), k0 < k + 1 → spec_l2ValvesOk.l0 k0 a0_0 a0_1 a0_2 a0_3 x3 = some r → headN σ hv [] [(3, .int .i64 x3)] [] [] (F (fun e σ' => match e with | .normal => ∃ (y : Nat × Int) (rn : List (Option Nat)), (spec_l2ValvesOk.l0 y.1 a0_0 a0_1 a0_2 a0_3 y.2 = some r ∧ y.1 < k + 1) ∧ y.1 < k0 ∧ Fits σ σ' [] [(3, .int .i64 y.2)] [] [] rn | e => Q e σ'))) : Lp F hv Q σ := by
  unfold Lp
  refine ⟨Nat × Int, fun x => spec_l2ValvesOk.l0 x.1 a0_0 a0_1 a0_2 a0_3 x.2 = some r ∧ x.1 < k + 1, fun x => x.1, [], fun x => [(3, .int .i64 x.2)], fun x => [], fun x => [], ⟨(k, x3), rn, ⟨H, Nat.lt_succ_self _⟩, h1⟩, ?_⟩
  rintro ⟨k, x3⟩ ⟨H, hk⟩
  exact h2 k x3 hk H
theorem spec_l2ValvesOk.ac {k : Nat} {a0_0 : List ByteArray} {a0_1 : List S_impl_PlantFoe} {a0_2 : List S_impl_PlantPlace} {a0_3 : List S_impl_PlantValve} {r : Bool} (H : spec_l2ValvesOk.f k a0_0 a0_1 a0_2 a0_3 = some r) : ACalls Try.prog G 189 [] [.agg [(sv_str a0_0), (sv_S_impl_PlantFoe a0_1), (sv_S_impl_PlantPlace a0_2), (sv_S_impl_PlantValve a0_3)]] [] (.bool r) := by
  refine acalls_of tok hP Try.func189 rfl (by kernel_rfl) [.tmp 2] rfl (by kernel_rfl) (Nat.le_of_ble_eq_true rfl) (.l .n (.l .n (.l (.l .n (.l (.c .n .n) (.l (.l .n (.c .n (.l (.c .n .n) .n))) .n))) .n))) rfl ?_
  unfold spec_l2ValvesOk.f at H
  conv => whnf
  refine br_d H (fun c H => ?_) (fun c H => ?_)
  conv => whnf
  injection H with H; subst H
  exact ret_fz [] (rtA_eq rfl)
  conv => whnf
  refine spec_l2ValvesOk.l0_lp (a0_0 := a0_0) (a0_1 := a0_1) (a0_2 := a0_2) (a0_3 := a0_3) (k := k) H [] (fits_of ⟨.inl ⟨rfl, rfl⟩, trivial⟩ trivial fi_ trivial rfl) ?_
  intro k x3 hk H; rcases k with _ | k; exact none_elim H; rw [spec_l2ValvesOk.l0] at H; conv => whnf
  refine cut_ 96 [(1, .bp 0 0), (3, .int .i64 x3), (13, .bool (decide (x3 < (a0_3.length : Int))))] [(0, .box [(sv_str a0_0), (sv_S_impl_PlantFoe a0_1), (sv_S_impl_PlantPlace a0_2), (sv_S_impl_PlantValve a0_3)])] rfl ⟨.inl rfl, ⟨.inl rfl, ⟨.inl rfl, trivial⟩⟩⟩ ⟨rfl, trivial⟩ ?_
  conv => whnf
  refine br_d H (fun c H => ?_) (fun c H => ?_)
  conv => whnf
  refine nd_ H (fun c H => ?_)
  conv => whnf
  refine Nd.mk nf_ ?_
  conv => whnf
  refine El.mk (rdm_en_S_impl_PlantValve _ _ nf_ nf_) ?_
  conv => whnf
  revert H; refine bind_elim (fun t325 A H => ?_)
  refine call_mk (spec_l2NameOk.ac A) (avAL_cons (avA_shut' rfl) (avAL_nil)) (Or.inl rfl) rfl rfl (Nat.le_of_ble_eq_true rfl) ?_
  conv => whnf
  refine br_nt H (fun c H => ?_) (fun c H => ?_)
  conv => whnf
  refine Br.f ff_ ?_
  conv => whnf
  refine Br.f ff_ ?_
  conv => whnf
  refine br_d H (fun c H => ?_) (fun c H => ?_)
  conv => whnf
  refine Br.t ft_ ?_
  conv => whnf
  refine Br.t ft_ ?_
  conv => whnf
  refine Br.t ft_ ?_
  conv => whnf
  refine Br.t ft_ ?_
  conv => whnf
  refine nd_ H (fun c H => ?_)
  conv => whnf
  refine nd_ H (fun c H => ?_)
  conv => whnf
  refine El.mk (rdm_en_S_impl_PlantValve _ _ nf_ nf_) ?_
  conv => whnf
  refine Br.t ft_ ?_
  conv => whnf
  refine Br.t ft_ ?_
  conv => whnf
  refine Br.t ft_ ?_
  conv => whnf
  refine Br.t ft_ ?_
  conv => whnf
  refine Br.t ft_ ?_
  conv => whnf
  refine Br.f ff_ ?_
  conv => whnf
  refine Br.t ft_ ?_
  conv => whnf
  refine Br.f ff_ ?_
  conv => whnf
  refine br_nt H (fun c H => ?_) (fun c H => ?_)
  conv => whnf
  refine Br.f ff_ ?_
  conv => whnf
  refine Br.f ff_ ?_
  conv => whnf
  refine Br.f ff_ ?_
  conv => whnf
  refine Br.f ff_ ?_
  conv => whnf
  refine Br.f ff_ ?_
  conv => whnf
  refine br_nt H (fun c H => ?_) (fun c H => ?_)
  conv => whnf
  refine Br.f ff_ ?_
  conv => whnf
  refine Br.f ff_ ?_
  conv => whnf
  refine Br.f ff_ ?_
  conv => whnf
  revert H; refine bind_elim (fun t326 A H => ?_)
  refine call_mk (spec_l2Place.ac A) (avAL_cons (avA_agg (avL_cons (av_shut' rfl) (avL_cons (av_shut' rfl) (avL_cons (av_shut' rfl) (avL_cons (av_shut' rfl) (avL_nil)))))) (avAL_cons (avA_shut' rfl) (avAL_nil))) (Or.inl rfl) rfl rfl (Nat.le_of_ble_eq_true rfl) ?_
  conv => whnf
  refine Br.f ff_ ?_
  conv => whnf
  refine Br.f ff_ ?_
  conv => whnf
  refine br_d H (fun c H => ?_) (fun c H => ?_)
  conv => whnf
  refine Br.t ft_ ?_
  conv => whnf
  refine Br.t ft_ ?_
  conv => whnf
  refine Br.t ft_ ?_
  conv => whnf
  refine Br.t ft_ ?_
  conv => whnf
  refine Br.t ft_ ?_
  conv => whnf
  refine Br.t rfl ?_
  conv => whnf
  refine Br.t rfl ?_
  conv => whnf
  refine Br.t rfl ?_
  conv => whnf
  refine Br.t rfl ?_
  conv => whnf
  refine Br.t rfl ?_
  conv => whnf
  refine cut_ 528 [(1, .bp 0 0), (3, .int .i64 x3), (67, .bool true)] [(0, .box [(sv_str a0_0), (sv_S_impl_PlantFoe a0_1), (sv_S_impl_PlantPlace a0_2), (sv_S_impl_PlantValve a0_3)])] rfl ⟨.inl rfl, ⟨.inl rfl, ⟨.inl rfl, trivial⟩⟩⟩ ⟨rfl, trivial⟩ ?_
  conv => whnf
  refine Br.t rfl ?_
  conv => whnf
  refine cut_ 536 [(2, .bool false)] [] rfl ⟨.inl rfl, trivial⟩ trivial ?_
  conv => whnf
  injection H with H; subst H
  exact ret_fz [] (rtA_eq rfl)
  conv => whnf
  refine Br.f ff_ ?_
  conv => whnf
  refine Br.f ff_ ?_
  conv => whnf
  refine Br.f ff_ ?_
  conv => whnf
  revert H; refine bind_elim (fun t327 A H => ?_)
  refine call_mk (spec_l2Place.ac A) (avAL_cons (avA_agg (avL_cons (av_shut' rfl) (avL_cons (av_shut' rfl) (avL_cons (av_shut' rfl) (avL_cons (av_shut' rfl) (avL_nil)))))) (avAL_cons (avA_shut' rfl) (avAL_nil))) (Or.inl rfl) rfl rfl (Nat.le_of_ble_eq_true rfl) ?_
  conv => whnf
  refine Br.f ff_ ?_
  conv => whnf
  refine Br.f ff_ ?_
  conv => whnf
  refine br_d H (fun c H => ?_) (fun c H => ?_)
  conv => whnf
  refine Br.t ft_ ?_
  conv => whnf
  refine Br.t ft_ ?_
  conv => whnf
  refine Br.t ft_ ?_
  conv => whnf
  refine Br.t ft_ ?_
  conv => whnf
  refine cut_ 528 [(1, .bp 0 0), (3, .int .i64 x3), (67, .bool true)] [(0, .box [(sv_str a0_0), (sv_S_impl_PlantFoe a0_1), (sv_S_impl_PlantPlace a0_2), (sv_S_impl_PlantValve a0_3)])] rfl ⟨.inl rfl, ⟨.inl rfl, ⟨.inl rfl, trivial⟩⟩⟩ ⟨rfl, trivial⟩ ?_
  conv => whnf
  refine Br.t rfl ?_
  conv => whnf
  refine cut_ 536 [(2, .bool false)] [] rfl ⟨.inl rfl, trivial⟩ trivial ?_
  conv => whnf
  injection H with H; subst H
  exact ret_fz [] (rtA_eq rfl)
  conv => whnf
  refine Br.f ff_ ?_
  conv => whnf
  refine Br.f ff_ ?_
  conv => whnf
  revert H; refine bind_elim (fun t328 A H => ?_)
  refine call_mk (spec_l2NameOk.ac A) (avAL_cons (avA_shut' rfl) (avAL_nil)) (Or.inl rfl) rfl rfl (Nat.le_of_ble_eq_true rfl) ?_
  conv => whnf
  refine Br.f ff_ ?_
  conv => whnf
  refine Br.f ff_ ?_
  conv => whnf
  refine cut_ 528 [(1, .bp 0 0), (3, .int .i64 x3), (67, .bool (!t328))] [(0, .box [(sv_str a0_0), (sv_S_impl_PlantFoe a0_1), (sv_S_impl_PlantPlace a0_2), (sv_S_impl_PlantValve a0_3)])] rfl ⟨.inl rfl, ⟨.inl rfl, ⟨.inl rfl, trivial⟩⟩⟩ ⟨rfl, trivial⟩ ?_
  conv => whnf
  refine br_nt H (fun c H => ?_) (fun c H => ?_)
  conv => whnf
  exact ⟨(k, wrap64 (x3 + 1)), [], ⟨H, lt_⟩, lt_, (fits_of ⟨.inl ⟨rfl, rfl⟩, trivial⟩ trivial fi_ trivial rfl)⟩
  conv => whnf
  refine cut_ 536 [(2, .bool false)] [] rfl ⟨.inl rfl, trivial⟩ trivial ?_
  conv => whnf
  injection H with H; subst H
  exact ret_fz [] (rtA_eq rfl)
  conv => whnf
  refine Br.t ft_ ?_
  conv => whnf
  refine Br.t ft_ ?_
  conv => whnf
  refine Br.t ft_ ?_
  conv => whnf
  refine Br.t ft_ ?_
  conv => whnf
  refine Br.t ft_ ?_
  conv => whnf
  refine Br.t rfl ?_
  conv => whnf
  refine Br.t rfl ?_
  conv => whnf
  refine Br.t rfl ?_
  conv => whnf
  refine Br.t rfl ?_
  conv => whnf
  refine Br.t rfl ?_
  conv => whnf
  refine Br.t rfl ?_
  conv => whnf
  refine Br.t rfl ?_
  conv => whnf
  refine Br.t rfl ?_
  conv => whnf
  refine Br.t rfl ?_
  conv => whnf
  refine Br.t rfl ?_
  conv => whnf
  refine Br.t rfl ?_
  conv => whnf
  refine cut_ 528 [(1, .bp 0 0), (3, .int .i64 x3), (67, .bool true)] [(0, .box [(sv_str a0_0), (sv_S_impl_PlantFoe a0_1), (sv_S_impl_PlantPlace a0_2), (sv_S_impl_PlantValve a0_3)])] rfl ⟨.inl rfl, ⟨.inl rfl, ⟨.inl rfl, trivial⟩⟩⟩ ⟨rfl, trivial⟩ ?_
  conv => whnf
  refine Br.t rfl ?_
  conv => whnf
  refine cut_ 536 [(2, .bool false)] [] rfl ⟨.inl rfl, trivial⟩ trivial ?_
  conv => whnf
  injection H with H; subst H
  exact ret_fz [] (rtA_eq rfl)
  conv => whnf
  refine Br.t ft_ ?_
  conv => whnf
  refine Br.t ft_ ?_
  conv => whnf
  refine Br.t ft_ ?_
  conv => whnf
  refine Br.t ft_ ?_
  conv => whnf
  refine Br.t ft_ ?_
  conv => whnf
  refine Br.t rfl ?_
  conv => whnf
  refine Br.t rfl ?_
  conv => whnf
  refine Br.t rfl ?_
  conv => whnf
  refine Br.t rfl ?_
  conv => whnf
  refine Br.t rfl ?_
  conv => whnf
  refine Br.t rfl ?_
  conv => whnf
  refine Br.t rfl ?_
  conv => whnf
  refine Br.t rfl ?_
  conv => whnf
  refine Br.t rfl ?_
  conv => whnf
  refine Br.t rfl ?_
  conv => whnf
  refine Br.t rfl ?_
  conv => whnf
  refine Br.t rfl ?_
  conv => whnf
  refine Br.t rfl ?_
  conv => whnf
  refine Br.t rfl ?_
  conv => whnf
  refine Br.t rfl ?_
  conv => whnf
  refine Br.t rfl ?_
  conv => whnf
  refine Br.t rfl ?_
  conv => whnf
  refine cut_ 528 [(1, .bp 0 0), (3, .int .i64 x3), (67, .bool true)] [(0, .box [(sv_str a0_0), (sv_S_impl_PlantFoe a0_1), (sv_S_impl_PlantPlace a0_2), (sv_S_impl_PlantValve a0_3)])] rfl ⟨.inl rfl, ⟨.inl rfl, ⟨.inl rfl, trivial⟩⟩⟩ ⟨rfl, trivial⟩ ?_
  conv => whnf
  refine Br.t rfl ?_
  conv => whnf
  refine cut_ 536 [(2, .bool false)] [] rfl ⟨.inl rfl, trivial⟩ trivial ?_
  conv => whnf
  injection H with H; subst H
  exact ret_fz [] (rtA_eq rfl)
  conv => whnf
  refine Br.f ff_ ?_
  conv => whnf
  refine Br.f ff_ ?_
  conv => whnf
  refine Br.f ff_ ?_
  conv => whnf
  refine Br.f ff_ ?_
  conv => whnf
  refine Br.f ff_ ?_
  conv => whnf
  refine Br.f ff_ ?_
  conv => whnf
  refine Br.f ff_ ?_
  conv => whnf
  refine Br.f ff_ ?_
  conv => whnf
  refine Br.f ff_ ?_
  conv => whnf
  refine Br.f ff_ ?_
  conv => whnf
  refine Br.f ff_ ?_
  conv => whnf
  refine Br.f ff_ ?_
  conv => whnf
  refine Br.f rfl ?_
  conv => whnf
  refine Br.f rfl ?_
  conv => whnf
  refine Br.f rfl ?_
  conv => whnf
  refine Br.f rfl ?_
  conv => whnf
  refine Br.f rfl ?_
  conv => whnf
  refine Br.f rfl ?_
  conv => whnf
  refine br_nt H (fun c H => ?_) (fun c H => ?_)
  conv => whnf
  refine Br.f ff_ ?_
  conv => whnf
  refine Br.f ff_ ?_
  conv => whnf
  refine Br.f ff_ ?_
  conv => whnf
  revert H; refine bind_elim (fun t329 A H => ?_)
  refine call_mk (spec_l2Place.ac A) (avAL_cons (avA_agg (avL_cons (av_shut' rfl) (avL_cons (av_shut' rfl) (avL_cons (av_shut' rfl) (avL_cons (av_shut' rfl) (avL_nil)))))) (avAL_cons (avA_shut' rfl) (avAL_nil))) (Or.inl rfl) rfl rfl (Nat.le_of_ble_eq_true rfl) ?_
  conv => whnf
  refine Br.f ff_ ?_
  conv => whnf
  refine Br.f ff_ ?_
  conv => whnf
  refine br_d H (fun c H => ?_) (fun c H => ?_)
  conv => whnf
  refine Br.t ft_ ?_
  conv => whnf
  refine Br.t ft_ ?_
  conv => whnf
  refine Br.t ft_ ?_
  conv => whnf
  refine Br.t ft_ ?_
  conv => whnf
  refine Br.t ft_ ?_
  conv => whnf
  refine Br.t rfl ?_
  conv => whnf
  refine Br.t rfl ?_
  conv => whnf
  refine Br.t rfl ?_
  conv => whnf
  refine Br.t rfl ?_
  conv => whnf
  refine Br.t rfl ?_
  conv => whnf
  refine cut_ 528 [(1, .bp 0 0), (3, .int .i64 x3), (67, .bool true)] [(0, .box [(sv_str a0_0), (sv_S_impl_PlantFoe a0_1), (sv_S_impl_PlantPlace a0_2), (sv_S_impl_PlantValve a0_3)])] rfl ⟨.inl rfl, ⟨.inl rfl, ⟨.inl rfl, trivial⟩⟩⟩ ⟨rfl, trivial⟩ ?_
  conv => whnf
  refine Br.t rfl ?_
  conv => whnf
  refine cut_ 536 [(2, .bool false)] [] rfl ⟨.inl rfl, trivial⟩ trivial ?_
  conv => whnf
  injection H with H; subst H
  exact ret_fz [] (rtA_eq rfl)
  conv => whnf
  refine Br.f ff_ ?_
  conv => whnf
  refine Br.f ff_ ?_
  conv => whnf
  refine Br.f ff_ ?_
  conv => whnf
  revert H; refine bind_elim (fun t330 A H => ?_)
  refine call_mk (spec_l2Place.ac A) (avAL_cons (avA_agg (avL_cons (av_shut' rfl) (avL_cons (av_shut' rfl) (avL_cons (av_shut' rfl) (avL_cons (av_shut' rfl) (avL_nil)))))) (avAL_cons (avA_shut' rfl) (avAL_nil))) (Or.inl rfl) rfl rfl (Nat.le_of_ble_eq_true rfl) ?_
  conv => whnf
  refine Br.f ff_ ?_
  conv => whnf
  refine Br.f ff_ ?_
  conv => whnf
  refine br_d H (fun c H => ?_) (fun c H => ?_)
  conv => whnf
  refine Br.t ft_ ?_
  conv => whnf
  refine Br.t ft_ ?_
  conv => whnf
  refine Br.t ft_ ?_
  conv => whnf
  refine Br.t ft_ ?_
  conv => whnf
  refine cut_ 528 [(1, .bp 0 0), (3, .int .i64 x3), (67, .bool true)] [(0, .box [(sv_str a0_0), (sv_S_impl_PlantFoe a0_1), (sv_S_impl_PlantPlace a0_2), (sv_S_impl_PlantValve a0_3)])] rfl ⟨.inl rfl, ⟨.inl rfl, ⟨.inl rfl, trivial⟩⟩⟩ ⟨rfl, trivial⟩ ?_
  conv => whnf
  refine Br.t rfl ?_
  conv => whnf
  refine cut_ 536 [(2, .bool false)] [] rfl ⟨.inl rfl, trivial⟩ trivial ?_
  conv => whnf
  injection H with H; subst H
  exact ret_fz [] (rtA_eq rfl)
  conv => whnf
  refine Br.f ff_ ?_
  conv => whnf
  refine Br.f ff_ ?_
  conv => whnf
  revert H; refine bind_elim (fun t331 A H => ?_)
  refine call_mk (spec_l2NameOk.ac A) (avAL_cons (avA_shut' rfl) (avAL_nil)) (Or.inl rfl) rfl rfl (Nat.le_of_ble_eq_true rfl) ?_
  conv => whnf
  refine Br.f ff_ ?_
  conv => whnf
  refine Br.f ff_ ?_
  conv => whnf
  refine cut_ 528 [(1, .bp 0 0), (3, .int .i64 x3), (67, .bool (!t331))] [(0, .box [(sv_str a0_0), (sv_S_impl_PlantFoe a0_1), (sv_S_impl_PlantPlace a0_2), (sv_S_impl_PlantValve a0_3)])] rfl ⟨.inl rfl, ⟨.inl rfl, ⟨.inl rfl, trivial⟩⟩⟩ ⟨rfl, trivial⟩ ?_
  conv => whnf
  refine br_nt H (fun c H => ?_) (fun c H => ?_)
  conv => whnf
  exact ⟨(k, wrap64 (x3 + 1)), [], ⟨H, lt_⟩, lt_, (fits_of ⟨.inl ⟨rfl, rfl⟩, trivial⟩ trivial fi_ trivial rfl)⟩
  conv => whnf
  refine cut_ 536 [(2, .bool false)] [] rfl ⟨.inl rfl, trivial⟩ trivial ?_
  conv => whnf
  injection H with H; subst H
  exact ret_fz [] (rtA_eq rfl)
  conv => whnf
  refine Br.t ft_ ?_
  conv => whnf
  refine Br.t ft_ ?_
  conv => whnf
  refine Br.t ft_ ?_
  conv => whnf
  refine Br.t ft_ ?_
  conv => whnf
  refine Br.t ft_ ?_
  conv => whnf
  refine Br.t rfl ?_
  conv => whnf
  refine Br.t rfl ?_
  conv => whnf
  refine Br.t rfl ?_
  conv => whnf
  refine Br.t rfl ?_
  conv => whnf
  refine Br.t rfl ?_
  conv => whnf
  refine Br.t rfl ?_
  conv => whnf
  refine Br.t rfl ?_
  conv => whnf
  refine Br.t rfl ?_
  conv => whnf
  refine Br.t rfl ?_
  conv => whnf
  refine Br.t rfl ?_
  conv => whnf
  refine Br.t rfl ?_
  conv => whnf
  refine cut_ 528 [(1, .bp 0 0), (3, .int .i64 x3), (67, .bool true)] [(0, .box [(sv_str a0_0), (sv_S_impl_PlantFoe a0_1), (sv_S_impl_PlantPlace a0_2), (sv_S_impl_PlantValve a0_3)])] rfl ⟨.inl rfl, ⟨.inl rfl, ⟨.inl rfl, trivial⟩⟩⟩ ⟨rfl, trivial⟩ ?_
  conv => whnf
  refine Br.t rfl ?_
  conv => whnf
  refine cut_ 536 [(2, .bool false)] [] rfl ⟨.inl rfl, trivial⟩ trivial ?_
  conv => whnf
  injection H with H; subst H
  exact ret_fz [] (rtA_eq rfl)
  conv => whnf
  refine Br.t ft_ ?_
  conv => whnf
  refine Br.t ft_ ?_
  conv => whnf
  refine Br.t ft_ ?_
  conv => whnf
  refine Br.t ft_ ?_
  conv => whnf
  refine Br.t rfl ?_
  conv => whnf
  refine Br.t rfl ?_
  conv => whnf
  refine Br.t rfl ?_
  conv => whnf
  refine Br.t rfl ?_
  conv => whnf
  refine Br.t rfl ?_
  conv => whnf
  refine Br.t rfl ?_
  conv => whnf
  refine Br.t rfl ?_
  conv => whnf
  refine Br.t rfl ?_
  conv => whnf
  refine Br.t rfl ?_
  conv => whnf
  refine Br.t rfl ?_
  conv => whnf
  refine Br.t rfl ?_
  conv => whnf
  refine Br.t rfl ?_
  conv => whnf
  refine Br.t rfl ?_
  conv => whnf
  refine Br.t rfl ?_
  conv => whnf
  refine Br.t rfl ?_
  conv => whnf
  refine Br.t rfl ?_
  conv => whnf
  refine Br.t rfl ?_
  conv => whnf
  refine Br.t rfl ?_
  conv => whnf
  refine Br.t rfl ?_
  conv => whnf
  refine Br.t rfl ?_
  conv => whnf
  refine Br.t rfl ?_
  conv => whnf
  refine Br.t rfl ?_
  conv => whnf
  refine Br.t rfl ?_
  conv => whnf
  refine cut_ 528 [(1, .bp 0 0), (3, .int .i64 x3), (67, .bool true)] [(0, .box [(sv_str a0_0), (sv_S_impl_PlantFoe a0_1), (sv_S_impl_PlantPlace a0_2), (sv_S_impl_PlantValve a0_3)])] rfl ⟨.inl rfl, ⟨.inl rfl, ⟨.inl rfl, trivial⟩⟩⟩ ⟨rfl, trivial⟩ ?_
  conv => whnf
  refine Br.t rfl ?_
  conv => whnf
  refine cut_ 536 [(2, .bool false)] [] rfl ⟨.inl rfl, trivial⟩ trivial ?_
  conv => whnf
  injection H with H; subst H
  exact ret_fz [] (rtA_eq rfl)
  conv => whnf
  injection H with H; subst H
  exact ret_fz [] (rtA_eq rfl)
theorem spec_PlantValid.ac {k : Nat} {a0_0 : List ByteArray} {a0_1 : List S_impl_PlantFoe} {a0_2 : List S_impl_PlantPlace} {a0_3 : List S_impl_PlantValve} {r : Bool} (H : spec_PlantValid.f k a0_0 a0_1 a0_2 a0_3 = some r) : ACalls Try.prog G 119 [] [.agg [(sv_str a0_0), (sv_S_impl_PlantFoe a0_1), (sv_S_impl_PlantPlace a0_2), (sv_S_impl_PlantValve a0_3)]] [] (.bool r) := by
  refine acalls_of tok hP Try.func119 rfl (by kernel_rfl) [.tmp 2] rfl (by kernel_rfl) (Nat.le_of_ble_eq_true rfl) (.l .n (.c .n .n)) rfl ?_
  unfold spec_PlantValid.f at H
  conv => whnf
  revert H; refine bind_elim (fun t335 A H => ?_)
  refine call_mk (spec_l2StuffsOk.ac A) (avAL_cons (avA_agg (avL_cons (av_shut' rfl) (avL_cons (av_shut' rfl) (avL_cons (av_shut' rfl) (avL_cons (av_shut' rfl) (avL_nil)))))) (avAL_nil)) (Or.inl rfl) rfl rfl (Nat.le_of_ble_eq_true rfl) ?_
  conv => whnf
  refine br_t H (fun c H => ?_) (fun c H => ?_)
  conv => whnf
  refine Br.t ft_ ?_
  conv => whnf
  revert H; refine bind_elim (fun t336 A H => ?_)
  refine call_mk (spec_l2PlacesOk.ac A) (avAL_cons (avA_agg (avL_cons (av_shut' rfl) (avL_cons (av_shut' rfl) (avL_cons (av_shut' rfl) (avL_cons (av_shut' rfl) (avL_nil)))))) (avAL_nil)) (Or.inl rfl) rfl rfl (Nat.le_of_ble_eq_true rfl) ?_
  conv => whnf
  refine Br.t ft_ ?_
  conv => whnf
  refine br_t H (fun c H => ?_) (fun c H => ?_)
  conv => whnf
  refine Br.t ft_ ?_
  conv => whnf
  revert H; refine bind_elim (fun t337 A H => ?_)
  refine call_mk (spec_l2ValvesOk.ac A) (avAL_cons (avA_agg (avL_cons (av_shut' rfl) (avL_cons (av_shut' rfl) (avL_cons (av_shut' rfl) (avL_cons (av_shut' rfl) (avL_nil)))))) (avAL_nil)) (Or.inl rfl) rfl rfl (Nat.le_of_ble_eq_true rfl) ?_
  conv => whnf
  refine Br.t ft_ ?_
  conv => whnf
  refine cut_ 104 [(2, .bool t337)] [] rfl ⟨.inl rfl, trivial⟩ trivial ?_
  conv => whnf
  injection H with H; subst H
  exact ret_fz [] (rtA_eq rfl)
  conv => whnf
  refine Br.f ff_ ?_
  conv => whnf
  refine Br.f ff_ ?_
  conv => whnf
  refine cut_ 104 [(2, .bool false)] [] rfl ⟨.inl rfl, trivial⟩ trivial ?_
  conv => whnf
  injection H with H; subst H
  exact ret_fz [] (rtA_eq rfl)
  conv => whnf
  refine Br.f ff_ ?_
  conv => whnf
  refine Br.f ff_ ?_
  conv => whnf
  refine Br.f rfl ?_
  conv => whnf
  refine Br.f rfl ?_
  conv => whnf
  refine Br.f rfl ?_
  conv => whnf
  refine cut_ 104 [(2, .bool false)] [] rfl ⟨.inl rfl, trivial⟩ trivial ?_
  conv => whnf
  injection H with H; subst H
  exact ret_fz [] (rtA_eq rfl)
theorem spec_l4Insert.l0_lp {F : (Exit → St → Prop) → St → Prop} {hv : List Tmp} {Q : Exit → St → Prop} {σ : St} {r : List ByteArray} {k : Nat} {l0 : List ByteArray} {a1 : ByteArray} {x5 : Int} (H : spec_l4Insert.l0 k l0 a1 x5 = some r) (rn : List (Option Nat)) (h1 : Fits σ σ [] [(5, .int .i64 x5)] [] [] rn)
    (h2 : ∀ (k0 : Nat) (x5 : Int), k0 < k + 1 → spec_l4Insert.l0 k0 l0 a1 x5 = some r → headN σ hv [] [(5, .int .i64 x5)] [] [] (F (fun e σ' => match e with | .normal => ∃ (y : Nat × Int) (rn : List (Option Nat)), (spec_l4Insert.l0 y.1 l0 a1 y.2 = some r ∧ y.1 < k + 1) ∧ y.1 < k0 ∧ Fits σ σ' [] [(5, .int .i64 y.2)] [] [] rn | e => Q e σ'))) : Lp F hv Q σ := by
  unfold Lp
  refine ⟨Nat × Int, fun x => spec_l4Insert.l0 x.1 l0 a1 x.2 = some r ∧ x.1 < k + 1, fun x => x.1, [], fun x => [(5, .int .i64 x.2)], fun x => [], fun x => [], ⟨(k, x5), rn, ⟨H, Nat.lt_succ_self _⟩, h1⟩, ?_⟩
  rintro ⟨k, x5⟩ ⟨H, hk⟩
  exact h2 k x5 hk H
theorem spec_l4Insert.ac {k : Nat} {l0 : List ByteArray} {a1 : ByteArray} {r : List ByteArray} (H : spec_l4Insert.f k l0 a1 = some r) : ACalls Try.prog G 134 [] [(sv_str l0), .str a1] [] ((sv_str r)) := by
  refine acalls_of tok hP Try.func134 rfl (by kernel_rfl) [.tmp 4] rfl (by kernel_rfl) (Nat.le_of_ble_eq_true rfl) (.l .n (.l .n (.l (.l (.c .n .n) .n) (.l (.c .n .n) (.c .n .n))))) rfl ?_
  unfold spec_l4Insert.f at H
  conv => whnf
  refine spec_l4Insert.l0_lp (l0 := l0) (a1 := a1) (k := k) H [] (fits_of ⟨.inl ⟨rfl, rfl⟩, trivial⟩ trivial fi_ trivial rfl) ?_
  intro k x5 hk H; rcases k with _ | k; exact none_elim H; rw [spec_l4Insert.l0] at H; conv => whnf
  refine br_d H (fun c H => ?_) (fun c H => ?_)
  conv => whnf
  refine Br.t ft_ ?_
  conv => whnf
  refine Br.t ft_ ?_
  conv => whnf
  refine nd_ H (fun c H => ?_)
  conv => whnf
  refine Nd.mk nf_ ?_
  conv => whnf
  refine El.mk (rdm_en_str _ _ nf_ nf_) ?_
  conv => whnf
  refine Br.t ft_ ?_
  conv => whnf
  refine Br.t ft_ ?_
  conv => whnf
  refine Br.t ft_ ?_
  conv => whnf
  refine Br.t ft_ ?_
  conv => whnf
  refine cut_ 112 [(0, (sv_str l0)), (1, .str a1), (5, .int .i64 x5), (17, .bool (Op.bytesLess (rdOf ByteArray.empty l0 x5).toList a1.toList))] [] rfl ⟨.inl rfl, ⟨.inl rfl, ⟨.inl rfl, ⟨.inl rfl, trivial⟩⟩⟩⟩ trivial ?_
  conv => whnf
  refine br_t H (fun c H => ?_) (fun c H => ?_)
  conv => whnf
  exact ⟨(k, wrap64 (x5 + 1)), [], ⟨H, lt_⟩, lt_, (fits_of ⟨.inl ⟨rfl, rfl⟩, trivial⟩ trivial fi_ trivial rfl)⟩
  conv => whnf
  refine Br.t ft_ ?_
  conv => whnf
  refine Br.t ft_ ?_
  conv => whnf
  refine Br.t ft_ ?_
  conv => whnf
  refine Nd.mk nf_ ?_
  conv => whnf
  refine Nd.mk nf_ ?_
  conv => whnf
  refine El.mk (rdm_en_str _ _ nf_ nf_) ?_
  conv => whnf
  refine Br.t ft_ ?_
  conv => whnf
  refine Br.t ft_ ?_
  conv => whnf
  refine Br.t ft_ ?_
  conv => whnf
  refine Br.t ft_ ?_
  conv => whnf
  refine cut_ 208 [(0, (sv_str l0)), (1, .str a1), (5, .int .i64 x5), (31, .bool (decide ((rdOf ByteArray.empty l0 x5).toList = a1.toList)))] [] rfl ⟨.inl rfl, ⟨.inl rfl, ⟨.inl rfl, ⟨.inl rfl, trivial⟩⟩⟩⟩ trivial ?_
  conv => whnf
  refine br_d H (fun c H => ?_) (fun c H => ?_)
  conv => whnf
  injection H with H; subst H
  exact ret_fz [] (rtA_eq rfl)
  conv => whnf
  refine Nd.mk nf_ ?_
  conv => whnf
  refine nd_ H (fun c H => ?_)
  conv => whnf
  refine nd_ H (fun c H => ?_)
  conv => whnf
  refine nd_ H (fun c H => ?_)
  conv => whnf
  refine Nd.mk nf_ ?_
  conv => whnf
  refine Nd.mk nf_ ?_
  conv => whnf
  refine nd_ H (fun c H => ?_)
  conv => whnf
  refine cut_ 312 [(4, .own 296 (0 + (x5).toNat + 1 + (l0.length - (x5).toNat)))] [(296, .arr 9 1 ((((([] : List ByteArray) ++ (l0.take (x5).toNat)) ++ ([a1] : List ByteArray)) ++ (l0.drop (x5).toNat)).map en_str))] rfl ⟨.inl rfl, trivial⟩ ⟨fm_, trivial⟩ ?_
  conv => whnf
  injection H with H; subst H
  exact ret_fz [296] (rtA_fzD rfl lm_ lm_ rfl)
  conv => whnf
  refine Br.f ff_ ?_
  conv => whnf
  refine Br.f ff_ ?_
  conv => whnf
  refine Br.f ff_ ?_
  conv => whnf
  refine Br.f ff_ ?_
  conv => whnf
  refine Br.f ff_ ?_
  conv => whnf
  refine Br.f ff_ ?_
  conv => whnf
  refine cut_ 112 [(0, (sv_str l0)), (1, .str a1), (5, .int .i64 x5), (17, .bool false)] [] rfl ⟨.inl rfl, ⟨.inl rfl, ⟨.inl rfl, ⟨.inl rfl, trivial⟩⟩⟩⟩ trivial ?_
  conv => whnf
  refine Br.f rfl ?_
  conv => whnf
  refine Br.f ff_ ?_
  conv => whnf
  refine Br.f ff_ ?_
  conv => whnf
  refine Br.f ff_ ?_
  conv => whnf
  refine Br.f ff_ ?_
  conv => whnf
  refine Br.f ff_ ?_
  conv => whnf
  refine Br.f ff_ ?_
  conv => whnf
  refine Br.f ff_ ?_
  conv => whnf
  refine cut_ 208 [(0, (sv_str l0)), (1, .str a1), (5, .int .i64 x5), (31, .bool false)] [] rfl ⟨.inl rfl, ⟨.inl rfl, ⟨.inl rfl, ⟨.inl rfl, trivial⟩⟩⟩⟩ trivial ?_
  conv => whnf
  refine Br.f rfl ?_
  conv => whnf
  refine nd_ H (fun c H => ?_)
  conv => whnf
  refine nd_ H (fun c H => ?_)
  conv => whnf
  refine nd_ H (fun c H => ?_)
  conv => whnf
  refine nd_ H (fun c H => ?_)
  conv => whnf
  refine Nd.mk nf_ ?_
  conv => whnf
  refine Nd.mk nf_ ?_
  conv => whnf
  refine nd_ H (fun c H => ?_)
  conv => whnf
  refine cut_ 312 [(4, .own 296 (0 + (x5).toNat + 1 + (l0.length - (x5).toNat)))] [(296, .arr 9 1 ((((([] : List ByteArray) ++ (l0.take (x5).toNat)) ++ ([a1] : List ByteArray)) ++ (l0.drop (x5).toNat)).map en_str))] rfl ⟨.inl rfl, trivial⟩ ⟨fm_, trivial⟩ ?_
  conv => whnf
  injection H with H; subst H
  exact ret_fz [296] (rtA_fzD rfl lm_ lm_ rfl)
theorem spec_CtlStations.l1_lp {F : (Exit → St → Prop) → St → Prop} {hv : List Tmp} {Q : Exit → St → Prop} {σ : St} {r : List ByteArray} {k : Nat} {a0_3 : List S_impl_PlantValve} {x3_1 : List ByteArray} {x5 : Int} (H : spec_CtlStations.l1 k a0_3 x3_1 x5 = some r) (rn : List (Option Nat)) (h1 : Fits σ σ [] [(3, (sv_str x3_1)), (5, .int .i64 x5)] [] [] rn)
    (h2 : ∀ (k0 : Nat) (x3_1 : List ByteArray) (x5 : Int), k0 < k + 1 → spec_CtlStations.l1 k0 a0_3 x3_1 x5 = some r → headN σ hv [] [(3, (sv_str x3_1)), (5, .int .i64 x5)] [] [] (F (fun e σ' => match e with | .normal => ∃ (y : Nat × (List ByteArray) × Int) (rn : List (Option Nat)), (spec_CtlStations.l1 y.1 a0_3 y.2.1 y.2.2 = some r ∧ y.1 < k + 1) ∧ y.1 < k0 ∧ Fits σ σ' [] [(3, (sv_str y.2.1)), (5, .int .i64 y.2.2)] [] [] rn | e => Q e σ'))) : Lp F hv Q σ := by
  unfold Lp
  refine ⟨Nat × (List ByteArray) × Int, fun x => spec_CtlStations.l1 x.1 a0_3 x.2.1 x.2.2 = some r ∧ x.1 < k + 1, fun x => x.1, [], fun x => [(3, (sv_str x.2.1)), (5, .int .i64 x.2.2)], fun x => [], fun x => [], ⟨(k, x3_1, x5), rn, ⟨H, Nat.lt_succ_self _⟩, h1⟩, ?_⟩
  rintro ⟨k, x3_1, x5⟩ ⟨H, hk⟩
  exact h2 k x3_1 x5 hk H
theorem spec_CtlStations.l0_lp {F : (Exit → St → Prop) → St → Prop} {hv : List Tmp} {Q : Exit → St → Prop} {σ : St} {r : List ByteArray} {k : Nat} {a0_2 : List S_impl_PlantPlace} {a0_3 : List S_impl_PlantValve} {x3 : List ByteArray} {x4 : Int} (H : spec_CtlStations.l0 k a0_2 a0_3 x3 x4 = some r) (rn : List (Option Nat)) (h1 : Fits σ σ [] [(3, (sv_str x3)), (4, .int .i64 x4)] [] [] rn)
    (h2 : ∀ (k0 : Nat) (x3 : List ByteArray) (x4 : Int), k0 < k + 1 → spec_CtlStations.l0 k0 a0_2 a0_3 x3 x4 = some r → headN σ hv [] [(3, (sv_str x3)), (4, .int .i64 x4)] [] [] (F (fun e σ' => match e with | .normal => ∃ (y : Nat × (List ByteArray) × Int) (rn : List (Option Nat)), (spec_CtlStations.l0 y.1 a0_2 a0_3 y.2.1 y.2.2 = some r ∧ y.1 < k + 1) ∧ y.1 < k0 ∧ Fits σ σ' [] [(3, (sv_str y.2.1)), (4, .int .i64 y.2.2)] [] [] rn | e => Q e σ'))) : Lp F hv Q σ := by
  unfold Lp
  refine ⟨Nat × (List ByteArray) × Int, fun x => spec_CtlStations.l0 x.1 a0_2 a0_3 x.2.1 x.2.2 = some r ∧ x.1 < k + 1, fun x => x.1, [], fun x => [(3, (sv_str x.2.1)), (4, .int .i64 x.2.2)], fun x => [], fun x => [], ⟨(k, x3, x4), rn, ⟨H, Nat.lt_succ_self _⟩, h1⟩, ?_⟩
  rintro ⟨k, x3, x4⟩ ⟨H, hk⟩
  exact h2 k x3 x4 hk H
theorem spec_CtlStations.ac {k : Nat} {a0_0 : List ByteArray} {a0_1 : List S_impl_PlantFoe} {a0_2 : List S_impl_PlantPlace} {a0_3 : List S_impl_PlantValve} {r : List ByteArray} (H : spec_CtlStations.f k a0_0 a0_1 a0_2 a0_3 = some r) : ACalls Try.prog G 48 [] [.agg [(sv_str a0_0), (sv_S_impl_PlantFoe a0_1), (sv_S_impl_PlantPlace a0_2), (sv_S_impl_PlantValve a0_3)]] [] ((sv_str r)) := by
  refine acalls_of tok hP Try.func48 rfl (by kernel_rfl) [.tmp 2] rfl (by kernel_rfl) (Nat.le_of_ble_eq_true rfl) (.l .n (.l .n (.l .n (.l (.f .n (.l .n (.c .n .n))) (.l (.l .n (.l (.c .n .n) .n)) .n))))) rfl ?_
  unfold spec_CtlStations.f at H
  conv => whnf
  revert H; refine bind_elim (fun t373 A H => ?_)
  refine call_mk (spec_PlantValid.ac A) (avAL_cons (avA_agg (avL_cons (av_shut' rfl) (avL_cons (av_shut' rfl) (avL_cons (av_shut' rfl) (avL_cons (av_shut' rfl) (avL_nil)))))) (avAL_nil)) (Or.inl rfl) rfl rfl (Nat.le_of_ble_eq_true rfl) ?_
  conv => whnf
  refine br_nt H (fun c H => ?_) (fun c H => ?_)
  conv => whnf
  refine cutF_ 64 [16] [(1, .bp 0 0), (3, (sv_str ([] : List ByteArray))), (4, .int .i64 0)] [(0, .box [(sv_str a0_0), (sv_S_impl_PlantFoe a0_1), (sv_S_impl_PlantPlace a0_2), (sv_S_impl_PlantValve a0_3)])] rfl rfl ⟨.inl rfl, ⟨fz_own rfl rfl (.inr lm_) lm_, ⟨.inl rfl, trivial⟩⟩⟩ ⟨rfl, trivial⟩ ?_
  conv => whnf
  refine spec_CtlStations.l0_lp (a0_2 := a0_2) (a0_3 := a0_3) (k := k) H [] (fits_of ⟨.inl ⟨rfl, rfl⟩, ⟨.inl ⟨rfl, rfl⟩, trivial⟩⟩ trivial fi_ trivial rfl) ?_
  intro k x3 x4 hk H; rcases k with _ | k; exact none_elim H; rw [spec_CtlStations.l0] at H; conv => whnf
  refine br_d H (fun c H => ?_) (fun c H => ?_)
  conv => whnf
  refine nd_ H (fun c H => ?_)
  conv => whnf
  refine Nd.mk nf_ ?_
  conv => whnf
  refine El.mk (rdm_en_S_impl_PlantPlace _ _ nf_ nf_) ?_
  conv => whnf
  revert H; refine bind_elim (fun t376 A H => ?_)
  refine call_mk (spec_l4Insert.ac A) (avAL_cons (avA_shut' rfl) (avAL_cons (avA_shut' rfl) (avAL_nil))) (Or.inl rfl) rfl rfl (Nat.le_of_ble_eq_true rfl) ?_
  conv => whnf
  refine cut_ 176 [(1, .bp 0 0), (3, (sv_str t376)), (4, .int .i64 x4)] [(0, .box [(sv_str a0_0), (sv_S_impl_PlantFoe a0_1), (sv_S_impl_PlantPlace a0_2), (sv_S_impl_PlantValve a0_3)])] rfl ⟨.inl rfl, ⟨.inl rfl, ⟨.inl rfl, trivial⟩⟩⟩ ⟨rfl, trivial⟩ ?_
  conv => whnf
  exact ⟨(k, t376, wrap64 (x4 + 1)), [], ⟨H, lt_⟩, lt_, (fits_of ⟨.inl ⟨rfl, rfl⟩, ⟨.inl ⟨rfl, rfl⟩, trivial⟩⟩ trivial fi_ trivial rfl)⟩
  conv => whnf
  refine spec_CtlStations.l1_lp (a0_3 := a0_3) (k := k) H [] (fits_of ⟨.inl ⟨rfl, rfl⟩, ⟨.inl ⟨rfl, rfl⟩, trivial⟩⟩ trivial fi_ trivial rfl) ?_
  intro k x3_1 x5 hk H; rcases k with _ | k; exact none_elim H; rw [spec_CtlStations.l1] at H; conv => whnf
  refine cut_ 152 [(1, .bp 0 0), (3, (sv_str x3_1)), (5, .int .i64 x5), (30, .bool (decide (x5 < (a0_3.length : Int))))] [(0, .box [(sv_str a0_0), (sv_S_impl_PlantFoe a0_1), (sv_S_impl_PlantPlace a0_2), (sv_S_impl_PlantValve a0_3)])] rfl ⟨.inl rfl, ⟨.inl rfl, ⟨.inl rfl, ⟨.inl rfl, trivial⟩⟩⟩⟩ ⟨rfl, trivial⟩ ?_
  conv => whnf
  refine br_d H (fun c H => ?_) (fun c H => ?_)
  conv => whnf
  refine nd_ H (fun c H => ?_)
  conv => whnf
  refine Nd.mk nf_ ?_
  conv => whnf
  refine El.mk (rdm_en_S_impl_PlantValve _ _ nf_ nf_) ?_
  conv => whnf
  revert H; refine bind_elim (fun t379 A H => ?_)
  refine call_mk (spec_l4Insert.ac A) (avAL_cons (avA_shut' rfl) (avAL_cons (avA_shut' rfl) (avAL_nil))) (Or.inl rfl) rfl rfl (Nat.le_of_ble_eq_true rfl) ?_
  conv => whnf
  exact ⟨(k, t379, wrap64 (x5 + 1)), [], ⟨H, lt_⟩, lt_, (fits_of ⟨.inl ⟨rfl, rfl⟩, ⟨.inl ⟨rfl, rfl⟩, trivial⟩⟩ trivial fi_ trivial rfl)⟩
  conv => whnf
  injection H with H; subst H
  exact ret_fz [] (rtA_eq rfl)
  conv => whnf
  injection H with H; subst H
  exact ret_fz [16] (rtA_fzD rfl lm_ lm_ rfl)
theorem spec_l21In.ac {a0 : Int} {a1 : Int} {a2 : Int} {r : Bool} (H : spec_l21In.f a0 a1 a2 = some r) : ACalls Try.prog G 95 [] [.int .i64 a0, .int .i64 a1, .int .i64 a2] [] (.bool r) := by
  refine acalls_of tok hP Try.func95 rfl (by kernel_rfl) [.tmp 6] rfl (by kernel_rfl) (Nat.le_of_ble_eq_true rfl) (.l .n (.c .n .n)) rfl ?_
  unfold spec_l21In.f at H
  conv => whnf
  refine br_d H (fun c H => ?_) (fun c H => ?_)
  conv => whnf
  refine Br.t ft_ ?_
  conv => whnf
  refine Br.t ft_ ?_
  conv => whnf
  refine Br.t ft_ ?_
  conv => whnf
  refine cut_ 80 [(6, .bool (decide (a0 ≤ a2)))] [] rfl ⟨.inl rfl, trivial⟩ trivial ?_
  conv => whnf
  injection H with H; subst H
  exact ret_fz [] (rtA_eq rfl)
  conv => whnf
  refine Br.f ff_ ?_
  conv => whnf
  refine Br.f ff_ ?_
  conv => whnf
  refine Br.f ff_ ?_
  conv => whnf
  refine cut_ 80 [(6, .bool false)] [] rfl ⟨.inl rfl, trivial⟩ trivial ?_
  conv => whnf
  injection H with H; subst H
  exact ret_fz [] (rtA_eq rfl)
theorem spec_l21NameOk.l0_lp {F : (Exit → St → Prop) → St → Prop} {hv : List Tmp} {Q : Exit → St → Prop} {σ : St} {r : Bool} {k : Nat} {a0 : ByteArray} {x3 : Int} (H : spec_l21NameOk.l0 k a0 x3 = some r) (rn : List (Option Nat)) (h1 : Fits σ σ [] [(3, .int .i64 x3)] [] [] rn)
    (h2 : ∀ (k0 : Nat) (x3 : Int), k0 < k + 1 → spec_l21NameOk.l0 k0 a0 x3 = some r → headN σ hv [] [(3, .int .i64 x3)] [] [] (F (fun e σ' => match e with | .normal => ∃ (y : Nat × Int) (rn : List (Option Nat)), (spec_l21NameOk.l0 y.1 a0 y.2 = some r ∧ y.1 < k + 1) ∧ y.1 < k0 ∧ Fits σ σ' [] [(3, .int .i64 y.2)] [] [] rn | e => Q e σ'))) : Lp F hv Q σ := by
  unfold Lp
  refine ⟨Nat × Int, fun x => spec_l21NameOk.l0 x.1 a0 x.2 = some r ∧ x.1 < k + 1, fun x => x.1, [], fun x => [(3, .int .i64 x.2)], fun x => [], fun x => [], ⟨(k, x3), rn, ⟨H, Nat.lt_succ_self _⟩, h1⟩, ?_⟩
  rintro ⟨k, x3⟩ ⟨H, hk⟩
  exact h2 k x3 hk H
theorem spec_l21NameOk.ac {k : Nat} {a0 : ByteArray} {r : Bool} (H : spec_l21NameOk.f k a0 = some r) : ACalls Try.prog G 168 [] [.str a0] [] (.bool r) := by
  refine acalls_of tok hP Try.func168 rfl (by kernel_rfl) [.tmp 2] rfl (by kernel_rfl) (Nat.le_of_ble_eq_true rfl) (.l .n (.l .n (.l (.l .n (.l (.c .n .n) (.l (.l .n (.c .n .n)) .n))) .n))) rfl ?_
  unfold spec_l21NameOk.f at H
  conv => whnf
  revert H; refine bind_elim (fun t458 A H => ?_)
  refine call_mk (spec_l21In.ac A) (avAL_cons (avA_shut' rfl) (avAL_cons (avA_shut' rfl) (avAL_cons (avA_shut' rfl) (avAL_nil)))) (Or.inl rfl) rfl rfl (Nat.le_of_ble_eq_true rfl) ?_
  conv => whnf
  refine br_nt H (fun c H => ?_) (fun c H => ?_)
  conv => whnf
  refine spec_l21NameOk.l0_lp (a0 := a0) (k := k) H [] (fits_of ⟨.inl ⟨rfl, rfl⟩, trivial⟩ trivial fi_ trivial rfl) ?_
  intro k x3 hk H; rcases k with _ | k; exact none_elim H; rw [spec_l21NameOk.l0] at H; conv => whnf
  refine cut_ 80 [(0, .str a0), (3, .int .i64 x3), (12, .bool (decide (x3 < (a0.size : Int))))] [] rfl ⟨.inl rfl, ⟨.inl rfl, ⟨.inl rfl, trivial⟩⟩⟩ trivial ?_
  conv => whnf
  refine br_d H (fun c H => ?_) (fun c H => ?_)
  conv => whnf
  refine nd_ H (fun c H => ?_)
  conv => whnf
  refine Nd.mk nf_ ?_
  conv => whnf
  refine br_d H (fun c H => ?_) (fun c H => ?_)
  conv => whnf
  refine Br.t ft_ ?_
  conv => whnf
  refine Br.t ft_ ?_
  conv => whnf
  refine br_d H (fun c H => ?_) (fun c H => ?_)
  conv => whnf
  refine Br.t ft_ ?_
  conv => whnf
  refine Br.t ft_ ?_
  conv => whnf
  refine Br.t ft_ ?_
  conv => whnf
  refine Br.t ft_ ?_
  conv => whnf
  refine Br.t rfl ?_
  conv => whnf
  refine Br.t rfl ?_
  conv => whnf
  refine Br.t rfl ?_
  conv => whnf
  refine cut_ 264 [(0, .str a0), (3, .int .i64 x3), (36, .bool (!true))] [] rfl ⟨.inl rfl, ⟨.inl rfl, ⟨.inl rfl, trivial⟩⟩⟩ trivial ?_
  conv => whnf
  refine Br.f rfl ?_
  conv => whnf
  exact ⟨(k, wrap64 (x3 + 1)), [], ⟨H, lt_⟩, lt_, (fits_of ⟨.inl ⟨rfl, rfl⟩, trivial⟩ trivial fi_ trivial rfl)⟩
  conv => whnf
  refine Br.f ff_ ?_
  conv => whnf
  refine Br.f ff_ ?_
  conv => whnf
  refine br_d H (fun c H => ?_) (fun c H => ?_)
  conv => whnf
  refine Br.t ft_ ?_
  conv => whnf
  refine Br.f ff_ ?_
  conv => whnf
  refine Br.t ft_ ?_
  conv => whnf
  refine Br.f ff_ ?_
  conv => whnf
  refine br_d H (fun c H => ?_) (fun c H => ?_)
  conv => whnf
  refine Br.t ft_ ?_
  conv => whnf
  refine Br.t ft_ ?_
  conv => whnf
  refine cut_ 264 [(0, .str a0), (3, .int .i64 x3), (36, .bool (!true))] [] rfl ⟨.inl rfl, ⟨.inl rfl, ⟨.inl rfl, trivial⟩⟩⟩ trivial ?_
  conv => whnf
  refine Br.f rfl ?_
  conv => whnf
  exact ⟨(k, wrap64 (x3 + 1)), [], ⟨H, lt_⟩, lt_, (fits_of ⟨.inl ⟨rfl, rfl⟩, trivial⟩ trivial fi_ trivial rfl)⟩
  conv => whnf
  refine Br.f ff_ ?_
  conv => whnf
  refine Br.f ff_ ?_
  conv => whnf
  refine cut_ 264 [(0, .str a0), (3, .int .i64 x3), (36, .bool (!(decide ((bt a0 x3) = 45))))] [] rfl ⟨.inl rfl, ⟨.inl rfl, ⟨.inl rfl, trivial⟩⟩⟩ trivial ?_
  conv => whnf
  refine br_nd H (fun c H => ?_) (fun c H => ?_)
  conv => whnf
  exact ⟨(k, wrap64 (x3 + 1)), [], ⟨H, lt_⟩, lt_, (fits_of ⟨.inl ⟨rfl, rfl⟩, trivial⟩ trivial fi_ trivial rfl)⟩
  conv => whnf
  injection H with H; subst H
  exact ret_fz [] (rtA_eq rfl)
  conv => whnf
  refine Br.f ff_ ?_
  conv => whnf
  refine Br.f ff_ ?_
  conv => whnf
  refine Br.f ff_ ?_
  conv => whnf
  refine Br.f ff_ ?_
  conv => whnf
  refine Br.f rfl ?_
  conv => whnf
  refine Br.f rfl ?_
  conv => whnf
  refine Br.f rfl ?_
  conv => whnf
  refine cut_ 264 [(0, .str a0), (3, .int .i64 x3), (36, .bool (!(decide ((bt a0 x3) = 45))))] [] rfl ⟨.inl rfl, ⟨.inl rfl, ⟨.inl rfl, trivial⟩⟩⟩ trivial ?_
  conv => whnf
  refine br_nd H (fun c H => ?_) (fun c H => ?_)
  conv => whnf
  exact ⟨(k, wrap64 (x3 + 1)), [], ⟨H, lt_⟩, lt_, (fits_of ⟨.inl ⟨rfl, rfl⟩, trivial⟩ trivial fi_ trivial rfl)⟩
  conv => whnf
  injection H with H; subst H
  exact ret_fz [] (rtA_eq rfl)
  conv => whnf
  refine Br.f ff_ ?_
  conv => whnf
  refine Br.f ff_ ?_
  conv => whnf
  refine Br.f rfl ?_
  conv => whnf
  refine Br.f rfl ?_
  conv => whnf
  refine Br.f rfl ?_
  conv => whnf
  refine br_d H (fun c H => ?_) (fun c H => ?_)
  conv => whnf
  refine Br.t ft_ ?_
  conv => whnf
  refine Br.f rfl ?_
  conv => whnf
  refine Br.t ft_ ?_
  conv => whnf
  refine Br.f rfl ?_
  conv => whnf
  refine br_d H (fun c H => ?_) (fun c H => ?_)
  conv => whnf
  refine Br.t ft_ ?_
  conv => whnf
  refine Br.t ft_ ?_
  conv => whnf
  refine cut_ 264 [(0, .str a0), (3, .int .i64 x3), (36, .bool (!true))] [] rfl ⟨.inl rfl, ⟨.inl rfl, ⟨.inl rfl, trivial⟩⟩⟩ trivial ?_
  conv => whnf
  refine Br.f rfl ?_
  conv => whnf
  exact ⟨(k, wrap64 (x3 + 1)), [], ⟨H, lt_⟩, lt_, (fits_of ⟨.inl ⟨rfl, rfl⟩, trivial⟩ trivial fi_ trivial rfl)⟩
  conv => whnf
  refine Br.f ff_ ?_
  conv => whnf
  refine Br.f ff_ ?_
  conv => whnf
  refine cut_ 264 [(0, .str a0), (3, .int .i64 x3), (36, .bool (!(decide ((bt a0 x3) = 45))))] [] rfl ⟨.inl rfl, ⟨.inl rfl, ⟨.inl rfl, trivial⟩⟩⟩ trivial ?_
  conv => whnf
  refine br_nd H (fun c H => ?_) (fun c H => ?_)
  conv => whnf
  exact ⟨(k, wrap64 (x3 + 1)), [], ⟨H, lt_⟩, lt_, (fits_of ⟨.inl ⟨rfl, rfl⟩, trivial⟩ trivial fi_ trivial rfl)⟩
  conv => whnf
  injection H with H; subst H
  exact ret_fz [] (rtA_eq rfl)
  conv => whnf
  refine Br.f ff_ ?_
  conv => whnf
  refine Br.f rfl ?_
  conv => whnf
  refine Br.f ff_ ?_
  conv => whnf
  refine Br.f rfl ?_
  conv => whnf
  refine Br.f rfl ?_
  conv => whnf
  refine Br.f rfl ?_
  conv => whnf
  refine Br.f rfl ?_
  conv => whnf
  refine cut_ 264 [(0, .str a0), (3, .int .i64 x3), (36, .bool (!(decide ((bt a0 x3) = 45))))] [] rfl ⟨.inl rfl, ⟨.inl rfl, ⟨.inl rfl, trivial⟩⟩⟩ trivial ?_
  conv => whnf
  refine br_nd H (fun c H => ?_) (fun c H => ?_)
  conv => whnf
  exact ⟨(k, wrap64 (x3 + 1)), [], ⟨H, lt_⟩, lt_, (fits_of ⟨.inl ⟨rfl, rfl⟩, trivial⟩ trivial fi_ trivial rfl)⟩
  conv => whnf
  injection H with H; subst H
  exact ret_fz [] (rtA_eq rfl)
  conv => whnf
  injection H with H; subst H
  exact ret_fz [] (rtA_eq rfl)
  conv => whnf
  injection H with H; subst H
  exact ret_fz [] (rtA_eq rfl)
theorem spec_l21UsesOk.l0_lp {F : (Exit → St → Prop) → St → Prop} {hv : List Tmp} {Q : Exit → St → Prop} {σ : St} {r : Bool} {k : Nat} {a0_1 : Int} {a0_3 : List S_impl_ClaimUse} {x3 : Int} (H : spec_l21UsesOk.l0 k a0_1 a0_3 x3 = some r) (rn : List (Option Nat)) (h1 : Fits σ σ [] [(3, .int .i64 x3)] [] [] rn)
    (h2 : ∀ (k0 : Nat) (x3 : Int), k0 < k + 1 → spec_l21UsesOk.l0 k0 a0_1 a0_3 x3 = some r → headN σ hv [] [(3, .int .i64 x3)] [] [] (F (fun e σ' => match e with | .normal => ∃ (y : Nat × Int) (rn : List (Option Nat)), (spec_l21UsesOk.l0 y.1 a0_1 a0_3 y.2 = some r ∧ y.1 < k + 1) ∧ y.1 < k0 ∧ Fits σ σ' [] [(3, .int .i64 y.2)] [] [] rn | e => Q e σ'))) : Lp F hv Q σ := by
  unfold Lp
  refine ⟨Nat × Int, fun x => spec_l21UsesOk.l0 x.1 a0_1 a0_3 x.2 = some r ∧ x.1 < k + 1, fun x => x.1, [], fun x => [(3, .int .i64 x.2)], fun x => [], fun x => [], ⟨(k, x3), rn, ⟨H, Nat.lt_succ_self _⟩, h1⟩, ?_⟩
  rintro ⟨k, x3⟩ ⟨H, hk⟩
  exact h2 k x3 hk H
theorem spec_l21UsesOk.ac {k : Nat} {a0_0 : Int} {a0_1 : Int} {a0_2 : List ByteArray} {a0_3 : List S_impl_ClaimUse} {a0_4 : List ByteArray} {a0_5 : List ByteArray} {r : Bool} (H : spec_l21UsesOk.f k a0_0 a0_1 a0_2 a0_3 a0_4 a0_5 = some r) : ACalls Try.prog G 200 [] [.agg [.int .i64 a0_0, .int .i64 a0_1, (sv_str a0_2), (sv_S_impl_ClaimUse a0_3), (sv_str a0_4), (sv_str a0_5)]] [] (.bool r) := by
  refine acalls_of tok hP Try.func200 rfl (by kernel_rfl) [.tmp 2] rfl (by kernel_rfl) (Nat.le_of_ble_eq_true rfl) (.l .n (.l .n (.l (.l .n (.l (.c .n .n) (.l (.l .n (.l (.c .n (.l (.c .n .n) .n)) (.c .n .n))) .n))) .n))) rfl ?_
  unfold spec_l21UsesOk.f at H
  conv => whnf
  refine br_d H (fun c H => ?_) (fun c H => ?_)
  conv => whnf
  injection H with H; subst H
  exact ret_fz [] (rtA_eq rfl)
  conv => whnf
  refine spec_l21UsesOk.l0_lp (a0_1 := a0_1) (a0_3 := a0_3) (k := k) H [] (fits_of ⟨.inl ⟨rfl, rfl⟩, trivial⟩ trivial fi_ trivial rfl) ?_
  intro k x3 hk H; rcases k with _ | k; exact none_elim H; rw [spec_l21UsesOk.l0] at H; conv => whnf
  refine cut_ 96 [(1, .bp 0 0), (3, .int .i64 x3), (13, .bool (decide (x3 < (a0_3.length : Int))))] [(0, .box [.int .i64 a0_0, .int .i64 a0_1, (sv_str a0_2), (sv_S_impl_ClaimUse a0_3), (sv_str a0_4), (sv_str a0_5)])] rfl ⟨.inl rfl, ⟨.inl rfl, ⟨.inl rfl, trivial⟩⟩⟩ ⟨rfl, trivial⟩ ?_
  conv => whnf
  refine br_d H (fun c H => ?_) (fun c H => ?_)
  conv => whnf
  refine nd_ H (fun c H => ?_)
  conv => whnf
  refine Nd.mk nf_ ?_
  conv => whnf
  refine El.mk (rdm_en_S_impl_ClaimUse _ _ nf_ nf_) ?_
  conv => whnf
  revert H; refine bind_elim (fun t477 A H => ?_)
  refine call_mk (spec_l21NameOk.ac A) (avAL_cons (avA_shut' rfl) (avAL_nil)) (Or.inl rfl) rfl rfl (Nat.le_of_ble_eq_true rfl) ?_
  conv => whnf
  refine br_nt H (fun c H => ?_) (fun c H => ?_)
  conv => whnf
  refine Br.f ff_ ?_
  conv => whnf
  refine Br.f ff_ ?_
  conv => whnf
  refine br_d H (fun c H => ?_) (fun c H => ?_)
  conv => whnf
  refine Br.t ft_ ?_
  conv => whnf
  refine Br.t ft_ ?_
  conv => whnf
  refine Br.t ft_ ?_
  conv => whnf
  refine Br.t ft_ ?_
  conv => whnf
  refine nd_ H (fun c H => ?_)
  conv => whnf
  refine nd_ H (fun c H => ?_)
  conv => whnf
  refine El.mk (rdm_en_S_impl_ClaimUse _ _ nf_ nf_) ?_
  conv => whnf
  refine Br.t ft_ ?_
  conv => whnf
  refine Br.t ft_ ?_
  conv => whnf
  refine Br.t ft_ ?_
  conv => whnf
  refine Br.t ft_ ?_
  conv => whnf
  refine Br.t ft_ ?_
  conv => whnf
  refine Br.f ff_ ?_
  conv => whnf
  refine Br.t ft_ ?_
  conv => whnf
  refine Br.f ff_ ?_
  conv => whnf
  refine br_nt H (fun c H => ?_) (fun c H => ?_)
  conv => whnf
  refine Br.f ff_ ?_
  conv => whnf
  refine Br.f ff_ ?_
  conv => whnf
  revert H; refine bind_elim (fun t478 A H => ?_)
  refine call_mk (spec_l21In.ac A) (avAL_cons (avA_shut' rfl) (avAL_cons (avA_shut' rfl) (avAL_cons (avA_shut' rfl) (avAL_nil)))) (Or.inl rfl) rfl rfl (Nat.le_of_ble_eq_true rfl) ?_
  conv => whnf
  refine Br.f ff_ ?_
  conv => whnf
  refine Br.f ff_ ?_
  conv => whnf
  refine cut_ 360 [(1, .bp 0 0), (3, .int .i64 x3), (4, .bp 136 0), (46, .bool (!t478))] [(0, .box [.int .i64 a0_0, .int .i64 a0_1, (sv_str a0_2), (sv_S_impl_ClaimUse a0_3), (sv_str a0_4), (sv_str a0_5)]), (136, .box [.str ((rd_impl_ClaimUse a0_3 x3).f0), .int .i64 ((rd_impl_ClaimUse a0_3 x3).f1), .int .i64 ((rd_impl_ClaimUse a0_3 x3).f2)])] rfl ⟨.inl rfl, ⟨.inl rfl, ⟨.inl rfl, ⟨.inl rfl, trivial⟩⟩⟩⟩ ⟨rfl, ⟨rfl, trivial⟩⟩ ?_
  conv => whnf
  refine br_nt H (fun c H => ?_) (fun c H => ?_)
  conv => whnf
  refine br_d H (fun c H => ?_) (fun c H => ?_)
  conv => whnf
  refine Br.t ft_ ?_
  conv => whnf
  refine Br.t ft_ ?_
  conv => whnf
  refine Br.t ft_ ?_
  conv => whnf
  refine br_nd H (fun c H => ?_) (fun c H => ?_)
  conv => whnf
  refine Br.f ff_ ?_
  conv => whnf
  refine Br.f ff_ ?_
  conv => whnf
  refine Br.f ff_ ?_
  conv => whnf
  refine Br.f ff_ ?_
  conv => whnf
  refine Br.f ff_ ?_
  conv => whnf
  refine Br.f ff_ ?_
  conv => whnf
  refine Br.f ff_ ?_
  conv => whnf
  refine Br.f ff_ ?_
  conv => whnf
  refine Br.f ff_ ?_
  conv => whnf
  refine Br.f ff_ ?_
  conv => whnf
  refine Br.f ff_ ?_
  conv => whnf
  refine cut_ 552 [(1, .bp 0 0), (3, .int .i64 x3), (70, .bool false)] [(0, .box [.int .i64 a0_0, .int .i64 a0_1, (sv_str a0_2), (sv_S_impl_ClaimUse a0_3), (sv_str a0_4), (sv_str a0_5)])] rfl ⟨.inl rfl, ⟨.inl rfl, ⟨.inl rfl, trivial⟩⟩⟩ ⟨rfl, trivial⟩ ?_
  conv => whnf
  refine Br.f rfl ?_
  conv => whnf
  exact ⟨(k, wrap64 (x3 + 1)), [], ⟨H, lt_⟩, lt_, (fits_of ⟨.inl ⟨rfl, rfl⟩, trivial⟩ trivial fi_ trivial rfl)⟩
  conv => whnf
  refine Br.t ft_ ?_
  conv => whnf
  refine Br.t ft_ ?_
  conv => whnf
  refine Br.t ft_ ?_
  conv => whnf
  refine Br.t ft_ ?_
  conv => whnf
  refine Br.t ft_ ?_
  conv => whnf
  refine cut_ 552 [(1, .bp 0 0), (3, .int .i64 x3), (70, .bool true)] [(0, .box [.int .i64 a0_0, .int .i64 a0_1, (sv_str a0_2), (sv_S_impl_ClaimUse a0_3), (sv_str a0_4), (sv_str a0_5)])] rfl ⟨.inl rfl, ⟨.inl rfl, ⟨.inl rfl, trivial⟩⟩⟩ ⟨rfl, trivial⟩ ?_
  conv => whnf
  refine Br.t rfl ?_
  conv => whnf
  injection H with H; subst H
  exact ret_fz [] (rtA_eq rfl)
  conv => whnf
  refine Br.f ff_ ?_
  conv => whnf
  refine Br.f ff_ ?_
  conv => whnf
  refine Br.f ff_ ?_
  conv => whnf
  refine Br.f rfl ?_
  conv => whnf
  refine Br.f rfl ?_
  conv => whnf
  refine Br.f rfl ?_
  conv => whnf
  refine Br.f rfl ?_
  conv => whnf
  refine Br.t ft_ ?_
  conv => whnf
  refine Br.t ft_ ?_
  conv => whnf
  refine Br.t ft_ ?_
  conv => whnf
  refine Br.t ft_ ?_
  conv => whnf
  refine br_nd H (fun c H => ?_) (fun c H => ?_)
  conv => whnf
  refine Br.f ff_ ?_
  conv => whnf
  refine Br.f ff_ ?_
  conv => whnf
  revert H; refine bind_elim (fun t479 A H => ?_)
  refine call_mk (spec_l21In.ac A) (avAL_cons (avA_shut' rfl) (avAL_cons (avA_shut' rfl) (avAL_cons (avA_shut' rfl) (avAL_nil)))) (Or.inl rfl) rfl rfl (Nat.le_of_ble_eq_true rfl) ?_
  conv => whnf
  refine Br.f ff_ ?_
  conv => whnf
  refine Br.t ft_ ?_
  conv => whnf
  refine Br.f ff_ ?_
  conv => whnf
  refine Br.f rfl ?_
  conv => whnf
  refine Br.t ft_ ?_
  conv => whnf
  refine Br.f rfl ?_
  conv => whnf
  refine cut_ 552 [(1, .bp 0 0), (3, .int .i64 x3), (70, .bool (!t479))] [(0, .box [.int .i64 a0_0, .int .i64 a0_1, (sv_str a0_2), (sv_S_impl_ClaimUse a0_3), (sv_str a0_4), (sv_str a0_5)])] rfl ⟨.inl rfl, ⟨.inl rfl, ⟨.inl rfl, trivial⟩⟩⟩ ⟨rfl, trivial⟩ ?_
  conv => whnf
  refine br_nt H (fun c H => ?_) (fun c H => ?_)
  conv => whnf
  exact ⟨(k, wrap64 (x3 + 1)), [], ⟨H, lt_⟩, lt_, (fits_of ⟨.inl ⟨rfl, rfl⟩, trivial⟩ trivial fi_ trivial rfl)⟩
  conv => whnf
  injection H with H; subst H
  exact ret_fz [] (rtA_eq rfl)
  conv => whnf
  refine Br.t ft_ ?_
  conv => whnf
  refine Br.t ft_ ?_
  conv => whnf
  refine Br.t ft_ ?_
  conv => whnf
  refine Br.t ft_ ?_
  conv => whnf
  refine Br.t ft_ ?_
  conv => whnf
  refine Br.f rfl ?_
  conv => whnf
  refine Br.t ft_ ?_
  conv => whnf
  refine Br.f rfl ?_
  conv => whnf
  refine cut_ 552 [(1, .bp 0 0), (3, .int .i64 x3), (70, .bool true)] [(0, .box [.int .i64 a0_0, .int .i64 a0_1, (sv_str a0_2), (sv_S_impl_ClaimUse a0_3), (sv_str a0_4), (sv_str a0_5)])] rfl ⟨.inl rfl, ⟨.inl rfl, ⟨.inl rfl, trivial⟩⟩⟩ ⟨rfl, trivial⟩ ?_
  conv => whnf
  refine Br.t rfl ?_
  conv => whnf
  injection H with H; subst H
  exact ret_fz [] (rtA_eq rfl)
  conv => whnf
  refine cut_ 368 [(2, .bool false)] [] rfl ⟨.inl rfl, trivial⟩ trivial ?_
  conv => whnf
  injection H with H; subst H
  exact ret_fz [] (rtA_eq rfl)
  conv => whnf
  refine Br.t ft_ ?_
  conv => whnf
  refine Br.t ft_ ?_
  conv => whnf
  refine Br.t ft_ ?_
  conv => whnf
  refine Br.t ft_ ?_
  conv => whnf
  refine cut_ 360 [(1, .bp 0 0), (3, .int .i64 x3), (4, .bp 136 0), (46, .bool true)] [(0, .box [.int .i64 a0_0, .int .i64 a0_1, (sv_str a0_2), (sv_S_impl_ClaimUse a0_3), (sv_str a0_4), (sv_str a0_5)]), (136, .box [.str ((rd_impl_ClaimUse a0_3 x3).f0), .int .i64 ((rd_impl_ClaimUse a0_3 x3).f1), .int .i64 ((rd_impl_ClaimUse a0_3 x3).f2)])] rfl ⟨.inl rfl, ⟨.inl rfl, ⟨.inl rfl, ⟨.inl rfl, trivial⟩⟩⟩⟩ ⟨rfl, ⟨rfl, trivial⟩⟩ ?_
  conv => whnf
  refine Br.t rfl ?_
  conv => whnf
  refine cut_ 368 [(2, .bool false)] [] rfl ⟨.inl rfl, trivial⟩ trivial ?_
  conv => whnf
  injection H with H; subst H
  exact ret_fz [] (rtA_eq rfl)
  conv => whnf
  refine Br.f ff_ ?_
  conv => whnf
  refine Br.f ff_ ?_
  conv => whnf
  refine Br.f ff_ ?_
  conv => whnf
  refine Br.f ff_ ?_
  conv => whnf
  refine Br.f ff_ ?_
  conv => whnf
  refine Br.f ff_ ?_
  conv => whnf
  refine Br.f ff_ ?_
  conv => whnf
  refine Br.f ff_ ?_
  conv => whnf
  refine Br.f ff_ ?_
  conv => whnf
  refine Br.f ff_ ?_
  conv => whnf
  refine Br.f ff_ ?_
  conv => whnf
  refine Br.f ff_ ?_
  conv => whnf
  refine Br.f rfl ?_
  conv => whnf
  refine Br.f rfl ?_
  conv => whnf
  refine Br.f rfl ?_
  conv => whnf
  revert H; refine bind_elim (fun t480 A H => ?_)
  refine call_mk (spec_l21In.ac A) (avAL_cons (avA_shut' rfl) (avAL_cons (avA_shut' rfl) (avAL_cons (avA_shut' rfl) (avAL_nil)))) (Or.inl rfl) rfl rfl (Nat.le_of_ble_eq_true rfl) ?_
  conv => whnf
  refine Br.f rfl ?_
  conv => whnf
  refine Br.f rfl ?_
  conv => whnf
  refine cut_ 360 [(1, .bp 0 0), (3, .int .i64 x3), (4, .bp 136 0), (46, .bool (!t480))] [(0, .box [.int .i64 a0_0, .int .i64 a0_1, (sv_str a0_2), (sv_S_impl_ClaimUse a0_3), (sv_str a0_4), (sv_str a0_5)]), (136, .box [.str ((rd_impl_ClaimUse a0_3 x3).f0), .int .i64 ((rd_impl_ClaimUse a0_3 x3).f1), .int .i64 ((rd_impl_ClaimUse a0_3 x3).f2)])] rfl ⟨.inl rfl, ⟨.inl rfl, ⟨.inl rfl, ⟨.inl rfl, trivial⟩⟩⟩⟩ ⟨rfl, ⟨rfl, trivial⟩⟩ ?_
  conv => whnf
  refine br_nt H (fun c H => ?_) (fun c H => ?_)
  conv => whnf
  refine br_d H (fun c H => ?_) (fun c H => ?_)
  conv => whnf
  refine Br.t ft_ ?_
  conv => whnf
  refine Br.t ft_ ?_
  conv => whnf
  refine Br.t ft_ ?_
  conv => whnf
  refine br_nd H (fun c H => ?_) (fun c H => ?_)
  conv => whnf
  refine Br.f ff_ ?_
  conv => whnf
  refine Br.f ff_ ?_
  conv => whnf
  refine Br.f ff_ ?_
  conv => whnf
  refine Br.f ff_ ?_
  conv => whnf
  refine Br.f ff_ ?_
  conv => whnf
  refine Br.f ff_ ?_
  conv => whnf
  refine Br.f ff_ ?_
  conv => whnf
  refine Br.f ff_ ?_
  conv => whnf
  refine Br.f ff_ ?_
  conv => whnf
  refine Br.f ff_ ?_
  conv => whnf
  refine Br.f ff_ ?_
  conv => whnf
  refine cut_ 552 [(1, .bp 0 0), (3, .int .i64 x3), (70, .bool false)] [(0, .box [.int .i64 a0_0, .int .i64 a0_1, (sv_str a0_2), (sv_S_impl_ClaimUse a0_3), (sv_str a0_4), (sv_str a0_5)])] rfl ⟨.inl rfl, ⟨.inl rfl, ⟨.inl rfl, trivial⟩⟩⟩ ⟨rfl, trivial⟩ ?_
  conv => whnf
  refine Br.f rfl ?_
  conv => whnf
  exact ⟨(k, wrap64 (x3 + 1)), [], ⟨H, lt_⟩, lt_, (fits_of ⟨.inl ⟨rfl, rfl⟩, trivial⟩ trivial fi_ trivial rfl)⟩
  conv => whnf
  refine Br.t ft_ ?_
  conv => whnf
  refine Br.t ft_ ?_
  conv => whnf
  refine Br.t ft_ ?_
  conv => whnf
  refine Br.t ft_ ?_
  conv => whnf
  refine Br.t ft_ ?_
  conv => whnf
  refine cut_ 552 [(1, .bp 0 0), (3, .int .i64 x3), (70, .bool true)] [(0, .box [.int .i64 a0_0, .int .i64 a0_1, (sv_str a0_2), (sv_S_impl_ClaimUse a0_3), (sv_str a0_4), (sv_str a0_5)])] rfl ⟨.inl rfl, ⟨.inl rfl, ⟨.inl rfl, trivial⟩⟩⟩ ⟨rfl, trivial⟩ ?_
  conv => whnf
  refine Br.t rfl ?_
  conv => whnf
  injection H with H; subst H
  exact ret_fz [] (rtA_eq rfl)
  conv => whnf
  refine Br.f ff_ ?_
  conv => whnf
  refine Br.f ff_ ?_
  conv => whnf
  refine Br.f ff_ ?_
  conv => whnf
  refine Br.f rfl ?_
  conv => whnf
  refine Br.f rfl ?_
  conv => whnf
  refine Br.f rfl ?_
  conv => whnf
  refine Br.f rfl ?_
  conv => whnf
  refine Br.t ft_ ?_
  conv => whnf
  refine Br.t ft_ ?_
  conv => whnf
  refine Br.t ft_ ?_
  conv => whnf
  refine Br.t ft_ ?_
  conv => whnf
  refine br_nd H (fun c H => ?_) (fun c H => ?_)
  conv => whnf
  refine Br.f ff_ ?_
  conv => whnf
  refine Br.f ff_ ?_
  conv => whnf
  revert H; refine bind_elim (fun t481 A H => ?_)
  refine call_mk (spec_l21In.ac A) (avAL_cons (avA_shut' rfl) (avAL_cons (avA_shut' rfl) (avAL_cons (avA_shut' rfl) (avAL_nil)))) (Or.inl rfl) rfl rfl (Nat.le_of_ble_eq_true rfl) ?_
  conv => whnf
  refine Br.f ff_ ?_
  conv => whnf
  refine Br.t ft_ ?_
  conv => whnf
  refine Br.f ff_ ?_
  conv => whnf
  refine Br.f rfl ?_
  conv => whnf
  refine Br.t ft_ ?_
  conv => whnf
  refine Br.f rfl ?_
  conv => whnf
  refine cut_ 552 [(1, .bp 0 0), (3, .int .i64 x3), (70, .bool (!t481))] [(0, .box [.int .i64 a0_0, .int .i64 a0_1, (sv_str a0_2), (sv_S_impl_ClaimUse a0_3), (sv_str a0_4), (sv_str a0_5)])] rfl ⟨.inl rfl, ⟨.inl rfl, ⟨.inl rfl, trivial⟩⟩⟩ ⟨rfl, trivial⟩ ?_
  conv => whnf
  refine br_nt H (fun c H => ?_) (fun c H => ?_)
  conv => whnf
  exact ⟨(k, wrap64 (x3 + 1)), [], ⟨H, lt_⟩, lt_, (fits_of ⟨.inl ⟨rfl, rfl⟩, trivial⟩ trivial fi_ trivial rfl)⟩
  conv => whnf
  injection H with H; subst H
  exact ret_fz [] (rtA_eq rfl)
  conv => whnf
  refine Br.t ft_ ?_
  conv => whnf
  refine Br.t ft_ ?_
  conv => whnf
  refine Br.t ft_ ?_
  conv => whnf
  refine Br.t ft_ ?_
  conv => whnf
  refine Br.t ft_ ?_
  conv => whnf
  refine Br.f rfl ?_
  conv => whnf
  refine Br.t ft_ ?_
  conv => whnf
  refine Br.f rfl ?_
  conv => whnf
  refine cut_ 552 [(1, .bp 0 0), (3, .int .i64 x3), (70, .bool true)] [(0, .box [.int .i64 a0_0, .int .i64 a0_1, (sv_str a0_2), (sv_S_impl_ClaimUse a0_3), (sv_str a0_4), (sv_str a0_5)])] rfl ⟨.inl rfl, ⟨.inl rfl, ⟨.inl rfl, trivial⟩⟩⟩ ⟨rfl, trivial⟩ ?_
  conv => whnf
  refine Br.t rfl ?_
  conv => whnf
  injection H with H; subst H
  exact ret_fz [] (rtA_eq rfl)
  conv => whnf
  refine cut_ 368 [(2, .bool false)] [] rfl ⟨.inl rfl, trivial⟩ trivial ?_
  conv => whnf
  injection H with H; subst H
  exact ret_fz [] (rtA_eq rfl)
  conv => whnf
  refine Br.t ft_ ?_
  conv => whnf
  refine Br.t ft_ ?_
  conv => whnf
  refine Br.t ft_ ?_
  conv => whnf
  refine Br.t ft_ ?_
  conv => whnf
  refine Br.t rfl ?_
  conv => whnf
  refine Br.t rfl ?_
  conv => whnf
  refine Br.t rfl ?_
  conv => whnf
  refine Br.t rfl ?_
  conv => whnf
  refine Br.t rfl ?_
  conv => whnf
  refine cut_ 360 [(1, .bp 0 0), (3, .int .i64 x3), (4, .bp 136 0), (46, .bool true)] [(0, .box [.int .i64 a0_0, .int .i64 a0_1, (sv_str a0_2), (sv_S_impl_ClaimUse a0_3), (sv_str a0_4), (sv_str a0_5)]), (136, .box [.str ((rd_impl_ClaimUse a0_3 x3).f0), .int .i64 ((rd_impl_ClaimUse a0_3 x3).f1), .int .i64 ((rd_impl_ClaimUse a0_3 x3).f2)])] rfl ⟨.inl rfl, ⟨.inl rfl, ⟨.inl rfl, ⟨.inl rfl, trivial⟩⟩⟩⟩ ⟨rfl, ⟨rfl, trivial⟩⟩ ?_
  conv => whnf
  refine Br.t rfl ?_
  conv => whnf
  refine cut_ 368 [(2, .bool false)] [] rfl ⟨.inl rfl, trivial⟩ trivial ?_
  conv => whnf
  injection H with H; subst H
  exact ret_fz [] (rtA_eq rfl)
  conv => whnf
  injection H with H; subst H
  exact ret_fz [] (rtA_eq rfl)
theorem spec_l21NamesOk.l0_lp {F : (Exit → St → Prop) → St → Prop} {hv : List Tmp} {Q : Exit → St → Prop} {σ : St} {r : Bool} {k : Nat} {l0 : List ByteArray} {x5 : Int} (H : spec_l21NamesOk.l0 k l0 x5 = some r) (rn : List (Option Nat)) (h1 : Fits σ σ [] [(5, .int .i64 x5)] [] [] rn)
    (h2 : ∀ (k0 : Nat) (x5 : Int), k0 < k + 1 → spec_l21NamesOk.l0 k0 l0 x5 = some r → headN σ hv [] [(5, .int .i64 x5)] [] [] (F (fun e σ' => match e with | .normal => ∃ (y : Nat × Int) (rn : List (Option Nat)), (spec_l21NamesOk.l0 y.1 l0 y.2 = some r ∧ y.1 < k + 1) ∧ y.1 < k0 ∧ Fits σ σ' [] [(5, .int .i64 y.2)] [] [] rn | e => Q e σ'))) : Lp F hv Q σ := by
  unfold Lp
  refine ⟨Nat × Int, fun x => spec_l21NamesOk.l0 x.1 l0 x.2 = some r ∧ x.1 < k + 1, fun x => x.1, [], fun x => [(5, .int .i64 x.2)], fun x => [], fun x => [], ⟨(k, x5), rn, ⟨H, Nat.lt_succ_self _⟩, h1⟩, ?_⟩
  rintro ⟨k, x5⟩ ⟨H, hk⟩
  exact h2 k x5 hk H
theorem spec_l21NamesOk.ac {k : Nat} {l0 : List ByteArray} {a1 : Int} {r : Bool} (H : spec_l21NamesOk.f k l0 a1 = some r) : ACalls Try.prog G 94 [] [(sv_str l0), .int .i64 a1] [] (.bool r) := by
  refine acalls_of tok hP Try.func94 rfl (by kernel_rfl) [.tmp 4] rfl (by kernel_rfl) (Nat.le_of_ble_eq_true rfl) (.l .n (.l .n (.l (.l .n (.l (.c .n .n) (.l (.c .n (.l (.c .n .n) .n)) .n))) .n))) rfl ?_
  unfold spec_l21NamesOk.f at H
  conv => whnf
  refine br_d H (fun c H => ?_) (fun c H => ?_)
  conv => whnf
  injection H with H; subst H
  exact ret_fz [] (rtA_eq rfl)
  conv => whnf
  refine spec_l21NamesOk.l0_lp (l0 := l0) (k := k) H [] (fits_of ⟨.inl ⟨rfl, rfl⟩, trivial⟩ trivial fi_ trivial rfl) ?_
  intro k x5 hk H; rcases k with _ | k; exact none_elim H; rw [spec_l21NamesOk.l0] at H; conv => whnf
  refine cut_ 80 [(0, (sv_str l0)), (5, .int .i64 x5), (13, .bool (decide (x5 < (l0.length : Int))))] [] rfl ⟨.inl rfl, ⟨.inl rfl, ⟨.inl rfl, trivial⟩⟩⟩ trivial ?_
  conv => whnf
  refine br_d H (fun c H => ?_) (fun c H => ?_)
  conv => whnf
  refine nd_ H (fun c H => ?_)
  conv => whnf
  refine Nd.mk nf_ ?_
  conv => whnf
  refine El.mk (rdm_en_str _ _ nf_ nf_) ?_
  conv => whnf
  revert H; refine bind_elim (fun t506 A H => ?_)
  refine call_mk (spec_l21NameOk.ac A) (avAL_cons (avA_shut' rfl) (avAL_nil)) (Or.inl rfl) rfl rfl (Nat.le_of_ble_eq_true rfl) ?_
  conv => whnf
  refine br_nt H (fun c H => ?_) (fun c H => ?_)
  conv => whnf
  refine Br.f ff_ ?_
  conv => whnf
  refine Br.f ff_ ?_
  conv => whnf
  refine br_d H (fun c H => ?_) (fun c H => ?_)
  conv => whnf
  refine Br.t ft_ ?_
  conv => whnf
  refine Br.t ft_ ?_
  conv => whnf
  refine Br.t ft_ ?_
  conv => whnf
  refine nd_ H (fun c H => ?_)
  conv => whnf
  refine nd_ H (fun c H => ?_)
  conv => whnf
  refine El.mk (rdm_en_str _ _ nf_ nf_) ?_
  conv => whnf
  refine Br.t ft_ ?_
  conv => whnf
  refine Br.t ft_ ?_
  conv => whnf
  refine Br.t ft_ ?_
  conv => whnf
  refine Br.t ft_ ?_
  conv => whnf
  refine Nd.mk nf_ ?_
  conv => whnf
  refine Nd.mk nf_ ?_
  conv => whnf
  refine El.mk (rdm_en_str _ _ nf_ nf_) ?_
  conv => whnf
  refine Br.t ft_ ?_
  conv => whnf
  refine Br.t ft_ ?_
  conv => whnf
  refine Br.f ff_ ?_
  conv => whnf
  refine Br.t ft_ ?_
  conv => whnf
  refine Br.f ff_ ?_
  conv => whnf
  refine cut_ 256 [(0, (sv_str l0)), (5, .int .i64 x5), (37, .bool (!(Op.bytesLess (rdOf ByteArray.empty l0 (wrap64 (x5 - 1))).toList (rdOf ByteArray.empty l0 x5).toList)))] [] rfl ⟨.inl rfl, ⟨.inl rfl, ⟨.inl rfl, trivial⟩⟩⟩ trivial ?_
  conv => whnf
  refine br_nt H (fun c H => ?_) (fun c H => ?_)
  conv => whnf
  exact ⟨(k, wrap64 (x5 + 1)), [], ⟨H, lt_⟩, lt_, (fits_of ⟨.inl ⟨rfl, rfl⟩, trivial⟩ trivial fi_ trivial rfl)⟩
  conv => whnf
  refine cut_ 264 [(4, .bool false)] [] rfl ⟨.inl rfl, trivial⟩ trivial ?_
  conv => whnf
  injection H with H; subst H
  exact ret_fz [] (rtA_eq rfl)
  conv => whnf
  refine Br.f ff_ ?_
  conv => whnf
  refine Br.f ff_ ?_
  conv => whnf
  refine Br.f ff_ ?_
  conv => whnf
  refine Br.f ff_ ?_
  conv => whnf
  refine Br.f ff_ ?_
  conv => whnf
  refine Br.f ff_ ?_
  conv => whnf
  refine Br.f ff_ ?_
  conv => whnf
  refine Br.f ff_ ?_
  conv => whnf
  refine Br.f ff_ ?_
  conv => whnf
  refine Br.f ff_ ?_
  conv => whnf
  refine Br.f ff_ ?_
  conv => whnf
  refine Br.f ff_ ?_
  conv => whnf
  refine cut_ 256 [(0, (sv_str l0)), (5, .int .i64 x5), (37, .bool false)] [] rfl ⟨.inl rfl, ⟨.inl rfl, ⟨.inl rfl, trivial⟩⟩⟩ trivial ?_
  conv => whnf
  refine Br.f rfl ?_
  conv => whnf
  exact ⟨(k, wrap64 (x5 + 1)), [], ⟨H, lt_⟩, lt_, (fits_of ⟨.inl ⟨rfl, rfl⟩, trivial⟩ trivial fi_ trivial rfl)⟩
  conv => whnf
  refine Br.t ft_ ?_
  conv => whnf
  refine Br.t ft_ ?_
  conv => whnf
  refine Br.t ft_ ?_
  conv => whnf
  refine Br.t ft_ ?_
  conv => whnf
  refine cut_ 256 [(0, (sv_str l0)), (5, .int .i64 x5), (37, .bool true)] [] rfl ⟨.inl rfl, ⟨.inl rfl, ⟨.inl rfl, trivial⟩⟩⟩ trivial ?_
  conv => whnf
  refine Br.t rfl ?_
  conv => whnf
  refine cut_ 264 [(4, .bool false)] [] rfl ⟨.inl rfl, trivial⟩ trivial ?_
  conv => whnf
  injection H with H; subst H
  exact ret_fz [] (rtA_eq rfl)
  conv => whnf
  injection H with H; subst H
  exact ret_fz [] (rtA_eq rfl)
theorem spec_l21Has.l0_lp {F : (Exit → St → Prop) → St → Prop} {hv : List Tmp} {Q : Exit → St → Prop} {σ : St} {r : Bool} {k : Nat} {l0 : List ByteArray} {a1 : ByteArray} {x5 : Int} (H : spec_l21Has.l0 k l0 a1 x5 = some r) (rn : List (Option Nat)) (h1 : Fits σ σ [] [(5, .int .i64 x5)] [] [] rn)
    (h2 : ∀ (k0 : Nat) (x5 : Int), k0 < k + 1 → spec_l21Has.l0 k0 l0 a1 x5 = some r → headN σ hv [] [(5, .int .i64 x5)] [] [] (F (fun e σ' => match e with | .normal => ∃ (y : Nat × Int) (rn : List (Option Nat)), (spec_l21Has.l0 y.1 l0 a1 y.2 = some r ∧ y.1 < k + 1) ∧ y.1 < k0 ∧ Fits σ σ' [] [(5, .int .i64 y.2)] [] [] rn | e => Q e σ'))) : Lp F hv Q σ := by
  unfold Lp
  refine ⟨Nat × Int, fun x => spec_l21Has.l0 x.1 l0 a1 x.2 = some r ∧ x.1 < k + 1, fun x => x.1, [], fun x => [(5, .int .i64 x.2)], fun x => [], fun x => [], ⟨(k, x5), rn, ⟨H, Nat.lt_succ_self _⟩, h1⟩, ?_⟩
  rintro ⟨k, x5⟩ ⟨H, hk⟩
  exact h2 k x5 hk H
theorem spec_l21Has.ac {k : Nat} {l0 : List ByteArray} {a1 : ByteArray} {r : Bool} (H : spec_l21Has.f k l0 a1 = some r) : ACalls Try.prog G 112 [] [(sv_str l0), .str a1] [] (.bool r) := by
  refine acalls_of tok hP Try.func112 rfl (by kernel_rfl) [.tmp 4] rfl (by kernel_rfl) (Nat.le_of_ble_eq_true rfl) (.l .n (.l (.l .n (.l .n (.l (.c .n .n) .n))) .n)) rfl ?_
  unfold spec_l21Has.f at H
  conv => whnf
  refine spec_l21Has.l0_lp (l0 := l0) (a1 := a1) (k := k) H [] (fits_of ⟨.inl ⟨rfl, rfl⟩, trivial⟩ trivial fi_ trivial rfl) ?_
  intro k x5 hk H; rcases k with _ | k; exact none_elim H; rw [spec_l21Has.l0] at H; conv => whnf
  refine br_d H (fun c H => ?_) (fun c H => ?_)
  conv => whnf
  refine nd_ H (fun c H => ?_)
  conv => whnf
  refine Nd.mk nf_ ?_
  conv => whnf
  refine El.mk (rdm_en_str _ _ nf_ nf_) ?_
  conv => whnf
  refine cut_ 96 [(0, (sv_str l0)), (1, .str a1), (5, .int .i64 x5), (17, .bool (decide ((rdOf ByteArray.empty l0 x5).toList = a1.toList)))] [] rfl ⟨.inl rfl, ⟨.inl rfl, ⟨.inl rfl, ⟨.inl rfl, trivial⟩⟩⟩⟩ trivial ?_
  conv => whnf
  refine br_d H (fun c H => ?_) (fun c H => ?_)
  conv => whnf
  injection H with H; subst H
  exact ret_fz [] (rtA_eq rfl)
  conv => whnf
  exact ⟨(k, wrap64 (x5 + 1)), [], ⟨H, lt_⟩, lt_, (fits_of ⟨.inl ⟨rfl, rfl⟩, trivial⟩ trivial fi_ trivial rfl)⟩
  conv => whnf
  injection H with H; subst H
  exact ret_fz [] (rtA_eq rfl)
theorem spec_l21Share.l0_lp {F : (Exit → St → Prop) → St → Prop} {hv : List Tmp} {Q : Exit → St → Prop} {σ : St} {r : Bool} {k : Nat} {l0 : List ByteArray} {l1 : List ByteArray} {x5 : Int} (H : spec_l21Share.l0 k l0 l1 x5 = some r) (rn : List (Option Nat)) (h1 : Fits σ σ [] [(5, .int .i64 x5)] [] [] rn)
    (h2 : ∀ (k0 : Nat) (x5 : Int), k0 < k + 1 → spec_l21Share.l0 k0 l0 l1 x5 = some r → headN σ hv [] [(5, .int .i64 x5)] [] [] (F (fun e σ' => match e with | .normal => ∃ (y : Nat × Int) (rn : List (Option Nat)), (spec_l21Share.l0 y.1 l0 l1 y.2 = some r ∧ y.1 < k + 1) ∧ y.1 < k0 ∧ Fits σ σ' [] [(5, .int .i64 y.2)] [] [] rn | e => Q e σ'))) : Lp F hv Q σ := by
  unfold Lp
  refine ⟨Nat × Int, fun x => spec_l21Share.l0 x.1 l0 l1 x.2 = some r ∧ x.1 < k + 1, fun x => x.1, [], fun x => [(5, .int .i64 x.2)], fun x => [], fun x => [], ⟨(k, x5), rn, ⟨H, Nat.lt_succ_self _⟩, h1⟩, ?_⟩
  rintro ⟨k, x5⟩ ⟨H, hk⟩
  exact h2 k x5 hk H
theorem spec_l21Share.ac {k : Nat} {l0 : List ByteArray} {l1 : List ByteArray} {r : Bool} (H : spec_l21Share.f k l0 l1 = some r) : ACalls Try.prog G 171 [] [(sv_str l0), (sv_str l1)] [] (.bool r) := by
  refine acalls_of tok hP Try.func171 rfl (by kernel_rfl) [.tmp 4] rfl (by kernel_rfl) (Nat.le_of_ble_eq_true rfl) (.l .n (.l (.l .n (.l .n (.l (.c .n .n) .n))) .n)) rfl ?_
  unfold spec_l21Share.f at H
  conv => whnf
  refine spec_l21Share.l0_lp (l0 := l0) (l1 := l1) (k := k) H [] (fits_of ⟨.inl ⟨rfl, rfl⟩, trivial⟩ trivial fi_ trivial rfl) ?_
  intro k x5 hk H; rcases k with _ | k; exact none_elim H; rw [spec_l21Share.l0] at H; conv => whnf
  refine br_d H (fun c H => ?_) (fun c H => ?_)
  conv => whnf
  refine nd_ H (fun c H => ?_)
  conv => whnf
  refine Nd.mk nf_ ?_
  conv => whnf
  refine El.mk (rdm_en_str _ _ nf_ nf_) ?_
  conv => whnf
  revert H; refine bind_elim (fun t556 A H => ?_)
  refine call_mk (spec_l21Has.ac A) (avAL_cons (avA_shut' rfl) (avAL_cons (avA_shut' rfl) (avAL_nil))) (Or.inl rfl) rfl rfl (Nat.le_of_ble_eq_true rfl) ?_
  conv => whnf
  refine cut_ 96 [(0, (sv_str l0)), (1, (sv_str l1)), (5, .int .i64 x5), (17, .bool t556)] [] rfl ⟨.inl rfl, ⟨.inl rfl, ⟨.inl rfl, ⟨.inl rfl, trivial⟩⟩⟩⟩ trivial ?_
  conv => whnf
  refine br_t H (fun c H => ?_) (fun c H => ?_)
  conv => whnf
  injection H with H; subst H
  exact ret_fz [] (rtA_eq rfl)
  conv => whnf
  exact ⟨(k, wrap64 (x5 + 1)), [], ⟨H, lt_⟩, lt_, (fits_of ⟨.inl ⟨rfl, rfl⟩, trivial⟩ trivial fi_ trivial rfl)⟩
  conv => whnf
  injection H with H; subst H
  exact ret_fz [] (rtA_eq rfl)
theorem spec_ClaimWantOk.ac {k : Nat} {a0_0 : Int} {a0_1 : Int} {a0_2 : List ByteArray} {a0_3 : List S_impl_ClaimUse} {a0_4 : List ByteArray} {a0_5 : List ByteArray} {r : Bool} (H : spec_ClaimWantOk.f k a0_0 a0_1 a0_2 a0_3 a0_4 a0_5 = some r) : ACalls Try.prog G 139 [] [.agg [.int .i64 a0_0, .int .i64 a0_1, (sv_str a0_2), (sv_S_impl_ClaimUse a0_3), (sv_str a0_4), (sv_str a0_5)]] [] (.bool r) := by
  refine acalls_of tok hP Try.func139 rfl (by kernel_rfl) [.tmp 2] rfl (by kernel_rfl) (Nat.le_of_ble_eq_true rfl) (.l .n (.l (.c .n (.l (.c .n .n) .n)) (.l (.c .n (.l (.c .n .n) .n)) (.c .n .n)))) rfl ?_
  unfold spec_ClaimWantOk.f at H
  conv => whnf
  revert H; refine bind_elim (fun t573 A H => ?_)
  refine call_mk (spec_l21In.ac A) (avAL_cons (avA_shut' rfl) (avAL_cons (avA_shut' rfl) (avAL_cons (avA_shut' rfl) (avAL_nil)))) (Or.inl rfl) rfl rfl (Nat.le_of_ble_eq_true rfl) ?_
  conv => whnf
  refine br_nt H (fun c H => ?_) (fun c H => ?_)
  conv => whnf
  refine Br.f ff_ ?_
  conv => whnf
  refine Br.f ff_ ?_
  conv => whnf
  revert H; refine bind_elim (fun t574 A H => ?_)
  refine call_mk (spec_l21In.ac A) (avAL_cons (avA_shut' rfl) (avAL_cons (avA_shut' rfl) (avAL_cons (avA_shut' rfl) (avAL_nil)))) (Or.inl rfl) rfl rfl (Nat.le_of_ble_eq_true rfl) ?_
  conv => whnf
  refine Br.f ff_ ?_
  conv => whnf
  refine Br.f ff_ ?_
  conv => whnf
  refine br_nt H (fun c H => ?_) (fun c H => ?_)
  conv => whnf
  refine Br.f ff_ ?_
  conv => whnf
  revert H; refine bind_elim (fun t575 A H => ?_)
  refine call_mk (spec_l21UsesOk.ac A) (avAL_cons (avA_agg (avL_cons (av_shut' rfl) (avL_cons (av_shut' rfl) (avL_cons (av_shut' rfl) (avL_cons (av_shut' rfl) (avL_cons (av_shut' rfl) (avL_cons (av_shut' rfl) (avL_nil)))))))) (avAL_nil)) (Or.inl rfl) rfl rfl (Nat.le_of_ble_eq_true rfl) ?_
  conv => whnf
  refine Br.f ff_ ?_
  conv => whnf
  refine Br.f ff_ ?_
  conv => whnf
  refine br_nt H (fun c H => ?_) (fun c H => ?_)
  conv => whnf
  refine Br.f ff_ ?_
  conv => whnf
  refine Br.f ff_ ?_
  conv => whnf
  revert H; refine bind_elim (fun t576 A H => ?_)
  refine call_mk (spec_l21NamesOk.ac A) (avAL_cons (avA_shut' rfl) (avAL_cons (avA_shut' rfl) (avAL_nil))) (Or.inl rfl) rfl rfl (Nat.le_of_ble_eq_true rfl) ?_
  conv => whnf
  refine Br.f ff_ ?_
  conv => whnf
  refine Br.f ff_ ?_
  conv => whnf
  refine br_nt H (fun c H => ?_) (fun c H => ?_)
  conv => whnf
  refine Br.f ff_ ?_
  conv => whnf
  refine Br.f ff_ ?_
  conv => whnf
  revert H; refine bind_elim (fun t577 A H => ?_)
  refine call_mk (spec_l21NamesOk.ac A) (avAL_cons (avA_shut' rfl) (avAL_cons (avA_shut' rfl) (avAL_nil))) (Or.inl rfl) rfl rfl (Nat.le_of_ble_eq_true rfl) ?_
  conv => whnf
  refine Br.f ff_ ?_
  conv => whnf
  refine Br.f ff_ ?_
  conv => whnf
  refine br_nt H (fun c H => ?_) (fun c H => ?_)
  conv => whnf
  refine Br.f ff_ ?_
  conv => whnf
  refine Br.f ff_ ?_
  conv => whnf
  refine Br.f ff_ ?_
  conv => whnf
  refine Br.f ff_ ?_
  conv => whnf
  revert H; refine bind_elim (fun t578 A H => ?_)
  refine call_mk (spec_l21Share.ac A) (avAL_cons (avA_shut' rfl) (avAL_cons (avA_shut' rfl) (avAL_nil))) (Or.inl rfl) rfl rfl (Nat.le_of_ble_eq_true rfl) ?_
  conv => whnf
  refine Br.f ff_ ?_
  conv => whnf
  refine cut_ 288 [(1, .bp 0 0), (36, .bool t578)] [(0, .box [.int .i64 a0_0, .int .i64 a0_1, (sv_str a0_2), (sv_S_impl_ClaimUse a0_3), (sv_str a0_4), (sv_str a0_5)])] rfl ⟨.inl rfl, ⟨.inl rfl, trivial⟩⟩ ⟨rfl, trivial⟩ ?_
  conv => whnf
  refine br_t H (fun c H => ?_) (fun c H => ?_)
  conv => whnf
  refine cut_ 296 [(2, .bool false)] [] rfl ⟨.inl rfl, trivial⟩ trivial ?_
  conv => whnf
  injection H with H; subst H
  exact ret_fz [] (rtA_eq rfl)
  conv => whnf
  refine br_d H (fun c H => ?_) (fun c H => ?_)
  conv => whnf
  refine Br.t ft_ ?_
  conv => whnf
  refine Br.t ft_ ?_
  conv => whnf
  refine Br.t ft_ ?_
  conv => whnf
  refine Br.t ft_ ?_
  conv => whnf
  refine Br.t ft_ ?_
  conv => whnf
  refine cut_ 472 [(1, .bp 0 0), (59, .bool true)] [(0, .box [.int .i64 a0_0, .int .i64 a0_1, (sv_str a0_2), (sv_S_impl_ClaimUse a0_3), (sv_str a0_4), (sv_str a0_5)])] rfl ⟨.inl rfl, ⟨.inl rfl, trivial⟩⟩ ⟨rfl, trivial⟩ ?_
  conv => whnf
  refine Br.t rfl ?_
  conv => whnf
  refine cut_ 480 [(2, .bool false)] [] rfl ⟨.inl rfl, trivial⟩ trivial ?_
  conv => whnf
  injection H with H; subst H
  exact ret_fz [] (rtA_eq rfl)
  conv => whnf
  refine Br.f ff_ ?_
  conv => whnf
  refine Br.f ff_ ?_
  conv => whnf
  refine Br.f ff_ ?_
  conv => whnf
  refine br_nd H (fun c H => ?_) (fun c H => ?_)
  conv => whnf
  refine Br.f ff_ ?_
  conv => whnf
  refine Br.f ff_ ?_
  conv => whnf
  refine Br.f ff_ ?_
  conv => whnf
  refine Br.f ff_ ?_
  conv => whnf
  refine Br.f ff_ ?_
  conv => whnf
  refine Br.f ff_ ?_
  conv => whnf
  refine cut_ 472 [(1, .bp 0 0), (59, .bool false)] [(0, .box [.int .i64 a0_0, .int .i64 a0_1, (sv_str a0_2), (sv_S_impl_ClaimUse a0_3), (sv_str a0_4), (sv_str a0_5)])] rfl ⟨.inl rfl, ⟨.inl rfl, trivial⟩⟩ ⟨rfl, trivial⟩ ?_
  conv => whnf
  refine Br.f rfl ?_
  conv => whnf
  revert H; refine bind_elim (fun t579 A H => ?_)
  refine call_mk (spec_l21NamesOk.ac A) (avAL_cons (avA_shut' rfl) (avAL_cons (avA_shut' rfl) (avAL_nil))) (Or.inl rfl) rfl rfl (Nat.le_of_ble_eq_true rfl) ?_
  conv => whnf
  refine br_t H (fun c H => ?_) (fun c H => ?_)
  conv => whnf
  refine Br.t ft_ ?_
  conv => whnf
  refine Br.t ft_ ?_
  conv => whnf
  refine Br.t ft_ ?_
  conv => whnf
  refine Br.t ft_ ?_
  conv => whnf
  refine Br.t ft_ ?_
  conv => whnf
  refine Br.t ft_ ?_
  conv => whnf
  refine Br.t ft_ ?_
  conv => whnf
  refine Br.t ft_ ?_
  conv => whnf
  refine cut_ 584 [(2, .bool ((decide (a0_1 = 1)) == (decide ((a0_2.length : Int) > 0))))] [] rfl ⟨.inl rfl, trivial⟩ trivial ?_
  conv => whnf
  injection H with H; subst H
  exact ret_fz [] (rtA_eq rfl)
  conv => whnf
  refine Br.f ff_ ?_
  conv => whnf
  refine Br.f ff_ ?_
  conv => whnf
  refine Br.f ff_ ?_
  conv => whnf
  refine Br.f ff_ ?_
  conv => whnf
  refine Br.f ff_ ?_
  conv => whnf
  refine Br.f ff_ ?_
  conv => whnf
  refine Br.f ff_ ?_
  conv => whnf
  refine Br.f ff_ ?_
  conv => whnf
  refine cut_ 584 [(2, .bool false)] [] rfl ⟨.inl rfl, trivial⟩ trivial ?_
  conv => whnf
  injection H with H; subst H
  exact ret_fz [] (rtA_eq rfl)
  conv => whnf
  refine Br.t ft_ ?_
  conv => whnf
  refine Br.t ft_ ?_
  conv => whnf
  refine Br.t ft_ ?_
  conv => whnf
  refine Br.f ff_ ?_
  conv => whnf
  refine Br.t ft_ ?_
  conv => whnf
  refine Br.f ff_ ?_
  conv => whnf
  refine cut_ 472 [(1, .bp 0 0), (59, .bool (decide ((a0_4.length : Int) > 0)))] [(0, .box [.int .i64 a0_0, .int .i64 a0_1, (sv_str a0_2), (sv_S_impl_ClaimUse a0_3), (sv_str a0_4), (sv_str a0_5)])] rfl ⟨.inl rfl, ⟨.inl rfl, trivial⟩⟩ ⟨rfl, trivial⟩ ?_
  conv => whnf
  refine br_d H (fun c H => ?_) (fun c H => ?_)
  conv => whnf
  refine cut_ 480 [(2, .bool false)] [] rfl ⟨.inl rfl, trivial⟩ trivial ?_
  conv => whnf
  injection H with H; subst H
  exact ret_fz [] (rtA_eq rfl)
  conv => whnf
  revert H; refine bind_elim (fun t580 A H => ?_)
  refine call_mk (spec_l21NamesOk.ac A) (avAL_cons (avA_shut' rfl) (avAL_cons (avA_shut' rfl) (avAL_nil))) (Or.inl rfl) rfl rfl (Nat.le_of_ble_eq_true rfl) ?_
  conv => whnf
  refine br_t H (fun c H => ?_) (fun c H => ?_)
  conv => whnf
  refine Br.t ft_ ?_
  conv => whnf
  refine Br.t ft_ ?_
  conv => whnf
  refine Br.t ft_ ?_
  conv => whnf
  refine Br.t ft_ ?_
  conv => whnf
  refine Br.t ft_ ?_
  conv => whnf
  refine Br.t ft_ ?_
  conv => whnf
  refine Br.t ft_ ?_
  conv => whnf
  refine Br.t ft_ ?_
  conv => whnf
  refine cut_ 584 [(2, .bool ((decide (a0_1 = 1)) == (decide ((a0_2.length : Int) > 0))))] [] rfl ⟨.inl rfl, trivial⟩ trivial ?_
  conv => whnf
  injection H with H; subst H
  exact ret_fz [] (rtA_eq rfl)
  conv => whnf
  refine Br.f ff_ ?_
  conv => whnf
  refine Br.f ff_ ?_
  conv => whnf
  refine Br.f ff_ ?_
  conv => whnf
  refine Br.f ff_ ?_
  conv => whnf
  refine Br.f ff_ ?_
  conv => whnf
  refine Br.f ff_ ?_
  conv => whnf
  refine Br.f ff_ ?_
  conv => whnf
  refine Br.f ff_ ?_
  conv => whnf
  refine cut_ 584 [(2, .bool false)] [] rfl ⟨.inl rfl, trivial⟩ trivial ?_
  conv => whnf
  injection H with H; subst H
  exact ret_fz [] (rtA_eq rfl)
  conv => whnf
  refine Br.t ft_ ?_
  conv => whnf
  refine Br.t ft_ ?_
  conv => whnf
  refine Br.t ft_ ?_
  conv => whnf
  refine Br.t ft_ ?_
  conv => whnf
  refine Br.t ft_ ?_
  conv => whnf
  refine cut_ 288 [(1, .bp 0 0), (36, .bool true)] [(0, .box [.int .i64 a0_0, .int .i64 a0_1, (sv_str a0_2), (sv_S_impl_ClaimUse a0_3), (sv_str a0_4), (sv_str a0_5)])] rfl ⟨.inl rfl, ⟨.inl rfl, trivial⟩⟩ ⟨rfl, trivial⟩ ?_
  conv => whnf
  refine Br.t rfl ?_
  conv => whnf
  refine cut_ 296 [(2, .bool false)] [] rfl ⟨.inl rfl, trivial⟩ trivial ?_
  conv => whnf
  injection H with H; subst H
  exact ret_fz [] (rtA_eq rfl)
  conv => whnf
  refine Br.t ft_ ?_
  conv => whnf
  refine Br.t ft_ ?_
  conv => whnf
  refine Br.t ft_ ?_
  conv => whnf
  refine Br.t ft_ ?_
  conv => whnf
  refine Br.t rfl ?_
  conv => whnf
  refine Br.t rfl ?_
  conv => whnf
  refine Br.t rfl ?_
  conv => whnf
  refine Br.t rfl ?_
  conv => whnf
  refine Br.t rfl ?_
  conv => whnf
  refine Br.t rfl ?_
  conv => whnf
  refine cut_ 288 [(1, .bp 0 0), (36, .bool true)] [(0, .box [.int .i64 a0_0, .int .i64 a0_1, (sv_str a0_2), (sv_S_impl_ClaimUse a0_3), (sv_str a0_4), (sv_str a0_5)])] rfl ⟨.inl rfl, ⟨.inl rfl, trivial⟩⟩ ⟨rfl, trivial⟩ ?_
  conv => whnf
  refine Br.t rfl ?_
  conv => whnf
  refine cut_ 296 [(2, .bool false)] [] rfl ⟨.inl rfl, trivial⟩ trivial ?_
  conv => whnf
  injection H with H; subst H
  exact ret_fz [] (rtA_eq rfl)
  conv => whnf
  refine Br.t ft_ ?_
  conv => whnf
  refine Br.t ft_ ?_
  conv => whnf
  refine Br.t ft_ ?_
  conv => whnf
  refine Br.t ft_ ?_
  conv => whnf
  refine Br.t rfl ?_
  conv => whnf
  refine Br.t rfl ?_
  conv => whnf
  refine Br.t rfl ?_
  conv => whnf
  refine Br.t rfl ?_
  conv => whnf
  refine Br.t rfl ?_
  conv => whnf
  refine Br.t rfl ?_
  conv => whnf
  refine Br.t rfl ?_
  conv => whnf
  refine Br.t rfl ?_
  conv => whnf
  refine Br.t rfl ?_
  conv => whnf
  refine Br.t rfl ?_
  conv => whnf
  refine Br.t rfl ?_
  conv => whnf
  refine cut_ 288 [(1, .bp 0 0), (36, .bool true)] [(0, .box [.int .i64 a0_0, .int .i64 a0_1, (sv_str a0_2), (sv_S_impl_ClaimUse a0_3), (sv_str a0_4), (sv_str a0_5)])] rfl ⟨.inl rfl, ⟨.inl rfl, trivial⟩⟩ ⟨rfl, trivial⟩ ?_
  conv => whnf
  refine Br.t rfl ?_
  conv => whnf
  refine cut_ 296 [(2, .bool false)] [] rfl ⟨.inl rfl, trivial⟩ trivial ?_
  conv => whnf
  injection H with H; subst H
  exact ret_fz [] (rtA_eq rfl)
  conv => whnf
  refine Br.t ft_ ?_
  conv => whnf
  refine Br.t ft_ ?_
  conv => whnf
  refine Br.t ft_ ?_
  conv => whnf
  refine Br.t rfl ?_
  conv => whnf
  refine Br.t rfl ?_
  conv => whnf
  refine Br.t rfl ?_
  conv => whnf
  refine Br.t rfl ?_
  conv => whnf
  refine Br.t rfl ?_
  conv => whnf
  refine Br.t rfl ?_
  conv => whnf
  refine Br.t rfl ?_
  conv => whnf
  refine Br.t rfl ?_
  conv => whnf
  refine Br.t rfl ?_
  conv => whnf
  refine Br.t rfl ?_
  conv => whnf
  refine Br.t rfl ?_
  conv => whnf
  refine Br.t rfl ?_
  conv => whnf
  refine Br.t rfl ?_
  conv => whnf
  refine Br.t rfl ?_
  conv => whnf
  refine Br.t rfl ?_
  conv => whnf
  refine Br.t rfl ?_
  conv => whnf
  refine cut_ 288 [(1, .bp 0 0), (36, .bool true)] [(0, .box [.int .i64 a0_0, .int .i64 a0_1, (sv_str a0_2), (sv_S_impl_ClaimUse a0_3), (sv_str a0_4), (sv_str a0_5)])] rfl ⟨.inl rfl, ⟨.inl rfl, trivial⟩⟩ ⟨rfl, trivial⟩ ?_
  conv => whnf
  refine Br.t rfl ?_
  conv => whnf
  refine cut_ 296 [(2, .bool false)] [] rfl ⟨.inl rfl, trivial⟩ trivial ?_
  conv => whnf
  injection H with H; subst H
  exact ret_fz [] (rtA_eq rfl)
  conv => whnf
  refine Br.t ft_ ?_
  conv => whnf
  refine Br.t ft_ ?_
  conv => whnf
  refine Br.t ft_ ?_
  conv => whnf
  refine Br.t ft_ ?_
  conv => whnf
  refine Br.t rfl ?_
  conv => whnf
  refine Br.t rfl ?_
  conv => whnf
  refine Br.t rfl ?_
  conv => whnf
  refine Br.t rfl ?_
  conv => whnf
  refine Br.t rfl ?_
  conv => whnf
  refine Br.t rfl ?_
  conv => whnf
  refine Br.t rfl ?_
  conv => whnf
  refine Br.t rfl ?_
  conv => whnf
  refine Br.t rfl ?_
  conv => whnf
  refine Br.t rfl ?_
  conv => whnf
  refine Br.t rfl ?_
  conv => whnf
  refine Br.t rfl ?_
  conv => whnf
  refine Br.t rfl ?_
  conv => whnf
  refine Br.t rfl ?_
  conv => whnf
  refine Br.t rfl ?_
  conv => whnf
  refine Br.t rfl ?_
  conv => whnf
  refine Br.t rfl ?_
  conv => whnf
  refine Br.t rfl ?_
  conv => whnf
  refine Br.t rfl ?_
  conv => whnf
  refine Br.t rfl ?_
  conv => whnf
  refine cut_ 288 [(1, .bp 0 0), (36, .bool true)] [(0, .box [.int .i64 a0_0, .int .i64 a0_1, (sv_str a0_2), (sv_S_impl_ClaimUse a0_3), (sv_str a0_4), (sv_str a0_5)])] rfl ⟨.inl rfl, ⟨.inl rfl, trivial⟩⟩ ⟨rfl, trivial⟩ ?_
  conv => whnf
  refine Br.t rfl ?_
  conv => whnf
  refine cut_ 296 [(2, .bool false)] [] rfl ⟨.inl rfl, trivial⟩ trivial ?_
  conv => whnf
  injection H with H; subst H
  exact ret_fz [] (rtA_eq rfl)
theorem spec_l32NoWant.ac {a0_0 : Int} {a0_1 : Int} {a0_2 : List ByteArray} {a0_3 : List S_impl_ClaimUse} {a0_4 : List ByteArray} {a0_5 : List ByteArray} {r : Bool} (H : spec_l32NoWant.f a0_0 a0_1 a0_2 a0_3 a0_4 a0_5 = some r) : ACalls Try.prog G 140 [] [.agg [.int .i64 a0_0, .int .i64 a0_1, (sv_str a0_2), (sv_S_impl_ClaimUse a0_3), (sv_str a0_4), (sv_str a0_5)]] [] (.bool r) := by
  refine acalls_of tok hP Try.func140 rfl (by kernel_rfl) [.tmp 2] rfl (by kernel_rfl) (Nat.le_of_ble_eq_true rfl) (.l .n (.c .n .n)) rfl ?_
  unfold spec_l32NoWant.f at H
  conv => whnf
  refine br_d H (fun c H => ?_) (fun c H => ?_)
  conv => whnf
  refine Br.t ft_ ?_
  conv => whnf
  refine Br.t ft_ ?_
  conv => whnf
  refine Br.t ft_ ?_
  conv => whnf
  refine br_d H (fun c H => ?_) (fun c H => ?_)
  conv => whnf
  refine Br.t ft_ ?_
  conv => whnf
  refine Br.t ft_ ?_
  conv => whnf
  refine Br.t ft_ ?_
  conv => whnf
  refine Br.t ft_ ?_
  conv => whnf
  refine Br.t ft_ ?_
  conv => whnf
  refine Br.t ft_ ?_
  conv => whnf
  refine Br.t ft_ ?_
  conv => whnf
  refine Br.t ft_ ?_
  conv => whnf
  refine Br.t ft_ ?_
  conv => whnf
  refine Br.t ft_ ?_
  conv => whnf
  refine Br.t ft_ ?_
  conv => whnf
  refine Br.t ft_ ?_
  conv => whnf
  refine Br.t ft_ ?_
  conv => whnf
  refine Br.t ft_ ?_
  conv => whnf
  refine Br.t ft_ ?_
  conv => whnf
  refine Br.t ft_ ?_
  conv => whnf
  refine cut_ 232 [(2, .bool (decide ((wrap64 ((wrap64 ((wrap64 ((a0_2.length : Int) + (a0_3.length : Int))) + (a0_4.length : Int))) + (a0_5.length : Int))) = 0)))] [] rfl ⟨.inl rfl, trivial⟩ trivial ?_
  conv => whnf
  injection H with H; subst H
  exact ret_fz [] (rtA_eq rfl)
  conv => whnf
  refine Br.f ff_ ?_
  conv => whnf
  refine Br.f ff_ ?_
  conv => whnf
  refine Br.f ff_ ?_
  conv => whnf
  refine Br.f ff_ ?_
  conv => whnf
  refine Br.f ff_ ?_
  conv => whnf
  refine Br.f ff_ ?_
  conv => whnf
  refine Br.f ff_ ?_
  conv => whnf
  refine Br.f ff_ ?_
  conv => whnf
  refine Br.f ff_ ?_
  conv => whnf
  refine Br.f ff_ ?_
  conv => whnf
  refine Br.f ff_ ?_
  conv => whnf
  refine Br.f ff_ ?_
  conv => whnf
  refine Br.f ff_ ?_
  conv => whnf
  refine Br.f ff_ ?_
  conv => whnf
  refine Br.f ff_ ?_
  conv => whnf
  refine Br.f ff_ ?_
  conv => whnf
  refine cut_ 232 [(2, .bool false)] [] rfl ⟨.inl rfl, trivial⟩ trivial ?_
  conv => whnf
  injection H with H; subst H
  exact ret_fz [] (rtA_eq rfl)
  conv => whnf
  refine Br.f ff_ ?_
  conv => whnf
  refine Br.f ff_ ?_
  conv => whnf
  refine Br.f ff_ ?_
  conv => whnf
  refine Br.f rfl ?_
  conv => whnf
  refine Br.f rfl ?_
  conv => whnf
  refine Br.f rfl ?_
  conv => whnf
  refine Br.f rfl ?_
  conv => whnf
  refine Br.f rfl ?_
  conv => whnf
  refine Br.f rfl ?_
  conv => whnf
  refine Br.f rfl ?_
  conv => whnf
  refine Br.f rfl ?_
  conv => whnf
  refine Br.f rfl ?_
  conv => whnf
  refine Br.f rfl ?_
  conv => whnf
  refine Br.f rfl ?_
  conv => whnf
  refine Br.f rfl ?_
  conv => whnf
  refine Br.f rfl ?_
  conv => whnf
  refine Br.f rfl ?_
  conv => whnf
  refine Br.f rfl ?_
  conv => whnf
  refine Br.f rfl ?_
  conv => whnf
  refine Br.f rfl ?_
  conv => whnf
  refine cut_ 232 [(2, .bool false)] [] rfl ⟨.inl rfl, trivial⟩ trivial ?_
  conv => whnf
  injection H with H; subst H
  exact ret_fz [] (rtA_eq rfl)
theorem spec_CtlWordOk.j0_sq {F : (Exit → St → Prop) → St → Prop} {hv : List Tmp} {K : St → Prop} {Q : Exit → St → Prop} {σ : St} {r : Bool} {KK : Nat} {a1_0 : Int} {a1_2 : Int} {a1_3 : Int} {a1_4 : Int} {a1_5 : List ByteArray} {a1_6 : List S_impl_ClaimUse} {a1_7 : List ByteArray} {a1_8 : List ByteArray} {a1_9 : Int} {a1_10 : Bool}
    (h1 : F (fun e σ' => match e with | .normal => ∃ (y : Nat) (rn : List (Option Nat)), (spec_CtlWordOk.j0 y a1_0 a1_2 a1_3 a1_4 a1_5 a1_6 a1_7 a1_8 a1_9 a1_10 = some r ∧ y < KK) ∧ Fits σ σ' [0] [] [] [] rn | e => Q e σ') σ)
    (h2 : ∀ (k : Nat), k < KK → spec_CtlWordOk.j0 k a1_0 a1_2 a1_3 a1_4 a1_5 a1_6 a1_7 a1_8 a1_9 a1_10 = some r → headN σ hv [0] [] [] [] K) : Sq F hv K Q σ := by
  unfold Sq
  refine ⟨Nat, fun x => spec_CtlWordOk.j0 x a1_0 a1_2 a1_3 a1_4 a1_5 a1_6 a1_7 a1_8 a1_9 a1_10 = some r ∧ x < KK, [0], fun x => [], fun x => [], fun x => [], h1, ?_⟩
  rintro k ⟨H, hk⟩
  exact h2 k hk H
theorem spec_CtlWordOk.ac {k : Nat} {a0_0 : List ByteArray} {a0_1 : List S_impl_PlantFoe} {a0_2 : List S_impl_PlantPlace} {a0_3 : List S_impl_PlantValve} {a1_0 : Int} {a1_1 : ByteArray} {a1_2 : Int} {a1_3 : Int} {a1_4 : Int} {a1_5 : List ByteArray} {a1_6 : List S_impl_ClaimUse} {a1_7 : List ByteArray} {a1_8 : List ByteArray} {a1_9 : Int} {a1_10 : Bool} {r : Bool} (H : spec_CtlWordOk.f k a0_0 a0_1 a0_2 a0_3 a1_0 a1_1 a1_2 a1_3 a1_4 a1_5 a1_6 a1_7 a1_8 a1_9 a1_10 = some r) : ACalls Try.prog G 51 [] [.agg [(sv_str a0_0), (sv_S_impl_PlantFoe a0_1), (sv_S_impl_PlantPlace a0_2), (sv_S_impl_PlantValve a0_3)], .agg [.int .i64 a1_0, .str a1_1, .int .i64 a1_2, .int .i64 a1_3, .int .i64 a1_4, (sv_str a1_5), (sv_S_impl_ClaimUse a1_6), (sv_str a1_7), (sv_str a1_8), .int .i64 a1_9, .bool a1_10]] [] (.bool r) := by
  refine acalls_of tok hP Try.func51 rfl (by kernel_rfl) [.tmp 4] rfl (by kernel_rfl) (Nat.le_of_ble_eq_true rfl) (.l .n (.l (.c .n (.l (.c .n .n) .n)) (.j (.c .n (.l (.c .n .n) .n)) (.l .n (.l (.c .n (.l (.c .n .n) .n)) (.l (.c .n (.l (.c .n .n) .n)) .n)))))) rfl ?_
  unfold spec_CtlWordOk.f at H
  conv => whnf
  revert H; refine bind_elim (fun t654 A H => ?_)
  refine call_mk (spec_PlantValid.ac A) (avAL_cons (avA_agg (avL_cons (av_shut' rfl) (avL_cons (av_shut' rfl) (avL_cons (av_shut' rfl) (avL_cons (av_shut' rfl) (avL_nil)))))) (avAL_nil)) (Or.inl rfl) rfl rfl (Nat.le_of_ble_eq_true rfl) ?_
  conv => whnf
  refine br_nt H (fun c H => ?_) (fun c H => ?_)
  conv => whnf
  refine Br.f ff_ ?_
  conv => whnf
  refine Br.f ff_ ?_
  conv => whnf
  revert H; refine bind_elim (fun t655 A H => ?_)
  refine call_mk (spec_l1In.ac A) (avAL_cons (avA_shut' rfl) (avAL_cons (avA_shut' rfl) (avAL_cons (avA_shut' rfl) (avAL_nil)))) (Or.inl rfl) rfl rfl (Nat.le_of_ble_eq_true rfl) ?_
  conv => whnf
  refine Br.f ff_ ?_
  conv => whnf
  refine Br.f ff_ ?_
  conv => whnf
  refine br_nt H (fun c H => ?_) (fun c H => ?_)
  conv => whnf
  refine Br.f ff_ ?_
  conv => whnf
  refine Br.f ff_ ?_
  conv => whnf
  revert H; refine bind_elim (fun t656 A H => ?_)
  refine call_mk (spec_l1In.ac A) (avAL_cons (avA_shut' rfl) (avAL_cons (avA_shut' rfl) (avAL_cons (avA_shut' rfl) (avAL_nil)))) (Or.inl rfl) rfl rfl (Nat.le_of_ble_eq_true rfl) ?_
  conv => whnf
  refine Br.f ff_ ?_
  conv => whnf
  refine Br.f ff_ ?_
  conv => whnf
  refine cut_ 144 [(2, .bp 0 0), (3, .bp 8 0), (20, .bool (!t656))] [(0, .box [(sv_str a0_0), (sv_S_impl_PlantFoe a0_1), (sv_S_impl_PlantPlace a0_2), (sv_S_impl_PlantValve a0_3)]), (8, .box [.int .i64 a1_0, .str a1_1, .int .i64 a1_2, .int .i64 a1_3, .int .i64 a1_4, (sv_str a1_5), (sv_S_impl_ClaimUse a1_6), (sv_str a1_7), (sv_str a1_8), .int .i64 a1_9, .bool a1_10])] rfl ⟨.inl rfl, ⟨.inl rfl, ⟨.inl rfl, trivial⟩⟩⟩ ⟨rfl, ⟨rfl, trivial⟩⟩ ?_
  conv => whnf
  refine br_nt H (fun c H => ?_) (fun c H => ?_)
  conv => whnf
  refine spec_CtlWordOk.j0_sq (a1_0 := a1_0) (a1_2 := a1_2) (a1_3 := a1_3) (a1_4 := a1_4) (a1_5 := a1_5) (a1_6 := a1_6) (a1_7 := a1_7) (a1_8 := a1_8) (a1_9 := a1_9) (a1_10 := a1_10) (KK := k + 1) (r := r) ?_ ?_
  conv => whnf
  revert H; refine bind_elim (fun t672 A H => ?_)
  refine call_mk (spec_CtlStations.ac A) (avAL_cons (avA_agg (avL_cons (av_shut' rfl) (avL_cons (av_shut' rfl) (avL_cons (av_shut' rfl) (avL_cons (av_shut' rfl) (avL_nil)))))) (avAL_nil)) (Or.inl rfl) rfl rfl (Nat.le_of_ble_eq_true rfl) ?_
  conv => whnf
  revert H; refine bind_elim (fun t673 A H => ?_)
  refine call_mk (spec_l2Has.ac A) (avAL_cons (avA_shut' rfl) (avAL_cons (avA_shut' rfl) (avAL_nil))) (Or.inl rfl) rfl rfl (Nat.le_of_ble_eq_true rfl) ?_
  conv => whnf
  refine br_t H (fun c H => ?_) (fun c H => ?_)
  conv => whnf
  refine Br.t ft_ ?_
  conv => whnf
  refine Br.t ft_ ?_
  conv => whnf
  refine Br.t ft_ ?_
  conv => whnf
  refine Br.t ft_ ?_
  conv => whnf
  refine Br.t ft_ ?_
  conv => whnf
  refine cut_ 296 [(3, .bp 8 0), (39, .bool true)] [(8, .box [.int .i64 a1_0, .str a1_1, .int .i64 a1_2, .int .i64 a1_3, .int .i64 a1_4, (sv_str a1_5), (sv_S_impl_ClaimUse a1_6), (sv_str a1_7), (sv_str a1_8), .int .i64 a1_9, .bool a1_10])] rfl ⟨.inl rfl, ⟨.inl rfl, trivial⟩⟩ ⟨rfl, trivial⟩ ?_
  conv => whnf
  refine Br.t rfl ?_
  conv => whnf
  refine cut_ 304 [(4, .bool false)] [] rfl ⟨.inl rfl, trivial⟩ trivial ?_
  conv => whnf
  injection H with H; subst H
  exact ret_fz [] (rtA_eq rfl)
  conv => whnf
  refine Br.f ff_ ?_
  conv => whnf
  refine Br.f ff_ ?_
  conv => whnf
  refine Br.f ff_ ?_
  conv => whnf
  refine br_d H (fun c H => ?_) (fun c H => ?_)
  conv => whnf
  refine Br.t ft_ ?_
  conv => whnf
  refine Br.t ft_ ?_
  conv => whnf
  refine Br.f ff_ ?_
  conv => whnf
  refine Br.t ft_ ?_
  conv => whnf
  refine Br.f ff_ ?_
  conv => whnf
  refine cut_ 296 [(3, .bp 8 0), (39, .bool (!(decide (a1_1.toList = (⟨#[]⟩ : ByteArray).toList))))] [(8, .box [.int .i64 a1_0, .str a1_1, .int .i64 a1_2, .int .i64 a1_3, .int .i64 a1_4, (sv_str a1_5), (sv_S_impl_ClaimUse a1_6), (sv_str a1_7), (sv_str a1_8), .int .i64 a1_9, .bool a1_10])] rfl ⟨.inl rfl, ⟨.inl rfl, trivial⟩⟩ ⟨rfl, trivial⟩ ?_
  conv => whnf
  refine br_nd H (fun c H => ?_) (fun c H => ?_)
  conv => whnf
  exact ⟨k, [], ⟨H, lt_⟩, (fits_of trivial trivial fi_ trivial rfl)⟩
  conv => whnf
  refine cut_ 304 [(4, .bool false)] [] rfl ⟨.inl rfl, trivial⟩ trivial ?_
  conv => whnf
  injection H with H; subst H
  exact ret_fz [] (rtA_eq rfl)
  conv => whnf
  refine Br.f ff_ ?_
  conv => whnf
  refine Br.f ff_ ?_
  conv => whnf
  refine Br.f ff_ ?_
  conv => whnf
  refine Br.f ff_ ?_
  conv => whnf
  refine Br.f ff_ ?_
  conv => whnf
  refine cut_ 296 [(3, .bp 8 0), (39, .bool false)] [(8, .box [.int .i64 a1_0, .str a1_1, .int .i64 a1_2, .int .i64 a1_3, .int .i64 a1_4, (sv_str a1_5), (sv_S_impl_ClaimUse a1_6), (sv_str a1_7), (sv_str a1_8), .int .i64 a1_9, .bool a1_10])] rfl ⟨.inl rfl, ⟨.inl rfl, trivial⟩⟩ ⟨rfl, trivial⟩ ?_
  conv => whnf
  refine Br.f rfl ?_
  conv => whnf
  exact ⟨k, [], ⟨H, lt_⟩, (fits_of trivial trivial fi_ trivial rfl)⟩
  intro k hk H; rcases k with _ | k; exact none_elim H; rw [spec_CtlWordOk.j0] at H; conv => whnf
  refine br_d H (fun c H => ?_) (fun c H => ?_)
  conv => whnf
  refine Br.t ft_ ?_
  conv => whnf
  refine Br.t ft_ ?_
  conv => whnf
  refine Br.t ft_ ?_
  conv => whnf
  refine Br.f rfl ?_
  conv => whnf
  refine Br.f rfl ?_
  conv => whnf
  refine Br.f rfl ?_
  conv => whnf
  refine Br.f rfl ?_
  conv => whnf
  refine Br.f rfl ?_
  conv => whnf
  refine Br.f rfl ?_
  conv => whnf
  refine Br.f rfl ?_
  conv => whnf
  revert H; refine bind_elim (fun t659 A H => ?_)
  refine call_mk (spec_l1In.ac A) (avAL_cons (avA_shut' rfl) (avAL_cons (avA_shut' rfl) (avAL_cons (avA_shut' rfl) (avAL_nil)))) (Or.inl rfl) rfl rfl (Nat.le_of_ble_eq_true rfl) ?_
  conv => whnf
  refine Br.f rfl ?_
  conv => whnf
  refine Br.f rfl ?_
  conv => whnf
  refine br_nt H (fun c H => ?_) (fun c H => ?_)
  conv => whnf
  refine Br.f ff_ ?_
  conv => whnf
  refine Br.f ff_ ?_
  conv => whnf
  refine br_t H (fun c H => ?_) (fun c H => ?_)
  conv => whnf
  refine Br.t ft_ ?_
  conv => whnf
  refine Br.t ft_ ?_
  conv => whnf
  refine Br.f ff_ ?_
  conv => whnf
  refine Br.t ft_ ?_
  conv => whnf
  refine Br.f ff_ ?_
  conv => whnf
  refine cut_ 392 [(3, .bp 8 0), (69, .bool (!(decide (a1_0 = 7))))] [(8, .box [.int .i64 a1_0, .str a1_1, .int .i64 a1_2, .int .i64 a1_3, .int .i64 a1_4, (sv_str a1_5), (sv_S_impl_ClaimUse a1_6), (sv_str a1_7), (sv_str a1_8), .int .i64 a1_9, .bool a1_10])] rfl ⟨.inl rfl, ⟨.inl rfl, trivial⟩⟩ ⟨rfl, trivial⟩ ?_
  conv => whnf
  refine br_nd H (fun c H => ?_) (fun c H => ?_)
  conv => whnf
  refine cut_ 416 [(3, .bp 8 0), (72, .bool (decide (a1_0 = 1)))] [(8, .box [.int .i64 a1_0, .str a1_1, .int .i64 a1_2, .int .i64 a1_3, .int .i64 a1_4, (sv_str a1_5), (sv_S_impl_ClaimUse a1_6), (sv_str a1_7), (sv_str a1_8), .int .i64 a1_9, .bool a1_10])] rfl ⟨.inl rfl, ⟨.inl rfl, trivial⟩⟩ ⟨rfl, trivial⟩ ?_
  conv => whnf
  refine br_d H (fun c H => ?_) (fun c H => ?_)
  conv => whnf
  revert H; refine bind_elim (fun t660 A H => ?_)
  refine call_mk (spec_ClaimWantOk.ac A) (avAL_cons (avA_agg (avL_cons (av_shut' rfl) (avL_cons (av_shut' rfl) (avL_cons (av_shut' rfl) (avL_cons (av_shut' rfl) (avL_cons (av_shut' rfl) (avL_cons (av_shut' rfl) (avL_nil)))))))) (avAL_nil)) (Or.inl rfl) rfl rfl (Nat.le_of_ble_eq_true rfl) ?_
  conv => whnf
  refine br_t H (fun c H => ?_) (fun c H => ?_)
  conv => whnf
  refine Br.t ft_ ?_
  conv => whnf
  refine Br.t ft_ ?_
  conv => whnf
  refine Br.t ft_ ?_
  conv => whnf
  refine Br.t ft_ ?_
  conv => whnf
  refine Br.t ft_ ?_
  conv => whnf
  refine Br.t ft_ ?_
  conv => whnf
  refine cut_ 512 [(4, .bool (decide (a1_3 = a1_2)))] [] rfl ⟨.inl rfl, trivial⟩ trivial ?_
  conv => whnf
  injection H with H; subst H
  exact ret_fz [] (rtA_eq rfl)
  conv => whnf
  refine Br.f ff_ ?_
  conv => whnf
  refine Br.f ff_ ?_
  conv => whnf
  refine Br.f ff_ ?_
  conv => whnf
  refine Br.f ff_ ?_
  conv => whnf
  refine Br.f ff_ ?_
  conv => whnf
  refine Br.f ff_ ?_
  conv => whnf
  refine cut_ 512 [(4, .bool false)] [] rfl ⟨.inl rfl, trivial⟩ trivial ?_
  conv => whnf
  injection H with H; subst H
  exact ret_fz [] (rtA_eq rfl)
  conv => whnf
  revert H; refine bind_elim (fun t661 A H => ?_)
  refine call_mk (spec_l32NoWant.ac A) (avAL_cons (avA_agg (avL_cons (av_shut' rfl) (avL_cons (av_shut' rfl) (avL_cons (av_shut' rfl) (avL_cons (av_shut' rfl) (avL_cons (av_shut' rfl) (avL_cons (av_shut' rfl) (avL_nil)))))))) (avAL_nil)) (Or.inl rfl) rfl rfl (Nat.le_of_ble_eq_true rfl) ?_
  conv => whnf
  injection H with H; subst H
  exact ret_fz [] (rtA_eq rfl)
  conv => whnf
  refine cut_ 400 [(4, .bool false)] [] rfl ⟨.inl rfl, trivial⟩ trivial ?_
  conv => whnf
  injection H with H; subst H
  exact ret_fz [] (rtA_eq rfl)
  conv => whnf
  refine Br.f ff_ ?_
  conv => whnf
  refine Br.f ff_ ?_
  conv => whnf
  refine Br.f ff_ ?_
  conv => whnf
  refine Br.f ff_ ?_
  conv => whnf
  refine Br.f ff_ ?_
  conv => whnf
  refine cut_ 392 [(3, .bp 8 0), (69, .bool false)] [(8, .box [.int .i64 a1_0, .str a1_1, .int .i64 a1_2, .int .i64 a1_3, .int .i64 a1_4, (sv_str a1_5), (sv_S_impl_ClaimUse a1_6), (sv_str a1_7), (sv_str a1_8), .int .i64 a1_9, .bool a1_10])] rfl ⟨.inl rfl, ⟨.inl rfl, trivial⟩⟩ ⟨rfl, trivial⟩ ?_
  conv => whnf
  refine Br.f rfl ?_
  conv => whnf
  refine cut_ 416 [(3, .bp 8 0), (72, .bool (decide (a1_0 = 1)))] [(8, .box [.int .i64 a1_0, .str a1_1, .int .i64 a1_2, .int .i64 a1_3, .int .i64 a1_4, (sv_str a1_5), (sv_S_impl_ClaimUse a1_6), (sv_str a1_7), (sv_str a1_8), .int .i64 a1_9, .bool a1_10])] rfl ⟨.inl rfl, ⟨.inl rfl, trivial⟩⟩ ⟨rfl, trivial⟩ ?_
  conv => whnf
  refine br_d H (fun c H => ?_) (fun c H => ?_)
  conv => whnf
  revert H; refine bind_elim (fun t662 A H => ?_)
  refine call_mk (spec_ClaimWantOk.ac A) (avAL_cons (avA_agg (avL_cons (av_shut' rfl) (avL_cons (av_shut' rfl) (avL_cons (av_shut' rfl) (avL_cons (av_shut' rfl) (avL_cons (av_shut' rfl) (avL_cons (av_shut' rfl) (avL_nil)))))))) (avAL_nil)) (Or.inl rfl) rfl rfl (Nat.le_of_ble_eq_true rfl) ?_
  conv => whnf
  refine br_t H (fun c H => ?_) (fun c H => ?_)
  conv => whnf
  refine Br.t ft_ ?_
  conv => whnf
  refine Br.t ft_ ?_
  conv => whnf
  refine Br.t ft_ ?_
  conv => whnf
  refine Br.t ft_ ?_
  conv => whnf
  refine Br.t ft_ ?_
  conv => whnf
  refine Br.t ft_ ?_
  conv => whnf
  refine cut_ 512 [(4, .bool (decide (a1_3 = a1_2)))] [] rfl ⟨.inl rfl, trivial⟩ trivial ?_
  conv => whnf
  injection H with H; subst H
  exact ret_fz [] (rtA_eq rfl)
  conv => whnf
  refine Br.f ff_ ?_
  conv => whnf
  refine Br.f ff_ ?_
  conv => whnf
  refine Br.f ff_ ?_
  conv => whnf
  refine Br.f ff_ ?_
  conv => whnf
  refine Br.f ff_ ?_
  conv => whnf
  refine Br.f ff_ ?_
  conv => whnf
  refine cut_ 512 [(4, .bool false)] [] rfl ⟨.inl rfl, trivial⟩ trivial ?_
  conv => whnf
  injection H with H; subst H
  exact ret_fz [] (rtA_eq rfl)
  conv => whnf
  revert H; refine bind_elim (fun t663 A H => ?_)
  refine call_mk (spec_l32NoWant.ac A) (avAL_cons (avA_agg (avL_cons (av_shut' rfl) (avL_cons (av_shut' rfl) (avL_cons (av_shut' rfl) (avL_cons (av_shut' rfl) (avL_cons (av_shut' rfl) (avL_cons (av_shut' rfl) (avL_nil)))))))) (avAL_nil)) (Or.inl rfl) rfl rfl (Nat.le_of_ble_eq_true rfl) ?_
  conv => whnf
  injection H with H; subst H
  exact ret_fz [] (rtA_eq rfl)
  conv => whnf
  refine Br.t ft_ ?_
  conv => whnf
  refine Br.t ft_ ?_
  conv => whnf
  refine Br.t ft_ ?_
  conv => whnf
  refine Br.t ft_ ?_
  conv => whnf
  refine cut_ 392 [(3, .bp 8 0), (69, .bool true)] [(8, .box [.int .i64 a1_0, .str a1_1, .int .i64 a1_2, .int .i64 a1_3, .int .i64 a1_4, (sv_str a1_5), (sv_S_impl_ClaimUse a1_6), (sv_str a1_7), (sv_str a1_8), .int .i64 a1_9, .bool a1_10])] rfl ⟨.inl rfl, ⟨.inl rfl, trivial⟩⟩ ⟨rfl, trivial⟩ ?_
  conv => whnf
  refine Br.t rfl ?_
  conv => whnf
  refine cut_ 400 [(4, .bool false)] [] rfl ⟨.inl rfl, trivial⟩ trivial ?_
  conv => whnf
  injection H with H; subst H
  exact ret_fz [] (rtA_eq rfl)
  conv => whnf
  refine Br.f ff_ ?_
  conv => whnf
  refine Br.f ff_ ?_
  conv => whnf
  refine Br.f ff_ ?_
  conv => whnf
  refine br_nd H (fun c H => ?_) (fun c H => ?_)
  conv => whnf
  refine Br.f ff_ ?_
  conv => whnf
  refine Br.f ff_ ?_
  conv => whnf
  refine Br.f ff_ ?_
  conv => whnf
  refine Br.f rfl ?_
  conv => whnf
  refine Br.f rfl ?_
  conv => whnf
  refine Br.f rfl ?_
  conv => whnf
  revert H; refine bind_elim (fun t664 A H => ?_)
  refine call_mk (spec_l1In.ac A) (avAL_cons (avA_shut' rfl) (avAL_cons (avA_shut' rfl) (avAL_cons (avA_shut' rfl) (avAL_nil)))) (Or.inl rfl) rfl rfl (Nat.le_of_ble_eq_true rfl) ?_
  conv => whnf
  refine Br.f rfl ?_
  conv => whnf
  refine Br.f rfl ?_
  conv => whnf
  refine br_nt H (fun c H => ?_) (fun c H => ?_)
  conv => whnf
  refine Br.f ff_ ?_
  conv => whnf
  refine Br.f ff_ ?_
  conv => whnf
  refine br_t H (fun c H => ?_) (fun c H => ?_)
  conv => whnf
  refine Br.t ft_ ?_
  conv => whnf
  refine Br.t ft_ ?_
  conv => whnf
  refine Br.f ff_ ?_
  conv => whnf
  refine Br.t ft_ ?_
  conv => whnf
  refine Br.f ff_ ?_
  conv => whnf
  refine cut_ 392 [(3, .bp 8 0), (69, .bool (!(decide (a1_0 = 7))))] [(8, .box [.int .i64 a1_0, .str a1_1, .int .i64 a1_2, .int .i64 a1_3, .int .i64 a1_4, (sv_str a1_5), (sv_S_impl_ClaimUse a1_6), (sv_str a1_7), (sv_str a1_8), .int .i64 a1_9, .bool a1_10])] rfl ⟨.inl rfl, ⟨.inl rfl, trivial⟩⟩ ⟨rfl, trivial⟩ ?_
  conv => whnf
  refine Br.f ff_ ?_
  conv => whnf
  refine cut_ 416 [(3, .bp 8 0), (72, .bool (decide (a1_0 = 1)))] [(8, .box [.int .i64 a1_0, .str a1_1, .int .i64 a1_2, .int .i64 a1_3, .int .i64 a1_4, (sv_str a1_5), (sv_S_impl_ClaimUse a1_6), (sv_str a1_7), (sv_str a1_8), .int .i64 a1_9, .bool a1_10])] rfl ⟨.inl rfl, ⟨.inl rfl, trivial⟩⟩ ⟨rfl, trivial⟩ ?_
  conv => whnf
  refine br_d H (fun c H => ?_) (fun c H => ?_)
  conv => whnf
  revert H; refine bind_elim (fun t665 A H => ?_)
  refine call_mk (spec_ClaimWantOk.ac A) (avAL_cons (avA_agg (avL_cons (av_shut' rfl) (avL_cons (av_shut' rfl) (avL_cons (av_shut' rfl) (avL_cons (av_shut' rfl) (avL_cons (av_shut' rfl) (avL_cons (av_shut' rfl) (avL_nil)))))))) (avAL_nil)) (Or.inl rfl) rfl rfl (Nat.le_of_ble_eq_true rfl) ?_
  conv => whnf
  refine br_t H (fun c H => ?_) (fun c H => ?_)
  conv => whnf
  refine Br.t ft_ ?_
  conv => whnf
  refine Br.t ft_ ?_
  conv => whnf
  refine Br.t ft_ ?_
  conv => whnf
  refine Br.t ft_ ?_
  conv => whnf
  refine Br.t ft_ ?_
  conv => whnf
  refine Br.t ft_ ?_
  conv => whnf
  refine cut_ 512 [(4, .bool (decide (a1_3 = a1_2)))] [] rfl ⟨.inl rfl, trivial⟩ trivial ?_
  conv => whnf
  injection H with H; subst H
  exact ret_fz [] (rtA_eq rfl)
  conv => whnf
  refine Br.f ff_ ?_
  conv => whnf
  refine Br.f ff_ ?_
  conv => whnf
  refine Br.f ff_ ?_
  conv => whnf
  refine Br.f ff_ ?_
  conv => whnf
  refine Br.f ff_ ?_
  conv => whnf
  refine Br.f ff_ ?_
  conv => whnf
  refine cut_ 512 [(4, .bool false)] [] rfl ⟨.inl rfl, trivial⟩ trivial ?_
  conv => whnf
  injection H with H; subst H
  exact ret_fz [] (rtA_eq rfl)
  conv => whnf
  revert H; refine bind_elim (fun t666 A H => ?_)
  refine call_mk (spec_l32NoWant.ac A) (avAL_cons (avA_agg (avL_cons (av_shut' rfl) (avL_cons (av_shut' rfl) (avL_cons (av_shut' rfl) (avL_cons (av_shut' rfl) (avL_cons (av_shut' rfl) (avL_cons (av_shut' rfl) (avL_nil)))))))) (avAL_nil)) (Or.inl rfl) rfl rfl (Nat.le_of_ble_eq_true rfl) ?_
  conv => whnf
  injection H with H; subst H
  exact ret_fz [] (rtA_eq rfl)
  conv => whnf
  refine Br.f ff_ ?_
  conv => whnf
  refine Br.f ff_ ?_
  conv => whnf
  refine Br.f ff_ ?_
  conv => whnf
  refine Br.f ff_ ?_
  conv => whnf
  refine Br.f ff_ ?_
  conv => whnf
  refine cut_ 392 [(3, .bp 8 0), (69, .bool false)] [(8, .box [.int .i64 a1_0, .str a1_1, .int .i64 a1_2, .int .i64 a1_3, .int .i64 a1_4, (sv_str a1_5), (sv_S_impl_ClaimUse a1_6), (sv_str a1_7), (sv_str a1_8), .int .i64 a1_9, .bool a1_10])] rfl ⟨.inl rfl, ⟨.inl rfl, trivial⟩⟩ ⟨rfl, trivial⟩ ?_
  conv => whnf
  refine Br.f rfl ?_
  conv => whnf
  refine cut_ 416 [(3, .bp 8 0), (72, .bool (decide (a1_0 = 1)))] [(8, .box [.int .i64 a1_0, .str a1_1, .int .i64 a1_2, .int .i64 a1_3, .int .i64 a1_4, (sv_str a1_5), (sv_S_impl_ClaimUse a1_6), (sv_str a1_7), (sv_str a1_8), .int .i64 a1_9, .bool a1_10])] rfl ⟨.inl rfl, ⟨.inl rfl, trivial⟩⟩ ⟨rfl, trivial⟩ ?_
  conv => whnf
  refine br_d H (fun c H => ?_) (fun c H => ?_)
  conv => whnf
  revert H; refine bind_elim (fun t667 A H => ?_)
  refine call_mk (spec_ClaimWantOk.ac A) (avAL_cons (avA_agg (avL_cons (av_shut' rfl) (avL_cons (av_shut' rfl) (avL_cons (av_shut' rfl) (avL_cons (av_shut' rfl) (avL_cons (av_shut' rfl) (avL_cons (av_shut' rfl) (avL_nil)))))))) (avAL_nil)) (Or.inl rfl) rfl rfl (Nat.le_of_ble_eq_true rfl) ?_
  conv => whnf
  refine br_t H (fun c H => ?_) (fun c H => ?_)
  conv => whnf
  refine Br.t ft_ ?_
  conv => whnf
  refine Br.t ft_ ?_
  conv => whnf
  refine Br.t ft_ ?_
  conv => whnf
  refine Br.t ft_ ?_
  conv => whnf
  refine Br.t ft_ ?_
  conv => whnf
  refine Br.t ft_ ?_
  conv => whnf
  refine cut_ 512 [(4, .bool (decide (a1_3 = a1_2)))] [] rfl ⟨.inl rfl, trivial⟩ trivial ?_
  conv => whnf
  injection H with H; subst H
  exact ret_fz [] (rtA_eq rfl)
  conv => whnf
  refine Br.f ff_ ?_
  conv => whnf
  refine Br.f ff_ ?_
  conv => whnf
  refine Br.f ff_ ?_
  conv => whnf
  refine Br.f ff_ ?_
  conv => whnf
  refine Br.f ff_ ?_
  conv => whnf
  refine Br.f ff_ ?_
  conv => whnf
  refine cut_ 512 [(4, .bool false)] [] rfl ⟨.inl rfl, trivial⟩ trivial ?_
  conv => whnf
  injection H with H; subst H
  exact ret_fz [] (rtA_eq rfl)
  conv => whnf
  revert H; refine bind_elim (fun t668 A H => ?_)
  refine call_mk (spec_l32NoWant.ac A) (avAL_cons (avA_agg (avL_cons (av_shut' rfl) (avL_cons (av_shut' rfl) (avL_cons (av_shut' rfl) (avL_cons (av_shut' rfl) (avL_cons (av_shut' rfl) (avL_cons (av_shut' rfl) (avL_nil)))))))) (avAL_nil)) (Or.inl rfl) rfl rfl (Nat.le_of_ble_eq_true rfl) ?_
  conv => whnf
  injection H with H; subst H
  exact ret_fz [] (rtA_eq rfl)
  conv => whnf
  refine Br.t ft_ ?_
  conv => whnf
  refine Br.t ft_ ?_
  conv => whnf
  refine Br.t ft_ ?_
  conv => whnf
  refine Br.t ft_ ?_
  conv => whnf
  refine cut_ 392 [(3, .bp 8 0), (69, .bool true)] [(8, .box [.int .i64 a1_0, .str a1_1, .int .i64 a1_2, .int .i64 a1_3, .int .i64 a1_4, (sv_str a1_5), (sv_S_impl_ClaimUse a1_6), (sv_str a1_7), (sv_str a1_8), .int .i64 a1_9, .bool a1_10])] rfl ⟨.inl rfl, ⟨.inl rfl, trivial⟩⟩ ⟨rfl, trivial⟩ ?_
  conv => whnf
  refine Br.t rfl ?_
  conv => whnf
  refine cut_ 400 [(4, .bool false)] [] rfl ⟨.inl rfl, trivial⟩ trivial ?_
  conv => whnf
  injection H with H; subst H
  exact ret_fz [] (rtA_eq rfl)
  conv => whnf
  refine Br.t ft_ ?_
  conv => whnf
  refine Br.t ft_ ?_
  conv => whnf
  refine Br.t ft_ ?_
  conv => whnf
  refine br_nd H (fun c H => ?_) (fun c H => ?_)
  conv => whnf
  refine Br.f ff_ ?_
  conv => whnf
  refine Br.f ff_ ?_
  conv => whnf
  revert H; refine bind_elim (fun t669 A H => ?_)
  refine call_mk (spec_l1In.ac A) (avAL_cons (avA_shut' rfl) (avAL_cons (avA_shut' rfl) (avAL_cons (avA_shut' rfl) (avAL_nil)))) (Or.inl rfl) rfl rfl (Nat.le_of_ble_eq_true rfl) ?_
  conv => whnf
  refine Br.f ff_ ?_
  conv => whnf
  refine Br.f ff_ ?_
  conv => whnf
  refine br_nt H (fun c H => ?_) (fun c H => ?_)
  conv => whnf
  refine Br.f ff_ ?_
  conv => whnf
  refine Br.f ff_ ?_
  conv => whnf
  refine br_t H (fun c H => ?_) (fun c H => ?_)
  conv => whnf
  refine Br.t ft_ ?_
  conv => whnf
  refine Br.t ft_ ?_
  conv => whnf
  refine Br.f ff_ ?_
  conv => whnf
  refine Br.t ft_ ?_
  conv => whnf
  refine Br.f ff_ ?_
  conv => whnf
  refine cut_ 392 [(3, .bp 8 0), (69, .bool (!(decide (a1_0 = 7))))] [(8, .box [.int .i64 a1_0, .str a1_1, .int .i64 a1_2, .int .i64 a1_3, .int .i64 a1_4, (sv_str a1_5), (sv_S_impl_ClaimUse a1_6), (sv_str a1_7), (sv_str a1_8), .int .i64 a1_9, .bool a1_10])] rfl ⟨.inl rfl, ⟨.inl rfl, trivial⟩⟩ ⟨rfl, trivial⟩ ?_
  conv => whnf
  refine Br.t ft_ ?_
  conv => whnf
  refine cut_ 400 [(4, .bool false)] [] rfl ⟨.inl rfl, trivial⟩ trivial ?_
  conv => whnf
  injection H with H; subst H
  exact ret_fz [] (rtA_eq rfl)
  conv => whnf
  refine Br.f ff_ ?_
  conv => whnf
  refine Br.f ff_ ?_
  conv => whnf
  refine Br.f ff_ ?_
  conv => whnf
  refine Br.f ff_ ?_
  conv => whnf
  refine Br.f ff_ ?_
  conv => whnf
  refine cut_ 392 [(3, .bp 8 0), (69, .bool false)] [(8, .box [.int .i64 a1_0, .str a1_1, .int .i64 a1_2, .int .i64 a1_3, .int .i64 a1_4, (sv_str a1_5), (sv_S_impl_ClaimUse a1_6), (sv_str a1_7), (sv_str a1_8), .int .i64 a1_9, .bool a1_10])] rfl ⟨.inl rfl, ⟨.inl rfl, trivial⟩⟩ ⟨rfl, trivial⟩ ?_
  conv => whnf
  refine Br.f rfl ?_
  conv => whnf
  refine cut_ 416 [(3, .bp 8 0), (72, .bool (decide (a1_0 = 1)))] [(8, .box [.int .i64 a1_0, .str a1_1, .int .i64 a1_2, .int .i64 a1_3, .int .i64 a1_4, (sv_str a1_5), (sv_S_impl_ClaimUse a1_6), (sv_str a1_7), (sv_str a1_8), .int .i64 a1_9, .bool a1_10])] rfl ⟨.inl rfl, ⟨.inl rfl, trivial⟩⟩ ⟨rfl, trivial⟩ ?_
  conv => whnf
  refine br_d H (fun c H => ?_) (fun c H => ?_)
  conv => whnf
  revert H; refine bind_elim (fun t670 A H => ?_)
  refine call_mk (spec_ClaimWantOk.ac A) (avAL_cons (avA_agg (avL_cons (av_shut' rfl) (avL_cons (av_shut' rfl) (avL_cons (av_shut' rfl) (avL_cons (av_shut' rfl) (avL_cons (av_shut' rfl) (avL_cons (av_shut' rfl) (avL_nil)))))))) (avAL_nil)) (Or.inl rfl) rfl rfl (Nat.le_of_ble_eq_true rfl) ?_
  conv => whnf
  refine br_t H (fun c H => ?_) (fun c H => ?_)
  conv => whnf
  refine Br.t ft_ ?_
  conv => whnf
  refine Br.t ft_ ?_
  conv => whnf
  refine Br.t ft_ ?_
  conv => whnf
  refine Br.t ft_ ?_
  conv => whnf
  refine Br.t ft_ ?_
  conv => whnf
  refine Br.t ft_ ?_
  conv => whnf
  refine cut_ 512 [(4, .bool (decide (a1_3 = a1_2)))] [] rfl ⟨.inl rfl, trivial⟩ trivial ?_
  conv => whnf
  injection H with H; subst H
  exact ret_fz [] (rtA_eq rfl)
  conv => whnf
  refine Br.f ff_ ?_
  conv => whnf
  refine Br.f ff_ ?_
  conv => whnf
  refine Br.f ff_ ?_
  conv => whnf
  refine Br.f ff_ ?_
  conv => whnf
  refine Br.f ff_ ?_
  conv => whnf
  refine Br.f ff_ ?_
  conv => whnf
  refine cut_ 512 [(4, .bool false)] [] rfl ⟨.inl rfl, trivial⟩ trivial ?_
  conv => whnf
  injection H with H; subst H
  exact ret_fz [] (rtA_eq rfl)
  conv => whnf
  revert H; refine bind_elim (fun t671 A H => ?_)
  refine call_mk (spec_l32NoWant.ac A) (avAL_cons (avA_agg (avL_cons (av_shut' rfl) (avL_cons (av_shut' rfl) (avL_cons (av_shut' rfl) (avL_cons (av_shut' rfl) (avL_cons (av_shut' rfl) (avL_cons (av_shut' rfl) (avL_nil)))))))) (avAL_nil)) (Or.inl rfl) rfl rfl (Nat.le_of_ble_eq_true rfl) ?_
  conv => whnf
  injection H with H; subst H
  exact ret_fz [] (rtA_eq rfl)
  conv => whnf
  refine Br.t ft_ ?_
  conv => whnf
  refine Br.t ft_ ?_
  conv => whnf
  refine Br.t ft_ ?_
  conv => whnf
  refine Br.t ft_ ?_
  conv => whnf
  refine cut_ 392 [(3, .bp 8 0), (69, .bool true)] [(8, .box [.int .i64 a1_0, .str a1_1, .int .i64 a1_2, .int .i64 a1_3, .int .i64 a1_4, (sv_str a1_5), (sv_S_impl_ClaimUse a1_6), (sv_str a1_7), (sv_str a1_8), .int .i64 a1_9, .bool a1_10])] rfl ⟨.inl rfl, ⟨.inl rfl, trivial⟩⟩ ⟨rfl, trivial⟩ ?_
  conv => whnf
  refine Br.t rfl ?_
  conv => whnf
  refine cut_ 400 [(4, .bool false)] [] rfl ⟨.inl rfl, trivial⟩ trivial ?_
  conv => whnf
  injection H with H; subst H
  exact ret_fz [] (rtA_eq rfl)
  conv => whnf
  refine Br.t ft_ ?_
  conv => whnf
  refine Br.t ft_ ?_
  conv => whnf
  refine Br.t ft_ ?_
  conv => whnf
  refine Br.t ft_ ?_
  conv => whnf
  refine Br.t rfl ?_
  conv => whnf
  refine Br.t rfl ?_
  conv => whnf
  refine Br.t rfl ?_
  conv => whnf
  refine Br.t rfl ?_
  conv => whnf
  refine Br.t rfl ?_
  conv => whnf
  refine cut_ 392 [(3, .bp 8 0), (69, .bool true)] [(8, .box [.int .i64 a1_0, .str a1_1, .int .i64 a1_2, .int .i64 a1_3, .int .i64 a1_4, (sv_str a1_5), (sv_S_impl_ClaimUse a1_6), (sv_str a1_7), (sv_str a1_8), .int .i64 a1_9, .bool a1_10])] rfl ⟨.inl rfl, ⟨.inl rfl, trivial⟩⟩ ⟨rfl, trivial⟩ ?_
  conv => whnf
  refine Br.t rfl ?_
  conv => whnf
  refine cut_ 400 [(4, .bool false)] [] rfl ⟨.inl rfl, trivial⟩ trivial ?_
  conv => whnf
  injection H with H; subst H
  exact ret_fz [] (rtA_eq rfl)
  conv => whnf
  refine cut_ 152 [(4, .bool false)] [] rfl ⟨.inl rfl, trivial⟩ trivial ?_
  conv => whnf
  injection H with H; subst H
  exact ret_fz [] (rtA_eq rfl)
  conv => whnf
  refine Br.t ft_ ?_
  conv => whnf
  refine Br.t ft_ ?_
  conv => whnf
  refine Br.t ft_ ?_
  conv => whnf
  refine Br.t ft_ ?_
  conv => whnf
  refine cut_ 144 [(2, .bp 0 0), (3, .bp 8 0), (20, .bool true)] [(0, .box [(sv_str a0_0), (sv_S_impl_PlantFoe a0_1), (sv_S_impl_PlantPlace a0_2), (sv_S_impl_PlantValve a0_3)]), (8, .box [.int .i64 a1_0, .str a1_1, .int .i64 a1_2, .int .i64 a1_3, .int .i64 a1_4, (sv_str a1_5), (sv_S_impl_ClaimUse a1_6), (sv_str a1_7), (sv_str a1_8), .int .i64 a1_9, .bool a1_10])] rfl ⟨.inl rfl, ⟨.inl rfl, ⟨.inl rfl, trivial⟩⟩⟩ ⟨rfl, ⟨rfl, trivial⟩⟩ ?_
  conv => whnf
  refine Br.t rfl ?_
  conv => whnf
  refine cut_ 152 [(4, .bool false)] [] rfl ⟨.inl rfl, trivial⟩ trivial ?_
  conv => whnf
  injection H with H; subst H
  exact ret_fz [] (rtA_eq rfl)
  conv => whnf
  refine Br.t ft_ ?_
  conv => whnf
  refine Br.t ft_ ?_
  conv => whnf
  refine Br.t ft_ ?_
  conv => whnf
  refine Br.t ft_ ?_
  conv => whnf
  refine Br.t rfl ?_
  conv => whnf
  refine Br.t rfl ?_
  conv => whnf
  refine Br.t rfl ?_
  conv => whnf
  refine Br.t rfl ?_
  conv => whnf
  refine Br.t rfl ?_
  conv => whnf
  refine cut_ 144 [(2, .bp 0 0), (3, .bp 8 0), (20, .bool true)] [(0, .box [(sv_str a0_0), (sv_S_impl_PlantFoe a0_1), (sv_S_impl_PlantPlace a0_2), (sv_S_impl_PlantValve a0_3)]), (8, .box [.int .i64 a1_0, .str a1_1, .int .i64 a1_2, .int .i64 a1_3, .int .i64 a1_4, (sv_str a1_5), (sv_S_impl_ClaimUse a1_6), (sv_str a1_7), (sv_str a1_8), .int .i64 a1_9, .bool a1_10])] rfl ⟨.inl rfl, ⟨.inl rfl, ⟨.inl rfl, trivial⟩⟩⟩ ⟨rfl, ⟨rfl, trivial⟩⟩ ?_
  conv => whnf
  refine Br.t rfl ?_
  conv => whnf
  refine cut_ 152 [(4, .bool false)] [] rfl ⟨.inl rfl, trivial⟩ trivial ?_
  conv => whnf
  injection H with H; subst H
  exact ret_fz [] (rtA_eq rfl)
theorem impl_isName.l0_lp {F : (Exit → St → Prop) → St → Prop} {hv : List Tmp} {Q : Exit → St → Prop} {σ : St} {r : Bool} {k : Nat} {a0 : ByteArray} {x7 : Int} (H : impl_isName.l0 k a0 x7 = some r) (rn : List (Option Nat)) (h1 : Fits σ σ [] [(7, .int .i64 x7)] [] [] rn)
    (h2 : ∀ (k0 : Nat) (x7 : Int), k0 < k + 1 → impl_isName.l0 k0 a0 x7 = some r → headN σ hv [] [(7, .int .i64 x7)] [] [] (F (fun e σ' => match e with | .normal => ∃ (y : Nat × Int) (rn : List (Option Nat)), (impl_isName.l0 y.1 a0 y.2 = some r ∧ y.1 < k + 1) ∧ y.1 < k0 ∧ Fits σ σ' [] [(7, .int .i64 y.2)] [] [] rn | e => Q e σ'))) : Lp F hv Q σ := by
  unfold Lp
  refine ⟨Nat × Int, fun x => impl_isName.l0 x.1 a0 x.2 = some r ∧ x.1 < k + 1, fun x => x.1, [], fun x => [(7, .int .i64 x.2)], fun x => [], fun x => [], ⟨(k, x7), rn, ⟨H, Nat.lt_succ_self _⟩, h1⟩, ?_⟩
  rintro ⟨k, x7⟩ ⟨H, hk⟩
  exact h2 k x7 hk H
theorem impl_isName.ac {k : Nat} {a0 : ByteArray} {r : Bool} (H : impl_isName.f k a0 = some r) : ACalls Try.prog G 71 [] [.str a0] [] (.bool r) := by
  refine acalls_of tok hP Try.func71 rfl (by kernel_rfl) [.tmp 2] rfl (by kernel_rfl) (Nat.le_of_ble_eq_true rfl) (.l .n (.l (.l .n (.l .n (.l .n (.l (.l .n (.c .n (.c .n (.l (.c .n .n) .n)))) .n)))) (.c .n .n))) rfl ?_
  unfold impl_isName.f at H
  conv => whnf
  refine impl_isName.l0_lp (a0 := a0) (k := k) H [] (fits_of ⟨.inl ⟨rfl, rfl⟩, trivial⟩ trivial fi_ trivial rfl) ?_
  intro k x7 hk H; rcases k with _ | k; exact none_elim H; rw [impl_isName.l0] at H; conv => whnf
  refine br_d H (fun c H => ?_) (fun c H => ?_)
  conv => whnf
  refine nd_ H (fun c H => ?_)
  conv => whnf
  refine Nd.mk nf_ ?_
  conv => whnf
  refine cut_ 88 [(0, .str a0), (4, .int .u8 (bt a0 x7)), (6, .int .i64 (a0.size : Int)), (7, .int .i64 x7)] [] rfl ⟨.inl rfl, ⟨.inl rfl, ⟨.inl rfl, ⟨.inl rfl, trivial⟩⟩⟩⟩ trivial ?_
  conv => whnf
  refine br_d H (fun c H => ?_) (fun c H => ?_)
  conv => whnf
  refine Br.t ft_ ?_
  conv => whnf
  refine Br.t ft_ ?_
  conv => whnf
  refine Br.t rfl ?_
  conv => whnf
  refine Br.t rfl ?_
  conv => whnf
  refine Br.t rfl ?_
  conv => whnf
  refine br_d H (fun c H => ?_) (fun c H => ?_)
  conv => whnf
  refine Br.t ft_ ?_
  conv => whnf
  refine Br.t rfl ?_
  conv => whnf
  refine Br.t ft_ ?_
  conv => whnf
  refine Br.t rfl ?_
  conv => whnf
  refine Br.t rfl ?_
  conv => whnf
  refine Br.t rfl ?_
  conv => whnf
  refine Br.t rfl ?_
  conv => whnf
  refine cut_ 232 [(0, .str a0), (6, .int .i64 (a0.size : Int)), (7, .int .i64 x7), (30, .bool (!(decide ((bt a0 x7) = 45))))] [] rfl ⟨.inl rfl, ⟨.inl rfl, ⟨.inl rfl, ⟨.inl rfl, trivial⟩⟩⟩⟩ trivial ?_
  conv => whnf
  refine br_nd H (fun c H => ?_) (fun c H => ?_)
  conv => whnf
  exact ⟨(k, wrap64 (x7 + 1)), [], ⟨H, lt_⟩, lt_, (fits_of ⟨.inl ⟨rfl, rfl⟩, trivial⟩ trivial fi_ trivial rfl)⟩
  conv => whnf
  refine cut_ 240 [(2, .bool false)] [] rfl ⟨.inl rfl, trivial⟩ trivial ?_
  conv => whnf
  injection H with H; subst H
  exact ret_fz [] (rtA_eq rfl)
  conv => whnf
  refine Br.f ff_ ?_
  conv => whnf
  refine Br.t rfl ?_
  conv => whnf
  refine Br.f ff_ ?_
  conv => whnf
  refine Br.t rfl ?_
  conv => whnf
  refine br_d H (fun c H => ?_) (fun c H => ?_)
  conv => whnf
  refine Br.t ft_ ?_
  conv => whnf
  refine Br.t ft_ ?_
  conv => whnf
  refine cut_ 232 [(0, .str a0), (6, .int .i64 (a0.size : Int)), (7, .int .i64 x7), (30, .bool (!(decide ((bt a0 x7) = 45))))] [] rfl ⟨.inl rfl, ⟨.inl rfl, ⟨.inl rfl, ⟨.inl rfl, trivial⟩⟩⟩⟩ trivial ?_
  conv => whnf
  refine br_nd H (fun c H => ?_) (fun c H => ?_)
  conv => whnf
  exact ⟨(k, wrap64 (x7 + 1)), [], ⟨H, lt_⟩, lt_, (fits_of ⟨.inl ⟨rfl, rfl⟩, trivial⟩ trivial fi_ trivial rfl)⟩
  conv => whnf
  refine cut_ 240 [(2, .bool false)] [] rfl ⟨.inl rfl, trivial⟩ trivial ?_
  conv => whnf
  injection H with H; subst H
  exact ret_fz [] (rtA_eq rfl)
  conv => whnf
  refine Br.f ff_ ?_
  conv => whnf
  refine Br.f ff_ ?_
  conv => whnf
  refine cut_ 232 [(0, .str a0), (6, .int .i64 (a0.size : Int)), (7, .int .i64 x7), (30, .bool false)] [] rfl ⟨.inl rfl, ⟨.inl rfl, ⟨.inl rfl, ⟨.inl rfl, trivial⟩⟩⟩⟩ trivial ?_
  conv => whnf
  refine Br.f rfl ?_
  conv => whnf
  exact ⟨(k, wrap64 (x7 + 1)), [], ⟨H, lt_⟩, lt_, (fits_of ⟨.inl ⟨rfl, rfl⟩, trivial⟩ trivial fi_ trivial rfl)⟩
  conv => whnf
  refine Br.f ff_ ?_
  conv => whnf
  refine Br.f ff_ ?_
  conv => whnf
  refine br_d H (fun c H => ?_) (fun c H => ?_)
  conv => whnf
  refine Br.t ft_ ?_
  conv => whnf
  refine Br.t ft_ ?_
  conv => whnf
  refine br_d H (fun c H => ?_) (fun c H => ?_)
  conv => whnf
  refine Br.t ft_ ?_
  conv => whnf
  refine Br.t ft_ ?_
  conv => whnf
  refine Br.t ft_ ?_
  conv => whnf
  refine Br.t ft_ ?_
  conv => whnf
  refine Br.t rfl ?_
  conv => whnf
  refine Br.t rfl ?_
  conv => whnf
  refine Br.t rfl ?_
  conv => whnf
  refine cut_ 232 [(0, .str a0), (6, .int .i64 (a0.size : Int)), (7, .int .i64 x7), (30, .bool (!(decide ((bt a0 x7) = 45))))] [] rfl ⟨.inl rfl, ⟨.inl rfl, ⟨.inl rfl, ⟨.inl rfl, trivial⟩⟩⟩⟩ trivial ?_
  conv => whnf
  refine br_nd H (fun c H => ?_) (fun c H => ?_)
  conv => whnf
  exact ⟨(k, wrap64 (x7 + 1)), [], ⟨H, lt_⟩, lt_, (fits_of ⟨.inl ⟨rfl, rfl⟩, trivial⟩ trivial fi_ trivial rfl)⟩
  conv => whnf
  refine cut_ 240 [(2, .bool false)] [] rfl ⟨.inl rfl, trivial⟩ trivial ?_
  conv => whnf
  injection H with H; subst H
  exact ret_fz [] (rtA_eq rfl)
  conv => whnf
  refine Br.f ff_ ?_
  conv => whnf
  refine Br.t ft_ ?_
  conv => whnf
  refine Br.f ff_ ?_
  conv => whnf
  refine Br.t ft_ ?_
  conv => whnf
  refine br_d H (fun c H => ?_) (fun c H => ?_)
  conv => whnf
  refine Br.t ft_ ?_
  conv => whnf
  refine Br.t ft_ ?_
  conv => whnf
  refine cut_ 232 [(0, .str a0), (6, .int .i64 (a0.size : Int)), (7, .int .i64 x7), (30, .bool (!(decide ((bt a0 x7) = 45))))] [] rfl ⟨.inl rfl, ⟨.inl rfl, ⟨.inl rfl, ⟨.inl rfl, trivial⟩⟩⟩⟩ trivial ?_
  conv => whnf
  refine br_nd H (fun c H => ?_) (fun c H => ?_)
  conv => whnf
  exact ⟨(k, wrap64 (x7 + 1)), [], ⟨H, lt_⟩, lt_, (fits_of ⟨.inl ⟨rfl, rfl⟩, trivial⟩ trivial fi_ trivial rfl)⟩
  conv => whnf
  refine cut_ 240 [(2, .bool false)] [] rfl ⟨.inl rfl, trivial⟩ trivial ?_
  conv => whnf
  injection H with H; subst H
  exact ret_fz [] (rtA_eq rfl)
  conv => whnf
  refine Br.f ff_ ?_
  conv => whnf
  refine Br.f ff_ ?_
  conv => whnf
  refine cut_ 232 [(0, .str a0), (6, .int .i64 (a0.size : Int)), (7, .int .i64 x7), (30, .bool false)] [] rfl ⟨.inl rfl, ⟨.inl rfl, ⟨.inl rfl, ⟨.inl rfl, trivial⟩⟩⟩⟩ trivial ?_
  conv => whnf
  refine Br.f rfl ?_
  conv => whnf
  exact ⟨(k, wrap64 (x7 + 1)), [], ⟨H, lt_⟩, lt_, (fits_of ⟨.inl ⟨rfl, rfl⟩, trivial⟩ trivial fi_ trivial rfl)⟩
  conv => whnf
  refine Br.f ff_ ?_
  conv => whnf
  refine Br.f ff_ ?_
  conv => whnf
  refine Br.f ff_ ?_
  conv => whnf
  refine Br.f ff_ ?_
  conv => whnf
  refine Br.f rfl ?_
  conv => whnf
  refine Br.f rfl ?_
  conv => whnf
  refine Br.f rfl ?_
  conv => whnf
  refine cut_ 232 [(0, .str a0), (6, .int .i64 (a0.size : Int)), (7, .int .i64 x7), (30, .bool false)] [] rfl ⟨.inl rfl, ⟨.inl rfl, ⟨.inl rfl, ⟨.inl rfl, trivial⟩⟩⟩⟩ trivial ?_
  conv => whnf
  refine Br.f rfl ?_
  conv => whnf
  exact ⟨(k, wrap64 (x7 + 1)), [], ⟨H, lt_⟩, lt_, (fits_of ⟨.inl ⟨rfl, rfl⟩, trivial⟩ trivial fi_ trivial rfl)⟩
  conv => whnf
  refine br_d H (fun c H => ?_) (fun c H => ?_)
  conv => whnf
  refine Br.t ft_ ?_
  conv => whnf
  refine Br.t ft_ ?_
  conv => whnf
  refine Br.t ft_ ?_
  conv => whnf
  refine cut_ 112 [(2, .bool (decide ((a0.size : Int) ≤ 8)))] [] rfl ⟨.inl rfl, trivial⟩ trivial ?_
  conv => whnf
  injection H with H; subst H
  exact ret_fz [] (rtA_eq rfl)
  conv => whnf
  refine Br.f ff_ ?_
  conv => whnf
  refine Br.f ff_ ?_
  conv => whnf
  refine Br.f ff_ ?_
  conv => whnf
  refine cut_ 112 [(2, .bool false)] [] rfl ⟨.inl rfl, trivial⟩ trivial ?_
  conv => whnf
  injection H with H; subst H
  exact ret_fz [] (rtA_eq rfl)
theorem impl_rising.l0_lp {F : (Exit → St → Prop) → St → Prop} {hv : List Tmp} {Q : Exit → St → Prop} {σ : St} {r : Bool} {k : Nat} {l0 : List ByteArray} {x3 : Int} (H : impl_rising.l0 k l0 x3 = some r) (rn : List (Option Nat)) (h1 : Fits σ σ [] [(3, .int .i64 x3)] [] [] rn)
    (h2 : ∀ (k0 : Nat) (x3 : Int), k0 < k + 1 → impl_rising.l0 k0 l0 x3 = some r → headN σ hv [] [(3, .int .i64 x3)] [] [] (F (fun e σ' => match e with | .normal => ∃ (y : Nat × Int) (rn : List (Option Nat)), (impl_rising.l0 y.1 l0 y.2 = some r ∧ y.1 < k + 1) ∧ y.1 < k0 ∧ Fits σ σ' [] [(3, .int .i64 y.2)] [] [] rn | e => Q e σ'))) : Lp F hv Q σ := by
  unfold Lp
  refine ⟨Nat × Int, fun x => impl_rising.l0 x.1 l0 x.2 = some r ∧ x.1 < k + 1, fun x => x.1, [], fun x => [(3, .int .i64 x.2)], fun x => [], fun x => [], ⟨(k, x3), rn, ⟨H, Nat.lt_succ_self _⟩, h1⟩, ?_⟩
  rintro ⟨k, x3⟩ ⟨H, hk⟩
  exact h2 k x3 hk H
theorem impl_rising.ac {k : Nat} {l0 : List ByteArray} {r : Bool} (H : impl_rising.f k l0 = some r) : ACalls Try.prog G 155 [] [(sv_str l0)] [] (.bool r) := by
  refine acalls_of tok hP Try.func155 rfl (by kernel_rfl) [.tmp 2] rfl (by kernel_rfl) (Nat.le_of_ble_eq_true rfl) (.l .n (.l (.l .n (.l .n (.l (.c .n .n) .n))) .n)) rfl ?_
  unfold impl_rising.f at H
  conv => whnf
  refine impl_rising.l0_lp (l0 := l0) (k := k) H [] (fits_of ⟨.inl ⟨rfl, rfl⟩, trivial⟩ trivial fi_ trivial rfl) ?_
  intro k x3 hk H; rcases k with _ | k; exact none_elim H; rw [impl_rising.l0] at H; conv => whnf
  refine br_d H (fun c H => ?_) (fun c H => ?_)
  conv => whnf
  refine nd_ H (fun c H => ?_)
  conv => whnf
  refine nd_ H (fun c H => ?_)
  conv => whnf
  refine El.mk (rdm_en_str _ _ nf_ nf_) ?_
  conv => whnf
  refine nd_ H (fun c H => ?_)
  conv => whnf
  refine Nd.mk nf_ ?_
  conv => whnf
  refine El.mk (rdm_en_str _ _ nf_ nf_) ?_
  conv => whnf
  refine cut_ 128 [(0, (sv_str l0)), (3, .int .i64 x3), (19, .bool (!(Op.bytesLess (rdOf ByteArray.empty l0 (wrap64 (x3 - 1))).toList (rdOf ByteArray.empty l0 x3).toList)))] [] rfl ⟨.inl rfl, ⟨.inl rfl, ⟨.inl rfl, trivial⟩⟩⟩ trivial ?_
  conv => whnf
  refine br_nt H (fun c H => ?_) (fun c H => ?_)
  conv => whnf
  exact ⟨(k, wrap64 (x3 + 1)), [], ⟨H, lt_⟩, lt_, (fits_of ⟨.inl ⟨rfl, rfl⟩, trivial⟩ trivial fi_ trivial rfl)⟩
  conv => whnf
  injection H with H; subst H
  exact ret_fz [] (rtA_eq rfl)
  conv => whnf
  injection H with H; subst H
  exact ret_fz [] (rtA_eq rfl)
theorem impl_names.l0_lp {F : (Exit → St → Prop) → St → Prop} {hv : List Tmp} {Q : Exit → St → Prop} {σ : St} {r : Bool} {k : Nat} {l0 : List ByteArray} {x7 : Int} (H : impl_names.l0 k l0 x7 = some r) (rn : List (Option Nat)) (h1 : Fits σ σ [] [(7, .int .i64 x7)] [] [] rn)
    (h2 : ∀ (k0 : Nat) (x7 : Int), k0 < k + 1 → impl_names.l0 k0 l0 x7 = some r → headN σ hv [] [(7, .int .i64 x7)] [] [] (F (fun e σ' => match e with | .normal => ∃ (y : Nat × Int) (rn : List (Option Nat)), (impl_names.l0 y.1 l0 y.2 = some r ∧ y.1 < k + 1) ∧ y.1 < k0 ∧ Fits σ σ' [] [(7, .int .i64 y.2)] [] [] rn | e => Q e σ'))) : Lp F hv Q σ := by
  unfold Lp
  refine ⟨Nat × Int, fun x => impl_names.l0 x.1 l0 x.2 = some r ∧ x.1 < k + 1, fun x => x.1, [], fun x => [(7, .int .i64 x.2)], fun x => [], fun x => [], ⟨(k, x7), rn, ⟨H, Nat.lt_succ_self _⟩, h1⟩, ?_⟩
  rintro ⟨k, x7⟩ ⟨H, hk⟩
  exact h2 k x7 hk H
theorem impl_names.ac {k : Nat} {l0 : List ByteArray} {r : Bool} (H : impl_names.f k l0 = some r) : ACalls Try.prog G 103 [] [(sv_str l0)] [] (.bool r) := by
  refine acalls_of tok hP Try.func103 rfl (by kernel_rfl) [.tmp 2] rfl (by kernel_rfl) (Nat.le_of_ble_eq_true rfl) (.l .n (.l (.l .n (.l .n (.l .n (.l (.l .n (.c .n .n)) .n)))) .n)) rfl ?_
  unfold impl_names.f at H
  conv => whnf
  refine impl_names.l0_lp (l0 := l0) (k := k) H [] (fits_of ⟨.inl ⟨rfl, rfl⟩, trivial⟩ trivial fi_ trivial rfl) ?_
  intro k x7 hk H; rcases k with _ | k; exact none_elim H; rw [impl_names.l0] at H; conv => whnf
  refine br_d H (fun c H => ?_) (fun c H => ?_)
  conv => whnf
  refine nd_ H (fun c H => ?_)
  conv => whnf
  refine Nd.mk nf_ ?_
  conv => whnf
  refine El.mk (rdm_en_str _ _ nf_ nf_) ?_
  conv => whnf
  revert H; refine bind_elim (fun t751 A H => ?_)
  refine call_mk (impl_isName.ac A) (avAL_cons (avA_shut' rfl) (avAL_nil)) (Or.inl rfl) rfl rfl (Nat.le_of_ble_eq_true rfl) ?_
  conv => whnf
  refine cut_ 88 [(0, (sv_str l0)), (5, (sv_str l0)), (6, .int .i64 (l0.length : Int)), (7, .int .i64 x7), (13, .bool (!t751))] [] rfl ⟨.inl rfl, ⟨.inl rfl, ⟨.inl rfl, ⟨.inl rfl, ⟨.inl rfl, trivial⟩⟩⟩⟩⟩ trivial ?_
  conv => whnf
  refine br_nt H (fun c H => ?_) (fun c H => ?_)
  conv => whnf
  exact ⟨(k, wrap64 (x7 + 1)), [], ⟨H, lt_⟩, lt_, (fits_of ⟨.inl ⟨rfl, rfl⟩, trivial⟩ trivial fi_ trivial rfl)⟩
  conv => whnf
  injection H with H; subst H
  exact ret_fz [] (rtA_eq rfl)
  conv => whnf
  revert H; refine bind_elim (fun t753 A H => ?_)
  refine call_mk (impl_rising.ac A) (avAL_cons (avA_shut' rfl) (avAL_nil)) (Or.inl rfl) rfl rfl (Nat.le_of_ble_eq_true rfl) ?_
  conv => whnf
  injection H with H; subst H
  exact ret_fz [] (rtA_eq rfl)
theorem impl_Plant_pairs.l0_lp {F : (Exit → St → Prop) → St → Prop} {hv : List Tmp} {Q : Exit → St → Prop} {σ : St} {r : List S_A2_string} {k : Nat} {a0_1 : List S_impl_PlantFoe} {x2 : List S_A2_string} {x8 : Int} (H : impl_Plant_pairs.l0 k a0_1 x2 x8 = some r) (rn : List (Option Nat)) (h1 : Fits σ σ [0] [(2, .own 0 x2.length), (8, .int .i64 x8)] [] [.arr 205 2 (x2.map en_S_A2_string)] rn)
    (h2 : ∀ (k0 : Nat) (x2 : List S_A2_string) (x8 : Int), k0 < k + 1 → impl_Plant_pairs.l0 k0 a0_1 x2 x8 = some r → headN σ hv [0] [(2, .own 0 x2.length), (8, .int .i64 x8)] [] [.arr 205 2 (x2.map en_S_A2_string)] (F (fun e σ' => match e with | .normal => ∃ (y : Nat × (List S_A2_string) × Int) (rn : List (Option Nat)), (impl_Plant_pairs.l0 y.1 a0_1 y.2.1 y.2.2 = some r ∧ y.1 < k + 1) ∧ y.1 < k0 ∧ Fits σ σ' [0] [(2, .own 0 y.2.1.length), (8, .int .i64 y.2.2)] [] [.arr 205 2 (y.2.1.map en_S_A2_string)] rn | e => Q e σ'))) : Lp F hv Q σ := by
  unfold Lp
  refine ⟨Nat × (List S_A2_string) × Int, fun x => impl_Plant_pairs.l0 x.1 a0_1 x.2.1 x.2.2 = some r ∧ x.1 < k + 1, fun x => x.1, [0], fun x => [(2, .own 0 x.2.1.length), (8, .int .i64 x.2.2)], fun x => [], fun x => [.arr 205 2 (x.2.1.map en_S_A2_string)], ⟨(k, x2, x8), rn, ⟨H, Nat.lt_succ_self _⟩, h1⟩, ?_⟩
  rintro ⟨k, x2, x8⟩ ⟨H, hk⟩
  exact h2 k x2 x8 hk H
theorem impl_Plant_pairs.ac {k : Nat} {a0_0 : List ByteArray} {a0_1 : List S_impl_PlantFoe} {a0_2 : List S_impl_PlantPlace} {a0_3 : List S_impl_PlantValve} {r : List S_A2_string} (H : impl_Plant_pairs.f k a0_0 a0_1 a0_2 a0_3 = some r) : ACalls Try.prog G 193 [] [.agg [(sv_str a0_0), (sv_S_impl_PlantFoe a0_1), (sv_S_impl_PlantPlace a0_2), (sv_S_impl_PlantValve a0_3)]] [] ((sv_S_A2_string r)) := by
  refine acalls_of tok hP Try.func193 rfl (by kernel_rfl) [.tmp 2] rfl (by kernel_rfl) (Nat.le_of_ble_eq_true rfl) (.l .n (.l (.l .n (.l .n (.l .n (.l (.c .n .n) .n)))) .n)) rfl ?_
  unfold impl_Plant_pairs.f at H
  conv => whnf
  refine impl_Plant_pairs.l0_lp (a0_1 := a0_1) (k := k) H [none] (fits_of ⟨⟨rfl, rfl⟩, ⟨.inl ⟨rfl, rfl⟩, trivial⟩⟩ ⟨⟨_, _, rfl⟩, trivial⟩ fi_ trivial rfl) ?_
  intro k x2 x8 hk H; rcases k with _ | k; exact none_elim H; rw [impl_Plant_pairs.l0] at H; conv => whnf
  refine br_d H (fun c H => ?_) (fun c H => ?_)
  conv => whnf
  refine nd_ H (fun c H => ?_)
  conv => whnf
  refine Nd.mk nf_ ?_
  conv => whnf
  refine El.mk (rdm_en_S_impl_PlantFoe _ _ nf_ nf_) ?_
  conv => whnf
  refine cut_ 89 [(2, .own 48 x2.length), (4, .bp 73 0), (6, (sv_S_impl_PlantFoe a0_1)), (7, .int .i64 (a0_1.length : Int)), (8, .int .i64 x8)] [(48, .arr 205 2 (x2.map en_S_A2_string)), (73, .box [.str ((rd_impl_PlantFoe a0_1 x8).f0), .str ((rd_impl_PlantFoe a0_1 x8).f1)])] rfl ⟨.inl rfl, ⟨.inl rfl, ⟨.inl rfl, ⟨.inl rfl, ⟨.inl rfl, trivial⟩⟩⟩⟩⟩ ⟨rfl, ⟨rfl, trivial⟩⟩ ?_
  conv => whnf
  refine nd_ H (fun c H => ?_)
  conv => whnf
  exact ⟨(k, (x2 ++ ([(⟨(rd_impl_PlantFoe a0_1 x8).f0, (rd_impl_PlantFoe a0_1 x8).f1⟩ : S_A2_string)] : List S_A2_string)), wrap64 (x8 + 1)), [some 145], ⟨H, lt_⟩, lt_, (fits_of ⟨mt_own lm_, ⟨.inl ⟨rfl, rfl⟩, trivial⟩⟩ ⟨fm_, trivial⟩ fi_ trivial rfl)⟩
  conv => whnf
  injection H with H; subst H
  exact ret_fz [48] (rtA_fz' rfl rfl)
theorem impl_foesOk.l0_lp {F : (Exit → St → Prop) → St → Prop} {hv : List Tmp} {Q : Exit → St → Prop} {σ : St} {r : Bool} {k : Nat} {l0 : List S_A2_string} {a1 : Int} {x9 : Int} (H : impl_foesOk.l0 k l0 a1 x9 = some r) (rn : List (Option Nat)) (h1 : Fits σ σ [] [(9, .int .i64 x9)] [] [] rn)
    (h2 : ∀ (k0 : Nat) (x9 : Int), k0 < k + 1 → impl_foesOk.l0 k0 l0 a1 x9 = some r → headN σ hv [] [(9, .int .i64 x9)] [] [] (F (fun e σ' => match e with | .normal => ∃ (y : Nat × Int) (rn : List (Option Nat)), (impl_foesOk.l0 y.1 l0 a1 y.2 = some r ∧ y.1 < k + 1) ∧ y.1 < k0 ∧ Fits σ σ' [] [(9, .int .i64 y.2)] [] [] rn | e => Q e σ'))) : Lp F hv Q σ := by
  unfold Lp
  refine ⟨Nat × Int, fun x => impl_foesOk.l0 x.1 l0 a1 x.2 = some r ∧ x.1 < k + 1, fun x => x.1, [], fun x => [(9, .int .i64 x.2)], fun x => [], fun x => [], ⟨(k, x9), rn, ⟨H, Nat.lt_succ_self _⟩, h1⟩, ?_⟩
  rintro ⟨k, x9⟩ ⟨H, hk⟩
  exact h2 k x9 hk H
theorem impl_foesOk.ac {k : Nat} {l0 : List S_A2_string} {a1 : Int} {r : Bool} (H : impl_foesOk.f k l0 a1 = some r) : ACalls Try.prog G 69 [] [(sv_S_A2_string l0), .int .i64 a1] [] (.bool r) := by
  refine acalls_of tok hP Try.func69 rfl (by kernel_rfl) [.tmp 4] rfl (by kernel_rfl) (Nat.le_of_ble_eq_true rfl) (.l .n (.l (.l .n (.l .n (.l .n (.l (.c .n (.l (.c .n (.l (.c .n .n) .n)) (.c .n (.l (.c .n .n) .n)))) .n)))) (.c .n .n))) rfl ?_
  unfold impl_foesOk.f at H
  conv => whnf
  refine impl_foesOk.l0_lp (l0 := l0) (a1 := a1) (k := k) H [] (fits_of ⟨.inl ⟨rfl, rfl⟩, trivial⟩ trivial fi_ trivial rfl) ?_
  intro k x9 hk H; rcases k with _ | k; exact none_elim H; rw [impl_foesOk.l0] at H; conv => whnf
  refine br_d H (fun c H => ?_) (fun c H => ?_)
  conv => whnf
  refine nd_ H (fun c H => ?_)
  conv => whnf
  refine Nd.mk nf_ ?_
  conv => whnf
  refine El.mk (rdm_en_S_A2_string _ _ nf_ nf_) ?_
  conv => whnf
  refine cut_ 88 [(0, (sv_S_A2_string l0)), (1, .int .i64 a1), (5, .int .i64 x9), (6, .bp 64 0), (7, (sv_S_A2_string l0)), (8, .int .i64 (l0.length : Int)), (9, .int .i64 x9)] [(64, .box [.str ((rd_A2_string l0 x9).f0), .str ((rd_A2_string l0 x9).f1)])] rfl ⟨.inl rfl, ⟨.inl rfl, ⟨.inl rfl, ⟨.inl rfl, ⟨.inl rfl, ⟨.inl rfl, ⟨.inl rfl, trivial⟩⟩⟩⟩⟩⟩⟩ ⟨rfl, trivial⟩ ?_
  conv => whnf
  revert H; refine bind_elim (fun t793 A H => ?_)
  refine call_mk (impl_isName.ac A) (avAL_cons (avA_shut' rfl) (avAL_nil)) (Or.inl rfl) rfl rfl (Nat.le_of_ble_eq_true rfl) ?_
  conv => whnf
  refine br_nt H (fun c H => ?_) (fun c H => ?_)
  conv => whnf
  refine Br.f ff_ ?_
  conv => whnf
  refine Br.f ff_ ?_
  conv => whnf
  revert H; refine bind_elim (fun t794 A H => ?_)
  refine call_mk (impl_isName.ac A) (avAL_cons (avA_shut' rfl) (avAL_nil)) (Or.inl rfl) rfl rfl (Nat.le_of_ble_eq_true rfl) ?_
  conv => whnf
  refine Br.f ff_ ?_
  conv => whnf
  refine Br.f ff_ ?_
  conv => whnf
  refine br_nt H (fun c H => ?_) (fun c H => ?_)
  conv => whnf
  refine Br.f ff_ ?_
  conv => whnf
  refine Br.f ff_ ?_
  conv => whnf
  refine Br.f ff_ ?_
  conv => whnf
  refine Br.f ff_ ?_
  conv => whnf
  refine Br.f ff_ ?_
  conv => whnf
  refine cut_ 224 [(0, (sv_S_A2_string l0)), (1, .int .i64 a1), (5, .int .i64 x9), (6, .bp 64 0), (7, (sv_S_A2_string l0)), (8, .int .i64 (l0.length : Int)), (9, .int .i64 x9), (30, .bool (!(Op.bytesLess ((rd_A2_string l0 x9).f0).toList ((rd_A2_string l0 x9).f1).toList)))] [(64, .box [.str ((rd_A2_string l0 x9).f0), .str ((rd_A2_string l0 x9).f1)])] rfl ⟨.inl rfl, ⟨.inl rfl, ⟨.inl rfl, ⟨.inl rfl, ⟨.inl rfl, ⟨.inl rfl, ⟨.inl rfl, ⟨.inl rfl, trivial⟩⟩⟩⟩⟩⟩⟩⟩ ⟨rfl, trivial⟩ ?_
  conv => whnf
  refine br_nt H (fun c H => ?_) (fun c H => ?_)
  conv => whnf
  refine br_d H (fun c H => ?_) (fun c H => ?_)
  conv => whnf
  refine Br.t ft_ ?_
  conv => whnf
  refine Br.t ft_ ?_
  conv => whnf
  refine Br.t ft_ ?_
  conv => whnf
  refine nd_ H (fun c H => ?_)
  conv => whnf
  refine nd_ H (fun c H => ?_)
  conv => whnf
  refine El.mk (rdm_en_S_A2_string _ _ nf_ nf_) ?_
  conv => whnf
  refine Br.t ft_ ?_
  conv => whnf
  refine Br.t ft_ ?_
  conv => whnf
  refine Br.t ft_ ?_
  conv => whnf
  refine Br.t ft_ ?_
  conv => whnf
  refine Br.t ft_ ?_
  conv => whnf
  refine Br.t ft_ ?_
  conv => whnf
  refine br_t H (fun c H => ?_) (fun c H => ?_)
  conv => whnf
  refine Br.t ft_ ?_
  conv => whnf
  refine Br.t ft_ ?_
  conv => whnf
  refine Br.t ft_ ?_
  conv => whnf
  refine Br.t ft_ ?_
  conv => whnf
  refine Br.t ft_ ?_
  conv => whnf
  refine Br.t ft_ ?_
  conv => whnf
  refine Br.t ft_ ?_
  conv => whnf
  refine Br.t ft_ ?_
  conv => whnf
  refine Br.t ft_ ?_
  conv => whnf
  refine Br.t ft_ ?_
  conv => whnf
  refine Br.t ft_ ?_
  conv => whnf
  refine Br.t ft_ ?_
  conv => whnf
  refine Br.t ft_ ?_
  conv => whnf
  refine cut_ 504 [(0, (sv_S_A2_string l0)), (1, .int .i64 a1), (7, (sv_S_A2_string l0)), (8, .int .i64 (l0.length : Int)), (9, .int .i64 x9), (65, .bool true)] [] rfl ⟨.inl rfl, ⟨.inl rfl, ⟨.inl rfl, ⟨.inl rfl, ⟨.inl rfl, ⟨.inl rfl, trivial⟩⟩⟩⟩⟩⟩ trivial ?_
  conv => whnf
  refine Br.t rfl ?_
  conv => whnf
  refine cut_ 512 [(4, .bool false)] [] rfl ⟨.inl rfl, trivial⟩ trivial ?_
  conv => whnf
  injection H with H; subst H
  exact ret_fz [] (rtA_eq rfl)
  conv => whnf
  refine Br.f ff_ ?_
  conv => whnf
  refine Br.f ff_ ?_
  conv => whnf
  refine Br.f ff_ ?_
  conv => whnf
  refine Nd.mk nf_ ?_
  conv => whnf
  refine Nd.mk nf_ ?_
  conv => whnf
  refine El.mk (rdm_en_S_A2_string _ _ nf_ nf_) ?_
  conv => whnf
  refine Br.f ff_ ?_
  conv => whnf
  refine Br.f ff_ ?_
  conv => whnf
  refine Br.f ff_ ?_
  conv => whnf
  refine Br.f ff_ ?_
  conv => whnf
  refine Br.f ff_ ?_
  conv => whnf
  refine Br.f ff_ ?_
  conv => whnf
  refine br_d H (fun c H => ?_) (fun c H => ?_)
  conv => whnf
  refine Br.t ft_ ?_
  conv => whnf
  refine Br.t ft_ ?_
  conv => whnf
  refine Br.t ft_ ?_
  conv => whnf
  refine Nd.mk nf_ ?_
  conv => whnf
  refine Nd.mk nf_ ?_
  conv => whnf
  refine El.mk (rdm_en_S_A2_string _ _ nf_ nf_) ?_
  conv => whnf
  refine Br.t ft_ ?_
  conv => whnf
  refine Br.t ft_ ?_
  conv => whnf
  refine Br.t ft_ ?_
  conv => whnf
  refine Br.t ft_ ?_
  conv => whnf
  refine Br.t ft_ ?_
  conv => whnf
  refine Br.f ff_ ?_
  conv => whnf
  refine Br.t ft_ ?_
  conv => whnf
  refine Br.t ft_ ?_
  conv => whnf
  refine Br.f ff_ ?_
  conv => whnf
  refine Br.t ft_ ?_
  conv => whnf
  refine cut_ 504 [(0, (sv_S_A2_string l0)), (1, .int .i64 a1), (7, (sv_S_A2_string l0)), (8, .int .i64 (l0.length : Int)), (9, .int .i64 x9), (65, .bool (!(Op.bytesLess ((rd_A2_string l0 (wrap64 (x9 - 1))).f1).toList ((rd_A2_string l0 x9).f1).toList)))] [] rfl ⟨.inl rfl, ⟨.inl rfl, ⟨.inl rfl, ⟨.inl rfl, ⟨.inl rfl, ⟨.inl rfl, trivial⟩⟩⟩⟩⟩⟩ trivial ?_
  conv => whnf
  refine br_nt H (fun c H => ?_) (fun c H => ?_)
  conv => whnf
  exact ⟨(k, wrap64 (x9 + 1)), [], ⟨H, lt_⟩, lt_, (fits_of ⟨.inl ⟨rfl, rfl⟩, trivial⟩ trivial fi_ trivial rfl)⟩
  conv => whnf
  refine cut_ 512 [(4, .bool false)] [] rfl ⟨.inl rfl, trivial⟩ trivial ?_
  conv => whnf
  injection H with H; subst H
  exact ret_fz [] (rtA_eq rfl)
  conv => whnf
  refine Br.f ff_ ?_
  conv => whnf
  refine Br.f ff_ ?_
  conv => whnf
  refine Br.f ff_ ?_
  conv => whnf
  refine Br.f ff_ ?_
  conv => whnf
  refine Br.f ff_ ?_
  conv => whnf
  refine Br.f ff_ ?_
  conv => whnf
  refine Br.f ff_ ?_
  conv => whnf
  refine Br.f ff_ ?_
  conv => whnf
  refine Br.f ff_ ?_
  conv => whnf
  refine Br.f ff_ ?_
  conv => whnf
  refine Br.t ft_ ?_
  conv => whnf
  refine Br.f ff_ ?_
  conv => whnf
  refine Br.t ft_ ?_
  conv => whnf
  refine cut_ 504 [(0, (sv_S_A2_string l0)), (1, .int .i64 a1), (7, (sv_S_A2_string l0)), (8, .int .i64 (l0.length : Int)), (9, .int .i64 x9), (65, .bool false)] [] rfl ⟨.inl rfl, ⟨.inl rfl, ⟨.inl rfl, ⟨.inl rfl, ⟨.inl rfl, ⟨.inl rfl, trivial⟩⟩⟩⟩⟩⟩ trivial ?_
  conv => whnf
  refine Br.f rfl ?_
  conv => whnf
  exact ⟨(k, wrap64 (x9 + 1)), [], ⟨H, lt_⟩, lt_, (fits_of ⟨.inl ⟨rfl, rfl⟩, trivial⟩ trivial fi_ trivial rfl)⟩
  conv => whnf
  refine Br.f ff_ ?_
  conv => whnf
  refine Br.f ff_ ?_
  conv => whnf
  refine Br.f ff_ ?_
  conv => whnf
  refine Br.f ff_ ?_
  conv => whnf
  refine Br.f ff_ ?_
  conv => whnf
  refine Br.f ff_ ?_
  conv => whnf
  refine Br.f ff_ ?_
  conv => whnf
  refine Br.f ff_ ?_
  conv => whnf
  refine Br.f ff_ ?_
  conv => whnf
  refine Br.f ff_ ?_
  conv => whnf
  refine Br.f ff_ ?_
  conv => whnf
  refine cut_ 504 [(0, (sv_S_A2_string l0)), (1, .int .i64 a1), (7, (sv_S_A2_string l0)), (8, .int .i64 (l0.length : Int)), (9, .int .i64 x9), (65, .bool false)] [] rfl ⟨.inl rfl, ⟨.inl rfl, ⟨.inl rfl, ⟨.inl rfl, ⟨.inl rfl, ⟨.inl rfl, trivial⟩⟩⟩⟩⟩⟩ trivial ?_
  conv => whnf
  refine Br.f rfl ?_
  conv => whnf
  exact ⟨(k, wrap64 (x9 + 1)), [], ⟨H, lt_⟩, lt_, (fits_of ⟨.inl ⟨rfl, rfl⟩, trivial⟩ trivial fi_ trivial rfl)⟩
  conv => whnf
  refine cut_ 232 [(4, .bool false)] [] rfl ⟨.inl rfl, trivial⟩ trivial ?_
  conv => whnf
  injection H with H; subst H
  exact ret_fz [] (rtA_eq rfl)
  conv => whnf
  refine Br.t ft_ ?_
  conv => whnf
  refine Br.t ft_ ?_
  conv => whnf
  refine Br.t ft_ ?_
  conv => whnf
  refine Br.t ft_ ?_
  conv => whnf
  refine Br.t ft_ ?_
  conv => whnf
  refine cut_ 224 [(0, (sv_S_A2_string l0)), (1, .int .i64 a1), (5, .int .i64 x9), (6, .bp 64 0), (7, (sv_S_A2_string l0)), (8, .int .i64 (l0.length : Int)), (9, .int .i64 x9), (30, .bool true)] [(64, .box [.str ((rd_A2_string l0 x9).f0), .str ((rd_A2_string l0 x9).f1)])] rfl ⟨.inl rfl, ⟨.inl rfl, ⟨.inl rfl, ⟨.inl rfl, ⟨.inl rfl, ⟨.inl rfl, ⟨.inl rfl, ⟨.inl rfl, trivial⟩⟩⟩⟩⟩⟩⟩⟩ ⟨rfl, trivial⟩ ?_
  conv => whnf
  refine Br.t rfl ?_
  conv => whnf
  refine cut_ 232 [(4, .bool false)] [] rfl ⟨.inl rfl, trivial⟩ trivial ?_
  conv => whnf
  injection H with H; subst H
  exact ret_fz [] (rtA_eq rfl)
  conv => whnf
  refine Br.t ft_ ?_
  conv => whnf
  refine Br.t ft_ ?_
  conv => whnf
  refine Br.t ft_ ?_
  conv => whnf
  refine Br.t ft_ ?_
  conv => whnf
  refine Br.t rfl ?_
  conv => whnf
  refine Br.t rfl ?_
  conv => whnf
  refine Br.t rfl ?_
  conv => whnf
  refine Br.t rfl ?_
  conv => whnf
  refine Br.t rfl ?_
  conv => whnf
  refine Br.t rfl ?_
  conv => whnf
  refine cut_ 224 [(0, (sv_S_A2_string l0)), (1, .int .i64 a1), (5, .int .i64 x9), (6, .bp 64 0), (7, (sv_S_A2_string l0)), (8, .int .i64 (l0.length : Int)), (9, .int .i64 x9), (30, .bool true)] [(64, .box [.str ((rd_A2_string l0 x9).f0), .str ((rd_A2_string l0 x9).f1)])] rfl ⟨.inl rfl, ⟨.inl rfl, ⟨.inl rfl, ⟨.inl rfl, ⟨.inl rfl, ⟨.inl rfl, ⟨.inl rfl, ⟨.inl rfl, trivial⟩⟩⟩⟩⟩⟩⟩⟩ ⟨rfl, trivial⟩ ?_
  conv => whnf
  refine Br.t rfl ?_
  conv => whnf
  refine cut_ 232 [(4, .bool false)] [] rfl ⟨.inl rfl, trivial⟩ trivial ?_
  conv => whnf
  injection H with H; subst H
  exact ret_fz [] (rtA_eq rfl)
  conv => whnf
  refine cut_ 80 [(4, .bool (decide ((l0.length : Int) ≤ a1)))] [] rfl ⟨.inl rfl, trivial⟩ trivial ?_
  conv => whnf
  injection H with H; subst H
  exact ret_fz [] (rtA_eq rfl)
theorem slices_Index_string_string.l0_lp {F : (Exit → St → Prop) → St → Prop} {hv : List Tmp} {Q : Exit → St → Prop} {σ : St} {r : Int} {k : Nat} {l0 : List ByteArray} {a1 : ByteArray} {x8 : Int} (H : slices_Index_string_string.l0 k l0 a1 x8 = some r) (rn : List (Option Nat)) (h1 : Fits σ σ [] [(8, .int .i64 x8)] [] [] rn)
    (h2 : ∀ (k0 : Nat) (x8 : Int), k0 < k + 1 → slices_Index_string_string.l0 k0 l0 a1 x8 = some r → headN σ hv [] [(8, .int .i64 x8)] [] [] (F (fun e σ' => match e with | .normal => ∃ (y : Nat × Int) (rn : List (Option Nat)), (slices_Index_string_string.l0 y.1 l0 a1 y.2 = some r ∧ y.1 < k + 1) ∧ y.1 < k0 ∧ Fits σ σ' [] [(8, .int .i64 y.2)] [] [] rn | e => Q e σ'))) : Lp F hv Q σ := by
  unfold Lp
  refine ⟨Nat × Int, fun x => slices_Index_string_string.l0 x.1 l0 a1 x.2 = some r ∧ x.1 < k + 1, fun x => x.1, [], fun x => [(8, .int .i64 x.2)], fun x => [], fun x => [], ⟨(k, x8), rn, ⟨H, Nat.lt_succ_self _⟩, h1⟩, ?_⟩
  rintro ⟨k, x8⟩ ⟨H, hk⟩
  exact h2 k x8 hk H
theorem slices_Index_string_string.ac {k : Nat} {l0 : List ByteArray} {a1 : ByteArray} {r : Int} (H : slices_Index_string_string.f k l0 a1 = some r) : ACalls Try.prog G 208 [] [(sv_str l0), .str a1] [] (.int .i64 r) := by
  refine acalls_of tok hP Try.func208 rfl (by kernel_rfl) [.tmp 4] rfl (by kernel_rfl) (Nat.le_of_ble_eq_true rfl) (.l .n (.l (.l .n (.l .n (.l .n (.l (.l .n (.c .n .n)) .n)))) .n)) rfl ?_
  unfold slices_Index_string_string.f at H
  conv => whnf
  refine slices_Index_string_string.l0_lp (l0 := l0) (a1 := a1) (k := k) H [] (fits_of ⟨.inl ⟨rfl, rfl⟩, trivial⟩ trivial fi_ trivial rfl) ?_
  intro k x8 hk H; rcases k with _ | k; exact none_elim H; rw [slices_Index_string_string.l0] at H; conv => whnf
  refine br_d H (fun c H => ?_) (fun c H => ?_)
  conv => whnf
  refine nd_ H (fun c H => ?_)
  conv => whnf
  refine Nd.mk nf_ ?_
  conv => whnf
  refine El.mk (rdm_en_str _ _ nf_ nf_) ?_
  conv => whnf
  refine cut_ 104 [(0, (sv_str l0)), (1, .str a1), (5, .int .i64 x8), (7, .int .i64 (l0.length : Int)), (8, .int .i64 x8), (16, .bool (decide (a1.toList = (rdOf ByteArray.empty l0 x8).toList)))] [] rfl ⟨.inl rfl, ⟨.inl rfl, ⟨.inl rfl, ⟨.inl rfl, ⟨.inl rfl, ⟨.inl rfl, trivial⟩⟩⟩⟩⟩⟩ trivial ?_
  conv => whnf
  refine br_d H (fun c H => ?_) (fun c H => ?_)
  conv => whnf
  injection H with H; subst H
  exact ret_fz [] (rtA_eq rfl)
  conv => whnf
  exact ⟨(k, wrap64 (x8 + 1)), [], ⟨H, lt_⟩, lt_, (fits_of ⟨.inl ⟨rfl, rfl⟩, trivial⟩ trivial fi_ trivial rfl)⟩
  conv => whnf
  injection H with H; subst H
  exact ret_fz [] (rtA_eq rfl)
theorem slices_Contains_string_string.ac {k : Nat} {l0 : List ByteArray} {a1 : ByteArray} {r : Bool} (H : slices_Contains_string_string.f k l0 a1 = some r) : ACalls Try.prog G 163 [] [(sv_str l0), .str a1] [] (.bool r) := by
  refine acalls_of tok hP Try.func163 rfl (by kernel_rfl) [.tmp 4] rfl (by kernel_rfl) (Nat.le_of_ble_eq_true rfl) .n rfl ?_
  unfold slices_Contains_string_string.f at H
  conv => whnf
  revert H; refine bind_elim (fun t865 A H => ?_)
  refine call_mk (slices_Index_string_string.ac A) (avAL_cons (avA_shut' rfl) (avAL_cons (avA_shut' rfl) (avAL_nil))) (Or.inl rfl) rfl rfl (Nat.le_of_ble_eq_true rfl) ?_
  conv => whnf
  injection H with H; subst H
  exact ret_fz [] (rtA_eq rfl)
theorem impl_has.ac {k : Nat} {l0 : List ByteArray} {a1 : ByteArray} {r : Bool} (H : impl_has.f k l0 a1 = some r) : ACalls Try.prog G 83 [] [(sv_str l0), .str a1] [] (.bool r) := by
  refine acalls_of tok hP Try.func83 rfl (by kernel_rfl) [.tmp 4] rfl (by kernel_rfl) (Nat.le_of_ble_eq_true rfl) .n rfl ?_
  unfold impl_has.f at H
  conv => whnf
  revert H; refine bind_elim (fun t867 A H => ?_)
  refine call_mk (slices_Contains_string_string.ac A) (avAL_cons (avA_shut' rfl) (avAL_cons (avA_shut' rfl) (avAL_nil))) (Or.inl rfl) rfl rfl (Nat.le_of_ble_eq_true rfl) ?_
  conv => whnf
  injection H with H; subst H
  exact ret_fz [] (rtA_eq rfl)
theorem impl_Plant_place.l0_lp {F : (Exit → St → Prop) → St → Prop} {hv : List Tmp} {Q : Exit → St → Prop} {σ : St} {r : ByteArray × Int × ByteArray × Bool} {k : Nat} {a0_2 : List S_impl_PlantPlace} {a1 : ByteArray} {x11 : Int} (H : impl_Plant_place.l0 k a0_2 a1 x11 = some r) (rn : List (Option Nat)) (h1 : Fits σ σ [0] [(11, .int .i64 x11)] [] [] rn)
    (h2 : ∀ (k0 : Nat) (x11 : Int), k0 < k + 1 → impl_Plant_place.l0 k0 a0_2 a1 x11 = some r → headN σ hv [0] [(11, .int .i64 x11)] [] [] (F (fun e σ' => match e with | .normal => ∃ (y : Nat × Int) (rn : List (Option Nat)), (impl_Plant_place.l0 y.1 a0_2 a1 y.2 = some r ∧ y.1 < k + 1) ∧ y.1 < k0 ∧ Fits σ σ' [0] [(11, .int .i64 y.2)] [] [] rn | e => Q e σ'))) : Lp F hv Q σ := by
  unfold Lp
  refine ⟨Nat × Int, fun x => impl_Plant_place.l0 x.1 a0_2 a1 x.2 = some r ∧ x.1 < k + 1, fun x => x.1, [0], fun x => [(11, .int .i64 x.2)], fun x => [], fun x => [], ⟨(k, x11), rn, ⟨H, Nat.lt_succ_self _⟩, h1⟩, ?_⟩
  rintro ⟨k, x11⟩ ⟨H, hk⟩
  exact h2 k x11 hk H
theorem impl_Plant_place.ac {k : Nat} {a0_0 : List ByteArray} {a0_1 : List S_impl_PlantFoe} {a0_2 : List S_impl_PlantPlace} {a0_3 : List S_impl_PlantValve} {a1 : ByteArray} {r : ByteArray × Int × ByteArray × Bool} (H : impl_Plant_place.f k a0_0 a0_1 a0_2 a0_3 a1 = some r) : ACalls Try.prog G 194 [] [.agg [(sv_str a0_0), (sv_S_impl_PlantFoe a0_1), (sv_S_impl_PlantPlace a0_2), (sv_S_impl_PlantValve a0_3)], .str a1] [] (.tup [.agg [.str r.1, .int .i64 r.2.1, .str r.2.2.1], .bool r.2.2.2]) := by
  refine acalls_of tok hP Try.func194 rfl (by kernel_rfl) [.cell 4 173, .tmp 5] rfl (by kernel_rfl) (Nat.le_of_ble_eq_true rfl) (.l .n (.l (.l .n (.l .n (.l .n (.l (.c .n .n) .n)))) (.c .n .n))) rfl ?_
  unfold impl_Plant_place.f at H
  conv => whnf
  refine impl_Plant_place.l0_lp (a0_2 := a0_2) (a1 := a1) (k := k) H [] (fits_of ⟨.inl ⟨rfl, rfl⟩, trivial⟩ trivial fi_ trivial rfl) ?_
  intro k x11 hk H; rcases k with _ | k; exact none_elim H; rw [impl_Plant_place.l0] at H; conv => whnf
  refine br_d H (fun c H => ?_) (fun c H => ?_)
  conv => whnf
  refine nd_ H (fun c H => ?_)
  conv => whnf
  refine Nd.mk nf_ ?_
  conv => whnf
  refine El.mk (rdm_en_S_impl_PlantPlace _ _ nf_ nf_) ?_
  conv => whnf
  refine cut_ 96 [(1, .str a1), (4, .bp 8 0), (7, .bp 80 0), (9, (sv_S_impl_PlantPlace a0_2)), (10, .int .i64 (a0_2.length : Int)), (11, .int .i64 x11)] [(8, .box [.str (⟨#[]⟩ : ByteArray), .int .i64 0, .str (⟨#[]⟩ : ByteArray)]), (80, .box [.str ((rd_impl_PlantPlace a0_2 x11).f0), .int .i64 ((rd_impl_PlantPlace a0_2 x11).f1), .str ((rd_impl_PlantPlace a0_2 x11).f2)])] rfl ⟨.inl rfl, ⟨.inl rfl, ⟨.inl rfl, ⟨.inl rfl, ⟨.inl rfl, ⟨.inl rfl, trivial⟩⟩⟩⟩⟩⟩ ⟨rfl, ⟨rfl, trivial⟩⟩ ?_
  conv => whnf
  refine br_d H (fun c H => ?_) (fun c H => ?_)
  conv => whnf
  injection H with H; subst H
  exact ret_tup [] (rtAL_cons (rtA_agg (rtL_cons (rt_eq rfl) (rtL_cons (rt_eq rfl) (rtL_cons (rt_eq rfl) (rtL_nil))))) (rtAL_cons (rtA_eq rfl) (rtAL_nil)))
  conv => whnf
  exact ⟨(k, wrap64 (x11 + 1)), [], ⟨H, lt_⟩, lt_, (fits_of ⟨.inl ⟨rfl, rfl⟩, trivial⟩ trivial fi_ trivial rfl)⟩
  conv => whnf
  refine cut_ 88 [(4, .bp 8 0), (5, .bool false)] [(8, .box [.str (⟨#[]⟩ : ByteArray), .int .i64 0, .str (⟨#[]⟩ : ByteArray)])] rfl ⟨.inl rfl, ⟨.inl rfl, trivial⟩⟩ ⟨rfl, trivial⟩ ?_
  conv => whnf
  injection H with H; subst H
  exact ret_tup [] (rtAL_cons (rtA_agg (rtL_cons (rt_eq rfl) (rtL_cons (rt_eq rfl) (rtL_cons (rt_eq rfl) (rtL_nil))))) (rtAL_cons (rtA_eq rfl) (rtAL_nil)))
theorem impl_PlantValid.j0_sq {F : (Exit → St → Prop) → St → Prop} {hv : List Tmp} {K : St → Prop} {Q : Exit → St → Prop} {σ : St} {r : Bool} {KK : Nat} {a0_0 : List ByteArray} {a0_1 : List S_impl_PlantFoe} {a0_2 : List S_impl_PlantPlace} {a0_3 : List S_impl_PlantValve} {x111 : Int}
    (h1 : F (fun e σ' => match e with | .normal => ∃ (y : Nat × Bool) (rn : List (Option Nat)), (impl_PlantValid.j0 y.1 a0_0 a0_1 a0_2 a0_3 x111 y.2 = some r ∧ y.1 < KK) ∧ Fits σ σ' [] [(170, .bool y.2)] [] [] rn | e => Q e σ') σ)
    (h2 : ∀ (k : Nat) (x170 : Bool), k < KK → impl_PlantValid.j0 k a0_0 a0_1 a0_2 a0_3 x111 x170 = some r → headN σ hv [] [(170, .bool x170)] [] [] K) : Sq F hv K Q σ := by
  unfold Sq
  refine ⟨Nat × Bool, fun x => impl_PlantValid.j0 x.1 a0_0 a0_1 a0_2 a0_3 x111 x.2 = some r ∧ x.1 < KK, [], fun x => [(170, .bool x.2)], fun x => [], fun x => [], h1, ?_⟩
  rintro ⟨k, x170⟩ ⟨H, hk⟩
  exact h2 k x170 hk H
theorem impl_PlantValid.l2_lp {F : (Exit → St → Prop) → St → Prop} {hv : List Tmp} {Q : Exit → St → Prop} {σ : St} {r : Bool} {k : Nat} {a0_0 : List ByteArray} {a0_1 : List S_impl_PlantFoe} {a0_2 : List S_impl_PlantPlace} {a0_3 : List S_impl_PlantValve} {x111 : Int} (H : impl_PlantValid.l2 k a0_0 a0_1 a0_2 a0_3 x111 = some r) (rn : List (Option Nat)) (h1 : Fits σ σ [] [(111, .int .i64 x111)] [] [] rn)
    (h2 : ∀ (k0 : Nat) (x111 : Int), k0 < k + 1 → impl_PlantValid.l2 k0 a0_0 a0_1 a0_2 a0_3 x111 = some r → headN σ hv [] [(111, .int .i64 x111)] [] [] (F (fun e σ' => match e with | .normal => ∃ (y : Nat × Int) (rn : List (Option Nat)), (impl_PlantValid.l2 y.1 a0_0 a0_1 a0_2 a0_3 y.2 = some r ∧ y.1 < k + 1) ∧ y.1 < k0 ∧ Fits σ σ' [] [(111, .int .i64 y.2)] [] [] rn | e => Q e σ'))) : Lp F hv Q σ := by
  unfold Lp
  refine ⟨Nat × Int, fun x => impl_PlantValid.l2 x.1 a0_0 a0_1 a0_2 a0_3 x.2 = some r ∧ x.1 < k + 1, fun x => x.1, [], fun x => [(111, .int .i64 x.2)], fun x => [], fun x => [], ⟨(k, x111), rn, ⟨H, Nat.lt_succ_self _⟩, h1⟩, ?_⟩
  rintro ⟨k, x111⟩ ⟨H, hk⟩
  exact h2 k x111 hk H
theorem impl_PlantValid.l1_lp {F : (Exit → St → Prop) → St → Prop} {hv : List Tmp} {Q : Exit → St → Prop} {σ : St} {r : Bool} {k : Nat} {a0_0 : List ByteArray} {a0_1 : List S_impl_PlantFoe} {a0_2 : List S_impl_PlantPlace} {a0_3 : List S_impl_PlantValve} {x66 : Int} (H : impl_PlantValid.l1 k a0_0 a0_1 a0_2 a0_3 x66 = some r) (rn : List (Option Nat)) (h1 : Fits σ σ [] [(66, .int .i64 x66)] [] [] rn)
    (h2 : ∀ (k0 : Nat) (x66 : Int), k0 < k + 1 → impl_PlantValid.l1 k0 a0_0 a0_1 a0_2 a0_3 x66 = some r → headN σ hv [] [(66, .int .i64 x66)] [] [] (F (fun e σ' => match e with | .normal => ∃ (y : Nat × Int) (rn : List (Option Nat)), (impl_PlantValid.l1 y.1 a0_0 a0_1 a0_2 a0_3 y.2 = some r ∧ y.1 < k + 1) ∧ y.1 < k0 ∧ Fits σ σ' [] [(66, .int .i64 y.2)] [] [] rn | e => Q e σ'))) : Lp F hv Q σ := by
  unfold Lp
  refine ⟨Nat × Int, fun x => impl_PlantValid.l1 x.1 a0_0 a0_1 a0_2 a0_3 x.2 = some r ∧ x.1 < k + 1, fun x => x.1, [], fun x => [(66, .int .i64 x.2)], fun x => [], fun x => [], ⟨(k, x66), rn, ⟨H, Nat.lt_succ_self _⟩, h1⟩, ?_⟩
  rintro ⟨k, x66⟩ ⟨H, hk⟩
  exact h2 k x66 hk H
theorem impl_PlantValid.l0_lp {F : (Exit → St → Prop) → St → Prop} {hv : List Tmp} {Q : Exit → St → Prop} {σ : St} {r : Bool} {k : Nat} {a0_0 : List ByteArray} {a0_1 : List S_impl_PlantFoe} {a0_2 : List S_impl_PlantPlace} {a0_3 : List S_impl_PlantValve} {x44 : Int} (H : impl_PlantValid.l0 k a0_0 a0_1 a0_2 a0_3 x44 = some r) (rn : List (Option Nat)) (h1 : Fits σ σ [] [(44, .int .i64 x44)] [] [] rn)
    (h2 : ∀ (k0 : Nat) (x44 : Int), k0 < k + 1 → impl_PlantValid.l0 k0 a0_0 a0_1 a0_2 a0_3 x44 = some r → headN σ hv [] [(44, .int .i64 x44)] [] [] (F (fun e σ' => match e with | .normal => ∃ (y : Nat × Int) (rn : List (Option Nat)), (impl_PlantValid.l0 y.1 a0_0 a0_1 a0_2 a0_3 y.2 = some r ∧ y.1 < k + 1) ∧ y.1 < k0 ∧ Fits σ σ' [] [(44, .int .i64 y.2)] [] [] rn | e => Q e σ'))) : Lp F hv Q σ := by
  unfold Lp
  refine ⟨Nat × Int, fun x => impl_PlantValid.l0 x.1 a0_0 a0_1 a0_2 a0_3 x.2 = some r ∧ x.1 < k + 1, fun x => x.1, [], fun x => [(44, .int .i64 x.2)], fun x => [], fun x => [], ⟨(k, x44), rn, ⟨H, Nat.lt_succ_self _⟩, h1⟩, ?_⟩
  rintro ⟨k, x44⟩ ⟨H, hk⟩
  exact h2 k x44 hk H

end Go.Proofs.Ytamkmmkchdnkmaa.CW

