import Derived.Test.YtodeegjblililaaZFnPlantTop1
import Derived.Shelf.Lay
import Derived.Shelf.Sort.AssemblyIn
import Derived.Ground.SoProg
import Derived.Test.YtodeegjblililaaProg
import Derived.KernelRfl
set_option linter.unusedVariables false
set_option linter.unusedSimpArgs false
namespace Go.Proofs.Ytodeegjblililaa.QU
open Go Go.Aw Go.RowKit Go.Proofs
set_option maxRecDepth 100000
set_option maxHeartbeats 40000000
variable {G : Nat → Option Obj}
def tab : List (TypeId × TI) := [(2, ⟨1, 8, false, 0, 0, [], [.int .i64 0], some .i64, false, false, false, [], [0], []⟩),
  (3, ⟨1, 8, false, 0, 0, [], [.int .i64 0], some .i64, false, false, false, [], [0], []⟩),
  (4, ⟨1, 1, false, 0, 0, [], [.bool false], none, false, false, true, [], [0], []⟩),
  (5, ⟨1, 1, false, 0, 0, [], [.int .u8 0], some .u8, false, false, false, [], [0], []⟩),
  (6, ⟨1, 1, false, 0, 0, [], [.int .u8 0], some .u8, false, false, false, [], [0], []⟩),
  (7, ⟨4, 24, true, 0, 0, [(0, 2), (1, 3), (2, 4), (3, 6)], [.int .i64 0, .int .i64 0, .bool false, .int .u8 0], none, false, false, false, [(0, 1), (1, 1), (2, 1), (3, 1)], [0, 0, 0, 0], []⟩),
  (8, ⟨4, 24, true, 0, 0, [(0, 2), (1, 3), (2, 4), (3, 6)], [.int .i64 0, .int .i64 0, .bool false, .int .u8 0], none, false, false, false, [(0, 1), (1, 1), (2, 1), (3, 1)], [0, 0, 0, 0], []⟩),
  (9, ⟨1, 16, false, 0, 0, [], [.str ⟨#[]⟩], none, true, false, false, [], [0], []⟩),
  (10, ⟨1, 16, false, 0, 0, [], [.str ⟨#[]⟩], none, true, false, false, [], [0], []⟩),
  (11, ⟨1, 16, false, 0, 0, [], [.str ⟨#[]⟩], none, true, false, false, [], [0], []⟩),
  (12, ⟨1, 8, false, 0, 0, [], [.int .u64 0], some .u64, false, false, false, [], [0], []⟩),
  (13, ⟨2, 24, true, 0, 0, [(0, 9), (1, 12)], [.str ⟨#[]⟩, .int .u64 0], none, false, false, false, [(0, 1), (1, 1)], [0, 0], []⟩),
  (14, ⟨2, 24, true, 0, 0, [(0, 9), (1, 12)], [.str ⟨#[]⟩, .int .u64 0], none, false, false, false, [(0, 1), (1, 1)], [0, 0], []⟩),
  (21, ⟨1, 4, false, 0, 0, [], [.int .i32 0], some .i32, false, false, false, [], [0], []⟩),
  (22, ⟨1, 24, false, 112, 0, [], [.nil], none, false, true, false, [], [8], []⟩),
  (24, ⟨1, 24, false, 9, 0, [], [.nil], none, false, true, false, [], [1], []⟩),
  (26, ⟨1, 24, false, 88, 0, [], [.nil], none, false, true, false, [], [8], []⟩),
  (33, ⟨1, 24, false, 176, 0, [], [.nil], none, false, true, false, [], [2], []⟩),
  (34, ⟨1, 24, false, 178, 0, [], [.nil], none, false, true, false, [], [3], []⟩),
  (35, ⟨1, 24, false, 180, 0, [], [.nil], none, false, true, false, [], [4], []⟩),
  (36, ⟨4, 96, true, 0, 0, [(0, 24), (1, 33), (2, 34), (3, 35)], [.nil, .nil, .nil, .nil], none, false, false, false, [(0, 1), (1, 1), (2, 1), (3, 1)], [1, 2, 3, 4], []⟩),
  (37, ⟨4, 96, true, 0, 0, [(0, 24), (1, 33), (2, 34), (3, 35)], [.nil, .nil, .nil, .nil], none, false, false, false, [(0, 1), (1, 1), (2, 1), (3, 1)], [1, 2, 3, 4], []⟩),
  (40, ⟨1, 24, false, 168, 0, [], [.nil], none, false, true, false, [], [2], []⟩),
  (41, ⟨1, 24, false, 109, 0, [], [.nil], none, false, true, false, [], [3], []⟩),
  (42, ⟨1, 24, false, 135, 0, [], [.nil], none, false, true, false, [], [4], []⟩),
  (43, ⟨4, 96, true, 0, 0, [(0, 24), (1, 40), (2, 41), (3, 42)], [.nil, .nil, .nil, .nil], none, false, false, false, [(0, 1), (1, 1), (2, 1), (3, 1)], [1, 2, 3, 4], []⟩),
  (44, ⟨4, 96, true, 0, 0, [(0, 24), (1, 40), (2, 41), (3, 42)], [.nil, .nil, .nil, .nil], none, false, false, false, [(0, 1), (1, 1), (2, 1), (3, 1)], [1, 2, 3, 4], []⟩),
  (50, ⟨1, 24, false, 107, 0, [], [.nil], none, false, true, false, [], [1], []⟩),
  (55, ⟨2, 48, true, 0, 0, [(0, 24), (1, 24)], [.nil, .nil], none, false, false, false, [(0, 1), (1, 1)], [1, 1], []⟩),
  (56, ⟨2, 48, true, 0, 0, [(0, 24), (1, 24)], [.nil, .nil], none, false, false, false, [(0, 1), (1, 1)], [1, 1], []⟩),
  (59, ⟨2, 48, true, 0, 0, [(0, 24), (1, 24)], [.nil, .nil], none, false, false, false, [(0, 1), (1, 1)], [1, 1], []⟩),
  (63, ⟨1, 24, false, 133, 0, [], [.nil], none, false, true, false, [], [2], []⟩),
  (64, ⟨2, 48, true, 0, 0, [(0, 24), (1, 63)], [.nil, .nil], none, false, false, false, [(0, 1), (1, 1)], [1, 2], []⟩),
  (65, ⟨2, 48, true, 0, 0, [(0, 24), (1, 63)], [.nil, .nil], none, false, false, false, [(0, 1), (1, 1)], [1, 2], []⟩),
  (69, ⟨1, 24, false, 193, 0, [], [.nil], none, false, true, false, [], [2], []⟩),
  (70, ⟨2, 48, true, 0, 0, [(0, 24), (1, 69)], [.nil, .nil], none, false, false, false, [(0, 1), (1, 1)], [1, 2], []⟩),
  (71, ⟨2, 48, true, 0, 0, [(0, 24), (1, 69)], [.nil, .nil], none, false, false, false, [(0, 1), (1, 1)], [1, 2], []⟩),
  (78, ⟨1, 24, false, 5, 0, [], [.nil], none, false, true, false, [], [1], []⟩),
  (79, ⟨3, 32, true, 0, 0, [(0, 9), (1, 3), (2, 3)], [.str ⟨#[]⟩, .int .i64 0, .int .i64 0], none, false, false, false, [(0, 1), (1, 1), (2, 1)], [0, 0, 0], []⟩),
  (80, ⟨3, 32, true, 0, 0, [(0, 9), (1, 3), (2, 3)], [.str ⟨#[]⟩, .int .i64 0, .int .i64 0], none, false, false, false, [(0, 1), (1, 1), (2, 1)], [0, 0, 0], [2, 1, 1]⟩),
  (81, ⟨2, 16, true, 0, 0, [(0, 3), (1, 4)], [.int .i64 0, .bool false], none, false, false, false, [(0, 1), (1, 1)], [0, 0], []⟩),
  (82, ⟨2, 16, true, 0, 0, [(0, 3), (1, 4)], [.int .i64 0, .bool false], none, false, false, false, [(0, 1), (1, 1)], [0, 0], [1, 3]⟩),
  (87, ⟨8, 104, true, 0, 0, [(0, 9), (1, 3), (2, 9), (3, 9), (4, 3), (5, 3), (6, 9), (7, 9)], [.str ⟨#[]⟩, .int .i64 0, .str ⟨#[]⟩, .str ⟨#[]⟩, .int .i64 0, .int .i64 0, .str ⟨#[]⟩, .str ⟨#[]⟩], none, false, false, false, [(0, 1), (1, 1), (2, 1), (3, 1), (4, 1), (5, 1), (6, 1), (7, 1)], [0, 0, 0, 0, 0, 0, 0, 0], []⟩),
  (88, ⟨8, 104, true, 0, 0, [(0, 9), (1, 3), (2, 9), (3, 9), (4, 3), (5, 3), (6, 9), (7, 9)], [.str ⟨#[]⟩, .int .i64 0, .str ⟨#[]⟩, .str ⟨#[]⟩, .int .i64 0, .int .i64 0, .str ⟨#[]⟩, .str ⟨#[]⟩], none, false, false, false, [(0, 1), (1, 1), (2, 1), (3, 1), (4, 1), (5, 1), (6, 1), (7, 1)], [0, 0, 0, 0, 0, 0, 0, 0], [2, 1, 2, 2, 1, 1, 2, 2]⟩),
  (101, ⟨1, 24, false, 4, 0, [], [.nil], none, false, true, false, [], [1], []⟩),
  (106, ⟨1, 24, true, 0, 0, [(0, 24)], [.nil], none, false, false, false, [(0, 1)], [1], []⟩),
  (107, ⟨1, 24, true, 0, 0, [(0, 24)], [.nil], none, false, false, false, [(0, 1)], [1], []⟩),
  (108, ⟨3, 40, true, 0, 0, [(0, 9), (1, 3), (2, 9)], [.str ⟨#[]⟩, .int .i64 0, .str ⟨#[]⟩], none, false, false, false, [(0, 1), (1, 1), (2, 1)], [0, 0, 0], []⟩),
  (109, ⟨3, 40, true, 0, 0, [(0, 9), (1, 3), (2, 9)], [.str ⟨#[]⟩, .int .i64 0, .str ⟨#[]⟩], none, false, false, false, [(0, 1), (1, 1), (2, 1)], [0, 0, 0], [2, 1, 2]⟩),
  (112, ⟨8, 104, true, 0, 0, [(0, 9), (1, 3), (2, 9), (3, 9), (4, 3), (5, 3), (6, 9), (7, 9)], [.str ⟨#[]⟩, .int .i64 0, .str ⟨#[]⟩, .str ⟨#[]⟩, .int .i64 0, .int .i64 0, .str ⟨#[]⟩, .str ⟨#[]⟩], none, false, false, false, [(0, 1), (1, 1), (2, 1), (3, 1), (4, 1), (5, 1), (6, 1), (7, 1)], [0, 0, 0, 0, 0, 0, 0, 0], [2, 1, 2, 2, 1, 1, 2, 2]⟩),
  (132, ⟨2, 32, true, 0, 0, [(0, 9), (1, 9)], [.str ⟨#[]⟩, .str ⟨#[]⟩], none, false, false, false, [(0, 1), (1, 1)], [0, 0], []⟩),
  (133, ⟨2, 32, true, 0, 0, [(0, 9), (1, 9)], [.str ⟨#[]⟩, .str ⟨#[]⟩], none, false, false, false, [(0, 1), (1, 1)], [0, 0], [2, 2]⟩),
  (134, ⟨4, 64, true, 0, 0, [(0, 9), (1, 9), (2, 9), (3, 9)], [.str ⟨#[]⟩, .str ⟨#[]⟩, .str ⟨#[]⟩, .str ⟨#[]⟩], none, false, false, false, [(0, 1), (1, 1), (2, 1), (3, 1)], [0, 0, 0, 0], []⟩),
  (135, ⟨4, 64, true, 0, 0, [(0, 9), (1, 9), (2, 9), (3, 9)], [.str ⟨#[]⟩, .str ⟨#[]⟩, .str ⟨#[]⟩, .str ⟨#[]⟩], none, false, false, false, [(0, 1), (1, 1), (2, 1), (3, 1)], [0, 0, 0, 0], [2, 2, 2, 2]⟩),
  (151, ⟨1, 24, false, 3, 0, [], [.nil], none, false, true, false, [], [1], []⟩),
  (165, ⟨1, 24, false, 204, 0, [], [.nil], none, false, true, false, [], [2], []⟩),
  (167, ⟨2, 32, true, 0, 0, [(0, 9), (1, 9)], [.str ⟨#[]⟩, .str ⟨#[]⟩], none, false, false, false, [(0, 1), (1, 1)], [0, 0], []⟩),
  (168, ⟨2, 32, true, 0, 0, [(0, 9), (1, 9)], [.str ⟨#[]⟩, .str ⟨#[]⟩], none, false, false, false, [(0, 1), (1, 1)], [0, 0], [2, 2]⟩),
  (176, ⟨2, 32, true, 0, 0, [(0, 9), (1, 9)], [.str ⟨#[]⟩, .str ⟨#[]⟩], none, false, false, false, [(0, 1), (1, 1)], [0, 0], [2, 2]⟩),
  (178, ⟨3, 40, true, 0, 0, [(0, 9), (1, 3), (2, 9)], [.str ⟨#[]⟩, .int .i64 0, .str ⟨#[]⟩], none, false, false, false, [(0, 1), (1, 1), (2, 1)], [0, 0, 0], [2, 1, 2]⟩),
  (180, ⟨4, 64, true, 0, 0, [(0, 9), (1, 9), (2, 9), (3, 9)], [.str ⟨#[]⟩, .str ⟨#[]⟩, .str ⟨#[]⟩, .str ⟨#[]⟩], none, false, false, false, [(0, 1), (1, 1), (2, 1), (3, 1)], [0, 0, 0, 0], [2, 2, 2, 2]⟩),
  (193, ⟨2, 32, true, 0, 0, [(0, 9), (1, 9)], [.str ⟨#[]⟩, .str ⟨#[]⟩], none, false, false, false, [(0, 1), (1, 1)], [0, 0], [2, 2]⟩),
  (195, ⟨2, 32, true, 0, 0, [(0, 78), (1, 3)], [.nil, .int .i64 0], none, false, false, false, [(0, 1), (1, 1)], [1, 0], []⟩),
  (196, ⟨2, 32, true, 0, 0, [(0, 78), (1, 3)], [.nil, .int .i64 0], none, false, false, false, [(0, 1), (1, 1)], [1, 0], []⟩),
  (200, ⟨2, 32, true, 0, 0, [(0, 78), (1, 3)], [.nil, .int .i64 0], none, false, false, false, [(0, 1), (1, 1)], [1, 0], []⟩),
  (202, ⟨1, 24, false, 59, 0, [], [.nil], none, false, true, false, [], [2], []⟩),
  (204, ⟨2, 32, true, 9, 2, [], [.str ⟨#[]⟩, .str ⟨#[]⟩], none, false, false, false, [(0, 1), (1, 1)], [0, 0], [2, 2]⟩),
  (214, ⟨1, 8, false, 0, 0, [], [.int .u64 0], some .u64, false, false, false, [], [0], []⟩),
  (219, ⟨1, 8, false, 0, 0, [], [.int .i64 0], some .i64, false, false, false, [], [0], []⟩),
  (228, ⟨1, 4, false, 0, 0, [], [.int .u32 0], some .u32, false, false, false, [], [0], []⟩),
  (230, ⟨1, 8, false, 0, 0, [], [.int .u64 0], some .u64, false, false, false, [], [0], []⟩),
  (231, ⟨1, 8, false, 0, 0, [], [.int .u64 0], some .u64, false, false, false, [], [0], []⟩),
  (249, ⟨1, 1, false, 0, 0, [], [.int .u8 0], some .u8, false, false, false, [], [0], []⟩),
  (250, ⟨1, 1, false, 0, 0, [], [.int .u8 0], some .u8, false, false, false, [], [0], []⟩),
  (253, ⟨1, 4, false, 0, 0, [], [.int .i32 0], some .i32, false, false, false, [], [0], []⟩),
  (254, ⟨1, 4, false, 0, 0, [], [.int .i32 0], some .i32, false, false, false, [], [0], []⟩)]
theorem tok : TOk Try.prog (lk tab) := tok_of tab (by kernel_rfl)
theorem hP : Try.prog.follows .mixedOrders = true := by kernel_rfl
def en_str (x : ByteArray) : List V := [.str x]
def sv_str (l : List ByteArray) : V := .sl 1 l.length (l.map en_str)
def ob_str (l : List ByteArray) : Ob := .arr 9 1 (l.map en_str)
theorem bare_en_str (x : ByteArray) : (en_str x).all V.bare = true := rfl
theorem rdm_en_str (l : List ByteArray) (i : Int) (h0 : 0 ≤ i) (h1 : i < (l.length : Int)) : (l.map en_str)[i.toNat]? = some (en_str (rdOf ByteArray.empty l i)) := by
  have : i.toNat < l.length := by omega
  simp [rdOf, this]
def en_u8 (x : Int) : List V := [.int .u8 x]
def sv_u8 (l : List Int) : V := .sl 1 l.length (l.map en_u8)
def ob_u8 (l : List Int) : Ob := .arr 5 1 (l.map en_u8)
theorem bare_en_u8 (x : Int) : (en_u8 x).all V.bare = true := rfl
theorem rdm_en_u8 (l : List Int) (i : Int) (h0 : 0 ≤ i) (h1 : i < (l.length : Int)) : (l.map en_u8)[i.toNat]? = some (en_u8 (rd l i)) := by
  have : i.toNat < l.length := by omega
  simp [rd, this]
def en_S_impl_PlantFoe (x : S_impl_PlantFoe) : List V := [.str x.f0, .str x.f1]
def sv_S_impl_PlantFoe (l : List S_impl_PlantFoe) : V := .sl 2 l.length (l.map en_S_impl_PlantFoe)
def ob_S_impl_PlantFoe (l : List S_impl_PlantFoe) : Ob := .arr 168 2 (l.map en_S_impl_PlantFoe)
theorem bare_en_S_impl_PlantFoe (x : S_impl_PlantFoe) : (en_S_impl_PlantFoe x).all V.bare = true := rfl
theorem rdm_en_S_impl_PlantFoe (l : List S_impl_PlantFoe) (i : Int) (h0 : 0 ≤ i) (h1 : i < (l.length : Int)) : (l.map en_S_impl_PlantFoe)[i.toNat]? = some (en_S_impl_PlantFoe (rd_impl_PlantFoe l i)) := by
  have : i.toNat < l.length := by omega
  simp [rd_impl_PlantFoe, this]
def en_S_impl_PlantPlace (x : S_impl_PlantPlace) : List V := [.str x.f0, .int .i64 x.f1, .str x.f2]
def sv_S_impl_PlantPlace (l : List S_impl_PlantPlace) : V := .sl 3 l.length (l.map en_S_impl_PlantPlace)
def ob_S_impl_PlantPlace (l : List S_impl_PlantPlace) : Ob := .arr 109 3 (l.map en_S_impl_PlantPlace)
theorem bare_en_S_impl_PlantPlace (x : S_impl_PlantPlace) : (en_S_impl_PlantPlace x).all V.bare = true := rfl
theorem rdm_en_S_impl_PlantPlace (l : List S_impl_PlantPlace) (i : Int) (h0 : 0 ≤ i) (h1 : i < (l.length : Int)) : (l.map en_S_impl_PlantPlace)[i.toNat]? = some (en_S_impl_PlantPlace (rd_impl_PlantPlace l i)) := by
  have : i.toNat < l.length := by omega
  simp [rd_impl_PlantPlace, this]
def en_S_impl_PlantValve (x : S_impl_PlantValve) : List V := [.str x.f0, .str x.f1, .str x.f2, .str x.f3]
def sv_S_impl_PlantValve (l : List S_impl_PlantValve) : V := .sl 4 l.length (l.map en_S_impl_PlantValve)
def ob_S_impl_PlantValve (l : List S_impl_PlantValve) : Ob := .arr 135 4 (l.map en_S_impl_PlantValve)
theorem bare_en_S_impl_PlantValve (x : S_impl_PlantValve) : (en_S_impl_PlantValve x).all V.bare = true := rfl
theorem rdm_en_S_impl_PlantValve (l : List S_impl_PlantValve) (i : Int) (h0 : 0 ≤ i) (h1 : i < (l.length : Int)) : (l.map en_S_impl_PlantValve)[i.toNat]? = some (en_S_impl_PlantValve (rd_impl_PlantValve l i)) := by
  have : i.toNat < l.length := by omega
  simp [rd_impl_PlantValve, this]
def en_i64 (x : Int) : List V := [.int .i64 x]
def sv_i64 (l : List Int) : V := .sl 1 l.length (l.map en_i64)
def ob_i64 (l : List Int) : Ob := .arr 3 1 (l.map en_i64)
theorem bare_en_i64 (x : Int) : (en_i64 x).all V.bare = true := rfl
theorem rdm_en_i64 (l : List Int) (i : Int) (h0 : 0 ≤ i) (h1 : i < (l.length : Int)) : (l.map en_i64)[i.toNat]? = some (en_i64 (rd l i)) := by
  have : i.toNat < l.length := by omega
  simp [rd, this]
def en_bool (x : Bool) : List V := [.bool x]
def sv_bool (l : List Bool) : V := .sl 1 l.length (l.map en_bool)
def ob_bool (l : List Bool) : Ob := .arr 4 1 (l.map en_bool)
theorem bare_en_bool (x : Bool) : (en_bool x).all V.bare = true := rfl
theorem rdm_en_bool (l : List Bool) (i : Int) (h0 : 0 ≤ i) (h1 : i < (l.length : Int)) : (l.map en_bool)[i.toNat]? = some (en_bool (rdOf false l i)) := by
  have : i.toNat < l.length := by omega
  simp [rdOf, this]
def en_S_A2_string (x : S_A2_string) : List V := [.str x.f0, .str x.f1]
def sv_S_A2_string (l : List S_A2_string) : V := .sl 2 l.length (l.map en_S_A2_string)
def ob_S_A2_string (l : List S_A2_string) : Ob := .arr 204 2 (l.map en_S_A2_string)
theorem bare_en_S_A2_string (x : S_A2_string) : (en_S_A2_string x).all V.bare = true := rfl
theorem rdm_en_S_A2_string (l : List S_A2_string) (i : Int) (h0 : 0 ≤ i) (h1 : i < (l.length : Int)) : (l.map en_S_A2_string)[i.toNat]? = some (en_S_A2_string (rd_A2_string l i)) := by
  have : i.toNat < l.length := by omega
  simp [rd_A2_string, this]
def en_S_impl_PlantMark (x : S_impl_PlantMark) : List V := [.str x.f0, .str x.f1]
def sv_S_impl_PlantMark (l : List S_impl_PlantMark) : V := .sl 2 l.length (l.map en_S_impl_PlantMark)
def ob_S_impl_PlantMark (l : List S_impl_PlantMark) : Ob := .arr 133 2 (l.map en_S_impl_PlantMark)
theorem bare_en_S_impl_PlantMark (x : S_impl_PlantMark) : (en_S_impl_PlantMark x).all V.bare = true := rfl
theorem rdm_en_S_impl_PlantMark (l : List S_impl_PlantMark) (i : Int) (h0 : 0 ≤ i) (h1 : i < (l.length : Int)) : (l.map en_S_impl_PlantMark)[i.toNat]? = some (en_S_impl_PlantMark (rd_impl_PlantMark l i)) := by
  have : i.toNat < l.length := by omega
  simp [rd_impl_PlantMark, this]
def en_S_impl_PlantSet (x : S_impl_PlantSet) : List V := [(sv_str x.f0)]
def sv_S_impl_PlantSet (l : List S_impl_PlantSet) : V := .sl 1 l.length (l.map en_S_impl_PlantSet)
def ob_S_impl_PlantSet (l : List S_impl_PlantSet) : Ob := .arr 107 1 (l.map en_S_impl_PlantSet)
theorem bareE_en_S_impl_PlantSet (x : S_impl_PlantSet) (h : (x.f0.isEmpty) = true) : (en_S_impl_PlantSet x).all V.bareE = true := by
  simp only [Bool.and_eq_true, List.isEmpty_iff] at h
  have h0 := h
  unfold en_S_impl_PlantSet
  rw [h0]
  rfl
theorem rdm_en_S_impl_PlantSet (l : List S_impl_PlantSet) (i : Int) (h0 : 0 ≤ i) (h1 : i < (l.length : Int)) : (l.map en_S_impl_PlantSet)[i.toNat]? = some (en_S_impl_PlantSet (rd_impl_PlantSet l i)) := by
  have : i.toNat < l.length := by omega
  simp [rd_impl_PlantSet, this]
def en_L_u8 (x : List Int) : List V := [(sv_u8 x)]
def sv_L_u8 (l : List (List Int)) : V := .sl 1 l.length (l.map en_L_u8)
def ob_L_u8 (l : List (List Int)) : Ob := .arr 78 1 (l.map en_L_u8)
theorem rdm_en_L_u8 (l : List (List Int)) (i : Int) (h0 : 0 ≤ i) (h1 : i < (l.length : Int)) : (l.map en_L_u8)[i.toNat]? = some (en_L_u8 (rdOf ([] : List Int) l i)) := by
  have : i.toNat < l.length := by omega
  simp [rdOf, this]
attribute [local irreducible] callE Lp Sq Cut RetOk Fits

theorem spec_l1Open.ac {l0 : List Int} {r : (List Int) × Int} (H : spec_l1Open.f l0 = some r) : ACalls Try.prog G 130 [] [(sv_u8 l0)] [.box [(sv_u8 r.1), .int .i64 r.2]] (.bp 0 0) := by
  refine acalls_of tok hP Try.func130 rfl (by kernel_rfl) [.tmp 2] rfl (by kernel_rfl) (Nat.le_of_ble_eq_true rfl) (.l .n (.l .n (.c .n .n))) rfl ?_
  unfold spec_l1Open.f at H
  conv => whnf
  refine br_d H (fun c H => ?_) (fun c H => ?_)
  conv => whnf
  refine Nd.mk (by decide) ?_
  conv => whnf
  refine nd_ H (fun c H => ?_)
  conv => whnf
  refine cut_ 88 [(2, .bp 72 0)] [(72, .box [.sl 1 ((2000 : Int).toNat) ((l0.take (2000 : Int).toNat).map en_u8), .int .i64 0])] rfl ⟨.inl rfl, trivial⟩ ⟨bx_eq rfl ⟨sl_e rfl lm_ lm_, ⟨rfl, trivial⟩⟩, trivial⟩ ?_
  conv => whnf
  injection H with H; subst H
  exact ret_gen [some 72] [] ((rfl)) ⟨bx_eq rfl ⟨sl_e rfl lm_ lm_, ⟨rfl, trivial⟩⟩, trivial⟩ rfl
  conv => whnf
  refine cut_ 64 [(2, .bp 48 0)] [(48, .box [(sv_u8 l0), .int .i64 0])] rfl ⟨.inl rfl, trivial⟩ ⟨rfl, trivial⟩ ?_
  conv => whnf
  injection H with H; subst H
  exact ret_gen [some 48] [] ((rfl)) ⟨rfl, trivial⟩ rfl
theorem spec_l1Rd_pick.ac {a0_0 : List Int} {a0_1 : Int} {a1 : Int} {r : Int × (List Int) × Int} (H : spec_l1Rd_pick.f a0_0 a0_1 a1 = some r) : ACalls Try.prog G 134 [.box [(sv_u8 a0_0), .int .i64 a0_1]] [.bp 0 0, .int .i64 a1] [.box [(sv_u8 r.2.1), .int .i64 r.2.2]] (.int .i64 r.1) := by
  refine acalls_of tok hP Try.func134 rfl (by kernel_rfl) [.tmp 4] rfl (by kernel_rfl) (Nat.le_of_ble_eq_true rfl) (.l .n (.l .n (.l (.c .n (.l (.c .n .n) .n)) (.l .n (.l (.c .n (.l (.c .n .n) .n)) (.c .n .n)))))) rfl ?_
  unfold spec_l1Rd_pick.f at H
  conv => whnf
  refine br_d H (fun c H => ?_) (fun c H => ?_)
  conv => whnf
  refine Br.t ft_ ?_
  conv => whnf
  refine Br.t ft_ ?_
  conv => whnf
  refine Br.t ft_ ?_
  conv => whnf
  refine Br.t ft_ ?_
  conv => whnf
  refine Br.t ft_ ?_
  conv => whnf
  refine Br.t ft_ ?_
  conv => whnf
  refine cut_ 161 [(0, .bp 0 0), (1, .int .i64 a1), (24, .bool true)] [(0, .box [(sv_u8 a0_0), .int .i64 (wrap64 (a0_1 + 1))])] rfl ⟨.inl rfl, ⟨.inl rfl, ⟨.inl rfl, trivial⟩⟩⟩ ⟨rfl, trivial⟩ ?_
  conv => whnf
  refine Br.t rfl ?_
  conv => whnf
  refine cut_ 169 [(4, .int .i64 0)] [(0, .box [(sv_u8 a0_0), .int .i64 (wrap64 (a0_1 + 1))])] rfl ⟨.inl rfl, trivial⟩ ⟨rfl, trivial⟩ ?_
  conv => whnf
  injection H with H; subst H
  exact ret_gen [some 0] [] ((rtA_eq rfl)) ⟨rfl, trivial⟩ rfl
  conv => whnf
  refine Br.f ff_ ?_
  conv => whnf
  refine Br.f ff_ ?_
  conv => whnf
  refine Br.f ff_ ?_
  conv => whnf
  refine Br.f ff_ ?_
  conv => whnf
  refine Br.f ff_ ?_
  conv => whnf
  refine Br.f ff_ ?_
  conv => whnf
  refine cut_ 161 [(0, .bp 0 0), (1, .int .i64 a1), (24, .bool (decide ((a0_0.length : Int) = 0)))] [(0, .box [(sv_u8 a0_0), .int .i64 (wrap64 (a0_1 + 1))])] rfl ⟨.inl rfl, ⟨.inl rfl, ⟨.inl rfl, trivial⟩⟩⟩ ⟨rfl, trivial⟩ ?_
  conv => whnf
  refine br_d H (fun c H => ?_) (fun c H => ?_)
  conv => whnf
  refine cut_ 169 [(4, .int .i64 0)] [(0, .box [(sv_u8 a0_0), .int .i64 (wrap64 (a0_1 + 1))])] rfl ⟨.inl rfl, trivial⟩ ⟨rfl, trivial⟩ ?_
  conv => whnf
  injection H with H; subst H
  exact ret_gen [some 0] [] ((rtA_eq rfl)) ⟨rfl, trivial⟩ rfl
  conv => whnf
  refine cut_ 265 [(0, .bp 0 0), (1, .int .i64 a1), (5, .int .i64 (wrap64 ((wrap64 (a0_1 + 1)) - 1))), (36, .bool (decide ((wrap64 ((wrap64 (a0_1 + 1)) - 1)) < (a0_0.length : Int))))] [(0, .box [(sv_u8 a0_0), .int .i64 (wrap64 (a0_1 + 1))])] rfl ⟨.inl rfl, ⟨.inl rfl, ⟨.inl rfl, ⟨.inl rfl, trivial⟩⟩⟩⟩ ⟨rfl, trivial⟩ ?_
  conv => whnf
  refine br_d H (fun c H => ?_) (fun c H => ?_)
  conv => whnf
  refine nd_ H (fun c H => ?_)
  conv => whnf
  refine Nd.mk nf_ ?_
  conv => whnf
  refine El.mk (rdm_en_u8 _ _ nf_ nf_) ?_
  conv => whnf
  refine nd_ H (fun c H => ?_)
  conv => whnf
  refine cut_ 353 [(4, .int .i64 (Int.tmod (wrap64 (rd a0_0 (wrap64 ((wrap64 (a0_1 + 1)) - 1)))) a1))] [(0, .box [(sv_u8 a0_0), .int .i64 (wrap64 (a0_1 + 1))])] rfl ⟨.inl rfl, trivial⟩ ⟨rfl, trivial⟩ ?_
  conv => whnf
  injection H with H; subst H
  exact ret_gen [some 0] [] ((rtA_eq rfl)) ⟨rfl, trivial⟩ rfl
  conv => whnf
  refine nd_ H (fun c H => ?_)
  conv => whnf
  refine nd_ H (fun c H => ?_)
  conv => whnf
  refine nd_ H (fun c H => ?_)
  conv => whnf
  refine El.mk (rdm_en_u8 _ _ nf_ nf_) ?_
  conv => whnf
  refine Nd.mk nf_ ?_
  conv => whnf
  refine nd_ H (fun c H => ?_)
  conv => whnf
  refine nd_ H (fun c H => ?_)
  conv => whnf
  refine El.mk (rdm_en_u8 _ _ nf_ nf_) ?_
  conv => whnf
  refine Nd.mk nf_ ?_
  conv => whnf
  refine cut_ 633 [(1, .int .i64 a1), (6, .int .i64 (wrap64 ((wrap64 ((wrap64 ((wrap64 ((wrap64 (rd a0_0 (Int.tmod (wrap64 ((wrap64 (a0_1 + 1)) - 1)) (a0_0.length : Int)))) * 131)) + (wrap64 ((wrap64 (rd a0_0 (Int.tmod (wrap64 ((wrap64 ((wrap64 ((wrap64 (a0_1 + 1)) - 1)) * 7)) + 3)) (a0_0.length : Int)))) * 1117)))) + (wrap64 ((wrap64 ((wrap64 (a0_1 + 1)) - 1)) * 29)))) + (wrap64 ((wrap64 (Int.tdiv (wrap64 ((wrap64 (a0_1 + 1)) - 1)) (a0_0.length : Int))) * 53)))))] [(0, .box [(sv_u8 a0_0), .int .i64 (wrap64 (a0_1 + 1))])] rfl ⟨.inl rfl, ⟨.inl rfl, trivial⟩⟩ ⟨rfl, trivial⟩ ?_
  conv => whnf
  refine Nd.mk (by decide) ?_
  conv => whnf
  refine nd_ H (fun c H => ?_)
  conv => whnf
  injection H with H; subst H
  exact ret_gen [some 0] [] ((rtA_eq rfl)) ⟨rfl, trivial⟩ rfl
theorem spec_l1Rd_of.ac {a0_0 : List Int} {a0_1 : Int} {l1 : List ByteArray} {r : ByteArray × (List Int) × Int} (H : spec_l1Rd_of.f a0_0 a0_1 l1 = some r) : ACalls Try.prog G 182 [.box [(sv_u8 a0_0), .int .i64 a0_1]] [.bp 0 0, (sv_str l1)] [.box [(sv_u8 r.2.1), .int .i64 r.2.2]] (.str r.1) := by
  refine acalls_of tok hP Try.func182 rfl (by kernel_rfl) [.tmp 4] rfl (by kernel_rfl) (Nat.le_of_ble_eq_true rfl) .n rfl ?_
  unfold spec_l1Rd_of.f at H
  conv => whnf
  revert H; refine bind_elim (fun t22 A H => ?_)
  refine call_mk2 [0] (spec_l1Rd_pick.ac A) ⟨rfl, trivial⟩ rfl rfl rfl rfl rfl rfl rfl rfl ?_
  conv => whnf
  refine nd_ H (fun c H => ?_)
  conv => whnf
  refine nd_ H (fun c H => ?_)
  conv => whnf
  refine El.mk (rdm_en_str _ _ nf_ nf_) ?_
  conv => whnf
  injection H with H; subst H
  exact ret_gen [some 0] [] ((rtA_eq rfl)) ⟨rfl, trivial⟩ rfl
theorem spec_l1In.ac {a0 : Int} {a1 : Int} {a2 : Int} {r : Bool} (H : spec_l1In.f a0 a1 a2 = some r) : ACalls Try.prog G 186 [] [.int .i64 a0, .int .i64 a1, .int .i64 a2] [] (.bool r) := by
  refine acalls_of tok hP Try.func186 rfl (by kernel_rfl) [.tmp 6] rfl (by kernel_rfl) (Nat.le_of_ble_eq_true rfl) (.l .n (.c .n .n)) rfl ?_
  unfold spec_l1In.f at H
  conv => whnf
  refine br_d H (fun c H => ?_) (fun c H => ?_)
  conv => whnf
  refine Br.t ft_ ?_
  conv => whnf
  refine Br.t ft_ ?_
  conv => whnf
  refine Br.t ft_ ?_
  conv => whnf
  refine cut_ 80 [(6, .bool (decide (a0 ≤ a2)))] [] rfl ⟨.inl rfl, trivial⟩ trivial ?_
  conv => whnf
  injection H with H; subst H
  exact ret_fz [] (rtA_eq rfl)
  conv => whnf
  refine Br.f ff_ ?_
  conv => whnf
  refine Br.f ff_ ?_
  conv => whnf
  refine Br.f ff_ ?_
  conv => whnf
  refine cut_ 80 [(6, .bool false)] [] rfl ⟨.inl rfl, trivial⟩ trivial ?_
  conv => whnf
  injection H with H; subst H
  exact ret_fz [] (rtA_eq rfl)
theorem spec_l2NameOk.l0_lp {F : (Exit → St → Prop) → St → Prop} {hv : List Tmp} {Q : Exit → St → Prop} {σ : St} {r : Bool} {k : Nat} {a0 : ByteArray} {x3 : Int} (H : spec_l2NameOk.l0 k a0 x3 = some r) (rn : List (Option Nat)) (h1 : Fits σ σ [] [(3, .int .i64 x3)] [] [] rn)
    (h2 : ∀ (k0 : Nat) (x3 : Int), k0 < k + 1 → spec_l2NameOk.l0 k0 a0 x3 = some r → headN σ hv [] [(3, .int .i64 x3)] [] [] (F (fun e σ' => match e with | .normal => ∃ (y : Nat × Int) (rn : List (Option Nat)), (spec_l2NameOk.l0 y.1 a0 y.2 = some r ∧ y.1 < k + 1) ∧ y.1 < k0 ∧ Fits σ σ' [] [(3, .int .i64 y.2)] [] [] rn | e => Q e σ'))) : Lp F hv Q σ := by
  unfold Lp
  refine ⟨Nat × Int, fun x => spec_l2NameOk.l0 x.1 a0 x.2 = some r ∧ x.1 < k + 1, fun x => x.1, [], fun x => [(3, .int .i64 x.2)], fun x => [], fun x => [], ⟨(k, x3), rn, ⟨H, Nat.lt_succ_self _⟩, h1⟩, ?_⟩
  rintro ⟨k, x3⟩ ⟨H, hk⟩
  exact h2 k x3 hk H
theorem spec_l2NameOk.ac {k : Nat} {a0 : ByteArray} {r : Bool} (H : spec_l2NameOk.f k a0 = some r) : ACalls Try.prog G 184 [] [.str a0] [] (.bool r) := by
  refine acalls_of tok hP Try.func184 rfl (by kernel_rfl) [.tmp 2] rfl (by kernel_rfl) (Nat.le_of_ble_eq_true rfl) (.l .n (.l .n (.l (.l .n (.l (.c .n .n) (.l (.l .n (.c .n .n)) .n))) .n))) rfl ?_
  unfold spec_l2NameOk.f at H
  conv => whnf
  revert H; refine bind_elim (fun t165 A H => ?_)
  refine call_mk (spec_l1In.ac A) (avAL_cons (avA_shut' rfl) (avAL_cons (avA_shut' rfl) (avAL_cons (avA_shut' rfl) (avAL_nil)))) (Or.inl rfl) rfl rfl (Nat.le_of_ble_eq_true rfl) ?_
  conv => whnf
  refine br_nt H (fun c H => ?_) (fun c H => ?_)
  conv => whnf
  refine spec_l2NameOk.l0_lp (a0 := a0) (k := k) H [] (fits_of ⟨.inl ⟨rfl, rfl⟩, trivial⟩ trivial fi_ trivial rfl) ?_
  intro k x3 hk H; rcases k with _ | k; exact none_elim H; rw [spec_l2NameOk.l0] at H; conv => whnf
  refine cut_ 80 [(0, .str a0), (3, .int .i64 x3), (12, .bool (decide (x3 < (a0.size : Int))))] [] rfl ⟨.inl rfl, ⟨.inl rfl, ⟨.inl rfl, trivial⟩⟩⟩ trivial ?_
  conv => whnf
  refine br_d H (fun c H => ?_) (fun c H => ?_)
  conv => whnf
  refine nd_ H (fun c H => ?_)
  conv => whnf
  refine Nd.mk nf_ ?_
  conv => whnf
  refine br_d H (fun c H => ?_) (fun c H => ?_)
  conv => whnf
  refine Br.t ft_ ?_
  conv => whnf
  refine Br.t ft_ ?_
  conv => whnf
  refine br_d H (fun c H => ?_) (fun c H => ?_)
  conv => whnf
  refine Br.t ft_ ?_
  conv => whnf
  refine Br.t ft_ ?_
  conv => whnf
  refine Br.t ft_ ?_
  conv => whnf
  refine Br.t ft_ ?_
  conv => whnf
  refine Br.t rfl ?_
  conv => whnf
  refine Br.t rfl ?_
  conv => whnf
  refine Br.t rfl ?_
  conv => whnf
  refine cut_ 264 [(0, .str a0), (3, .int .i64 x3), (36, .bool (!true))] [] rfl ⟨.inl rfl, ⟨.inl rfl, ⟨.inl rfl, trivial⟩⟩⟩ trivial ?_
  conv => whnf
  refine Br.f rfl ?_
  conv => whnf
  exact ⟨(k, wrap64 (x3 + 1)), [], ⟨H, lt_⟩, lt_, (fits_of ⟨.inl ⟨rfl, rfl⟩, trivial⟩ trivial fi_ trivial rfl)⟩
  conv => whnf
  refine Br.f ff_ ?_
  conv => whnf
  refine Br.f ff_ ?_
  conv => whnf
  refine br_d H (fun c H => ?_) (fun c H => ?_)
  conv => whnf
  refine Br.t ft_ ?_
  conv => whnf
  refine Br.f ff_ ?_
  conv => whnf
  refine Br.t ft_ ?_
  conv => whnf
  refine Br.f ff_ ?_
  conv => whnf
  refine br_d H (fun c H => ?_) (fun c H => ?_)
  conv => whnf
  refine Br.t ft_ ?_
  conv => whnf
  refine Br.t ft_ ?_
  conv => whnf
  refine cut_ 264 [(0, .str a0), (3, .int .i64 x3), (36, .bool (!true))] [] rfl ⟨.inl rfl, ⟨.inl rfl, ⟨.inl rfl, trivial⟩⟩⟩ trivial ?_
  conv => whnf
  refine Br.f rfl ?_
  conv => whnf
  exact ⟨(k, wrap64 (x3 + 1)), [], ⟨H, lt_⟩, lt_, (fits_of ⟨.inl ⟨rfl, rfl⟩, trivial⟩ trivial fi_ trivial rfl)⟩
  conv => whnf
  refine Br.f ff_ ?_
  conv => whnf
  refine Br.f ff_ ?_
  conv => whnf
  refine cut_ 264 [(0, .str a0), (3, .int .i64 x3), (36, .bool (!(decide ((bt a0 x3) = 45))))] [] rfl ⟨.inl rfl, ⟨.inl rfl, ⟨.inl rfl, trivial⟩⟩⟩ trivial ?_
  conv => whnf
  refine br_nd H (fun c H => ?_) (fun c H => ?_)
  conv => whnf
  exact ⟨(k, wrap64 (x3 + 1)), [], ⟨H, lt_⟩, lt_, (fits_of ⟨.inl ⟨rfl, rfl⟩, trivial⟩ trivial fi_ trivial rfl)⟩
  conv => whnf
  injection H with H; subst H
  exact ret_fz [] (rtA_eq rfl)
  conv => whnf
  refine Br.f ff_ ?_
  conv => whnf
  refine Br.f ff_ ?_
  conv => whnf
  refine Br.f ff_ ?_
  conv => whnf
  refine Br.f ff_ ?_
  conv => whnf
  refine Br.f rfl ?_
  conv => whnf
  refine Br.f rfl ?_
  conv => whnf
  refine Br.f rfl ?_
  conv => whnf
  refine cut_ 264 [(0, .str a0), (3, .int .i64 x3), (36, .bool (!(decide ((bt a0 x3) = 45))))] [] rfl ⟨.inl rfl, ⟨.inl rfl, ⟨.inl rfl, trivial⟩⟩⟩ trivial ?_
  conv => whnf
  refine br_nd H (fun c H => ?_) (fun c H => ?_)
  conv => whnf
  exact ⟨(k, wrap64 (x3 + 1)), [], ⟨H, lt_⟩, lt_, (fits_of ⟨.inl ⟨rfl, rfl⟩, trivial⟩ trivial fi_ trivial rfl)⟩
  conv => whnf
  injection H with H; subst H
  exact ret_fz [] (rtA_eq rfl)
  conv => whnf
  refine Br.f ff_ ?_
  conv => whnf
  refine Br.f ff_ ?_
  conv => whnf
  refine Br.f rfl ?_
  conv => whnf
  refine Br.f rfl ?_
  conv => whnf
  refine Br.f rfl ?_
  conv => whnf
  refine br_d H (fun c H => ?_) (fun c H => ?_)
  conv => whnf
  refine Br.t ft_ ?_
  conv => whnf
  refine Br.f rfl ?_
  conv => whnf
  refine Br.t ft_ ?_
  conv => whnf
  refine Br.f rfl ?_
  conv => whnf
  refine br_d H (fun c H => ?_) (fun c H => ?_)
  conv => whnf
  refine Br.t ft_ ?_
  conv => whnf
  refine Br.t ft_ ?_
  conv => whnf
  refine cut_ 264 [(0, .str a0), (3, .int .i64 x3), (36, .bool (!true))] [] rfl ⟨.inl rfl, ⟨.inl rfl, ⟨.inl rfl, trivial⟩⟩⟩ trivial ?_
  conv => whnf
  refine Br.f rfl ?_
  conv => whnf
  exact ⟨(k, wrap64 (x3 + 1)), [], ⟨H, lt_⟩, lt_, (fits_of ⟨.inl ⟨rfl, rfl⟩, trivial⟩ trivial fi_ trivial rfl)⟩
  conv => whnf
  refine Br.f ff_ ?_
  conv => whnf
  refine Br.f ff_ ?_
  conv => whnf
  refine cut_ 264 [(0, .str a0), (3, .int .i64 x3), (36, .bool (!(decide ((bt a0 x3) = 45))))] [] rfl ⟨.inl rfl, ⟨.inl rfl, ⟨.inl rfl, trivial⟩⟩⟩ trivial ?_
  conv => whnf
  refine br_nd H (fun c H => ?_) (fun c H => ?_)
  conv => whnf
  exact ⟨(k, wrap64 (x3 + 1)), [], ⟨H, lt_⟩, lt_, (fits_of ⟨.inl ⟨rfl, rfl⟩, trivial⟩ trivial fi_ trivial rfl)⟩
  conv => whnf
  injection H with H; subst H
  exact ret_fz [] (rtA_eq rfl)
  conv => whnf
  refine Br.f ff_ ?_
  conv => whnf
  refine Br.f rfl ?_
  conv => whnf
  refine Br.f ff_ ?_
  conv => whnf
  refine Br.f rfl ?_
  conv => whnf
  refine Br.f rfl ?_
  conv => whnf
  refine Br.f rfl ?_
  conv => whnf
  refine Br.f rfl ?_
  conv => whnf
  refine cut_ 264 [(0, .str a0), (3, .int .i64 x3), (36, .bool (!(decide ((bt a0 x3) = 45))))] [] rfl ⟨.inl rfl, ⟨.inl rfl, ⟨.inl rfl, trivial⟩⟩⟩ trivial ?_
  conv => whnf
  refine br_nd H (fun c H => ?_) (fun c H => ?_)
  conv => whnf
  exact ⟨(k, wrap64 (x3 + 1)), [], ⟨H, lt_⟩, lt_, (fits_of ⟨.inl ⟨rfl, rfl⟩, trivial⟩ trivial fi_ trivial rfl)⟩
  conv => whnf
  injection H with H; subst H
  exact ret_fz [] (rtA_eq rfl)
  conv => whnf
  injection H with H; subst H
  exact ret_fz [] (rtA_eq rfl)
  conv => whnf
  injection H with H; subst H
  exact ret_fz [] (rtA_eq rfl)
theorem spec_l2Has.l0_lp {F : (Exit → St → Prop) → St → Prop} {hv : List Tmp} {Q : Exit → St → Prop} {σ : St} {r : Bool} {k : Nat} {l0 : List ByteArray} {a1 : ByteArray} {x5 : Int} (H : spec_l2Has.l0 k l0 a1 x5 = some r) (rn : List (Option Nat)) (h1 : Fits σ σ [] [(5, .int .i64 x5)] [] [] rn)
    (h2 : ∀ (k0 : Nat) (x5 : Int), k0 < k + 1 → spec_l2Has.l0 k0 l0 a1 x5 = some r → headN σ hv [] [(5, .int .i64 x5)] [] [] (F (fun e σ' => match e with | .normal => ∃ (y : Nat × Int) (rn : List (Option Nat)), (spec_l2Has.l0 y.1 l0 a1 y.2 = some r ∧ y.1 < k + 1) ∧ y.1 < k0 ∧ Fits σ σ' [] [(5, .int .i64 y.2)] [] [] rn | e => Q e σ'))) : Lp F hv Q σ := by
  unfold Lp
  refine ⟨Nat × Int, fun x => spec_l2Has.l0 x.1 l0 a1 x.2 = some r ∧ x.1 < k + 1, fun x => x.1, [], fun x => [(5, .int .i64 x.2)], fun x => [], fun x => [], ⟨(k, x5), rn, ⟨H, Nat.lt_succ_self _⟩, h1⟩, ?_⟩
  rintro ⟨k, x5⟩ ⟨H, hk⟩
  exact h2 k x5 hk H
theorem spec_l2Has.ac {k : Nat} {l0 : List ByteArray} {a1 : ByteArray} {r : Bool} (H : spec_l2Has.f k l0 a1 = some r) : ACalls Try.prog G 99 [] [(sv_str l0), .str a1] [] (.bool r) := by
  refine acalls_of tok hP Try.func99 rfl (by kernel_rfl) [.tmp 4] rfl (by kernel_rfl) (Nat.le_of_ble_eq_true rfl) (.l .n (.l (.l .n (.l .n (.l (.c .n .n) .n))) .n)) rfl ?_
  unfold spec_l2Has.f at H
  conv => whnf
  refine spec_l2Has.l0_lp (l0 := l0) (a1 := a1) (k := k) H [] (fits_of ⟨.inl ⟨rfl, rfl⟩, trivial⟩ trivial fi_ trivial rfl) ?_
  intro k x5 hk H; rcases k with _ | k; exact none_elim H; rw [spec_l2Has.l0] at H; conv => whnf
  refine br_d H (fun c H => ?_) (fun c H => ?_)
  conv => whnf
  refine nd_ H (fun c H => ?_)
  conv => whnf
  refine Nd.mk nf_ ?_
  conv => whnf
  refine El.mk (rdm_en_str _ _ nf_ nf_) ?_
  conv => whnf
  refine cut_ 96 [(0, (sv_str l0)), (1, .str a1), (5, .int .i64 x5), (17, .bool (decide ((rdOf ByteArray.empty l0 x5).toList = a1.toList)))] [] rfl ⟨.inl rfl, ⟨.inl rfl, ⟨.inl rfl, ⟨.inl rfl, trivial⟩⟩⟩⟩ trivial ?_
  conv => whnf
  refine br_d H (fun c H => ?_) (fun c H => ?_)
  conv => whnf
  injection H with H; subst H
  exact ret_fz [] (rtA_eq rfl)
  conv => whnf
  exact ⟨(k, wrap64 (x5 + 1)), [], ⟨H, lt_⟩, lt_, (fits_of ⟨.inl ⟨rfl, rfl⟩, trivial⟩ trivial fi_ trivial rfl)⟩
  conv => whnf
  injection H with H; subst H
  exact ret_fz [] (rtA_eq rfl)
theorem spec_l3Stuff.l0_lp {F : (Exit → St → Prop) → St → Prop} {hv : List Tmp} {Q : Exit → St → Prop} {σ : St} {r : (List ByteArray) × (List S_impl_PlantFoe) × (List S_impl_PlantPlace) × (List S_impl_PlantValve) × Int} {k : Nat} {a0_0 : List ByteArray} {a0_1 : List S_impl_PlantFoe} {a0_2 : List S_impl_PlantPlace} {a0_3 : List S_impl_PlantValve} {l1 : List ByteArray} {x6 : Int} (H : spec_l3Stuff.l0 k a0_0 a0_1 a0_2 a0_3 l1 x6 = some r) (rn : List (Option Nat)) (h1 : Fits σ σ [] [(6, .int .i64 x6)] [] [] rn)
    (h2 : ∀ (k0 : Nat) (x6 : Int), k0 < k + 1 → spec_l3Stuff.l0 k0 a0_0 a0_1 a0_2 a0_3 l1 x6 = some r → headN σ hv [] [(6, .int .i64 x6)] [] [] (F (fun e σ' => match e with | .normal => ∃ (y : Nat × Int) (rn : List (Option Nat)), (spec_l3Stuff.l0 y.1 a0_0 a0_1 a0_2 a0_3 l1 y.2 = some r ∧ y.1 < k + 1) ∧ y.1 < k0 ∧ Fits σ σ' [] [(6, .int .i64 y.2)] [] [] rn | e => Q e σ'))) : Lp F hv Q σ := by
  unfold Lp
  refine ⟨Nat × Int, fun x => spec_l3Stuff.l0 x.1 a0_0 a0_1 a0_2 a0_3 l1 x.2 = some r ∧ x.1 < k + 1, fun x => x.1, [], fun x => [(6, .int .i64 x.2)], fun x => [], fun x => [], ⟨(k, x6), rn, ⟨H, Nat.lt_succ_self _⟩, h1⟩, ?_⟩
  rintro ⟨k, x6⟩ ⟨H, hk⟩
  exact h2 k x6 hk H
theorem spec_l3Stuff.ac {k : Nat} {a0_0 : List ByteArray} {a0_1 : List S_impl_PlantFoe} {a0_2 : List S_impl_PlantPlace} {a0_3 : List S_impl_PlantValve} {l1 : List ByteArray} {r : (List ByteArray) × (List S_impl_PlantFoe) × (List S_impl_PlantPlace) × (List S_impl_PlantValve) × Int} (H : spec_l3Stuff.f k a0_0 a0_1 a0_2 a0_3 l1 = some r) : ACalls Try.prog G 215 [] [.agg [(sv_str a0_0), (sv_S_impl_PlantFoe a0_1), (sv_S_impl_PlantPlace a0_2), (sv_S_impl_PlantValve a0_3)], (sv_str l1)] [] (.tup [.agg [(sv_str r.1), (sv_S_impl_PlantFoe r.2.1), (sv_S_impl_PlantPlace r.2.2.1), (sv_S_impl_PlantValve r.2.2.2.1)], .int .i64 r.2.2.2.2]) := by
  refine acalls_of tok hP Try.func215 rfl (by kernel_rfl) [.cell 4 44, .tmp 5] rfl (by kernel_rfl) (Nat.le_of_ble_eq_true rfl) (.l .n (.l (.c .n (.l (.c .n .n) .n)) (.l (.c .n .n) (.l .n (.l .n (.l (.l (.c .n .n) .n) (.c .n .n))))))) rfl ?_
  unfold spec_l3Stuff.f at H
  conv => whnf
  refine br_nd H (fun c H => ?_) (fun c H => ?_)
  conv => whnf
  refine Br.f ff_ ?_
  conv => whnf
  refine Nd.mk (by decide) ?_
  conv => whnf
  refine nd_ H (fun c H => ?_)
  conv => whnf
  refine El.mk (rdm_en_str _ _ nf_ nf_) ?_
  conv => whnf
  refine Br.f ff_ ?_
  conv => whnf
  refine Br.f ff_ ?_
  conv => whnf
  revert H; refine bind_elim (fun t201 A H => ?_)
  refine call_mk (spec_l2NameOk.ac A) (avAL_cons (avA_shut' rfl) (avAL_nil)) (Or.inl rfl) rfl rfl (Nat.le_of_ble_eq_true rfl) ?_
  conv => whnf
  refine Br.f ff_ ?_
  conv => whnf
  refine Br.f ff_ ?_
  conv => whnf
  refine cut_ 104 [(1, (sv_str l1)), (2, .bp 0 0), (4, .bp 8 0), (16, .bool (!t201))] [(0, .box [(sv_str a0_0), (sv_S_impl_PlantFoe a0_1), (sv_S_impl_PlantPlace a0_2), (sv_S_impl_PlantValve a0_3)]), (8, .box [.nil, .nil, .nil, .nil])] rfl ⟨.inl rfl, ⟨.inl rfl, ⟨.inl rfl, ⟨.inl rfl, trivial⟩⟩⟩⟩ ⟨rfl, ⟨rfl, trivial⟩⟩ ?_
  conv => whnf
  refine br_nt H (fun c H => ?_) (fun c H => ?_)
  conv => whnf
  refine Nd.mk (by decide) ?_
  conv => whnf
  refine Nd.mk nf_ ?_
  conv => whnf
  refine El.mk (rdm_en_str _ _ nf_ nf_) ?_
  conv => whnf
  revert H; refine bind_elim (fun t202 A H => ?_)
  refine call_mk (spec_l2Has.ac A) (avAL_cons (avA_shut' rfl) (avAL_cons (avA_shut' rfl) (avAL_nil))) (Or.inl rfl) rfl rfl (Nat.le_of_ble_eq_true rfl) ?_
  conv => whnf
  refine cut_ 152 [(1, (sv_str l1)), (2, .bp 0 0), (4, .bp 8 0), (23, .bool t202)] [(0, .box [(sv_str a0_0), (sv_S_impl_PlantFoe a0_1), (sv_S_impl_PlantPlace a0_2), (sv_S_impl_PlantValve a0_3)]), (8, .box [.nil, .nil, .nil, .nil])] rfl ⟨.inl rfl, ⟨.inl rfl, ⟨.inl rfl, ⟨.inl rfl, trivial⟩⟩⟩⟩ ⟨rfl, ⟨rfl, trivial⟩⟩ ?_
  conv => whnf
  refine br_t H (fun c H => ?_) (fun c H => ?_)
  conv => whnf
  injection H with H; subst H
  exact ret_tup [] (rtAL_cons (rtA_agg (rtL_cons (rt_eq rfl) (rtL_cons (rt_eq rfl) (rtL_cons (rt_eq rfl) (rtL_cons (rt_eq rfl) (rtL_nil)))))) (rtAL_cons (rtA_eq rfl) (rtAL_nil)))
  conv => whnf
  refine br_d H (fun c H => ?_) (fun c H => ?_)
  conv => whnf
  injection H with H; subst H
  exact ret_tup [] (rtAL_cons (rtA_agg (rtL_cons (rt_eq rfl) (rtL_cons (rt_eq rfl) (rtL_cons (rt_eq rfl) (rtL_cons (rt_eq rfl) (rtL_nil)))))) (rtAL_cons (rtA_eq rfl) (rtAL_nil)))
  conv => whnf
  refine spec_l3Stuff.l0_lp (a0_0 := a0_0) (a0_1 := a0_1) (a0_2 := a0_2) (a0_3 := a0_3) (l1 := l1) (k := k) H [] (fits_of ⟨.inl ⟨rfl, rfl⟩, trivial⟩ trivial fi_ trivial rfl) ?_
  intro k x6 hk H; rcases k with _ | k; exact none_elim H; rw [spec_l3Stuff.l0] at H; conv => whnf
  refine br_d H (fun c H => ?_) (fun c H => ?_)
  conv => whnf
  refine Br.t ft_ ?_
  conv => whnf
  refine Br.t ft_ ?_
  conv => whnf
  refine Br.t ft_ ?_
  conv => whnf
  refine nd_ H (fun c H => ?_)
  conv => whnf
  refine Nd.mk nf_ ?_
  conv => whnf
  refine El.mk (rdm_en_str _ _ nf_ nf_) ?_
  conv => whnf
  refine Br.t ft_ ?_
  conv => whnf
  refine Br.t ft_ ?_
  conv => whnf
  refine Br.t ft_ ?_
  conv => whnf
  refine Nd.mk (by decide) ?_
  conv => whnf
  refine Nd.mk nf_ ?_
  conv => whnf
  refine El.mk (rdm_en_str _ _ nf_ nf_) ?_
  conv => whnf
  refine Br.t ft_ ?_
  conv => whnf
  refine Br.t ft_ ?_
  conv => whnf
  refine Br.t ft_ ?_
  conv => whnf
  refine cut_ 320 [(1, (sv_str l1)), (2, .bp 0 0), (4, .bp 8 0), (6, .int .i64 x6), (45, .bool (Op.bytesLess (rdOf ByteArray.empty a0_0 x6).toList (rdOf ByteArray.empty l1 1).toList))] [(0, .box [(sv_str a0_0), (sv_S_impl_PlantFoe a0_1), (sv_S_impl_PlantPlace a0_2), (sv_S_impl_PlantValve a0_3)]), (8, .box [.nil, .nil, .nil, .nil])] rfl ⟨.inl rfl, ⟨.inl rfl, ⟨.inl rfl, ⟨.inl rfl, ⟨.inl rfl, trivial⟩⟩⟩⟩⟩ ⟨rfl, ⟨rfl, trivial⟩⟩ ?_
  conv => whnf
  refine br_t H (fun c H => ?_) (fun c H => ?_)
  conv => whnf
  exact ⟨(k, wrap64 (x6 + 1)), [], ⟨H, lt_⟩, lt_, (fits_of ⟨.inl ⟨rfl, rfl⟩, trivial⟩ trivial fi_ trivial rfl)⟩
  conv => whnf
  refine Or.inl ?_
  conv => whnf
  refine Nd.mk nf_ ?_
  conv => whnf
  refine nd_ H (fun c H => ?_)
  conv => whnf
  refine nd_ H (fun c H => ?_)
  conv => whnf
  refine Nd.mk (by decide) ?_
  conv => whnf
  refine Nd.mk nf_ ?_
  conv => whnf
  refine El.mk (rdm_en_str _ _ nf_ nf_) ?_
  conv => whnf
  refine Or.inl ?_
  conv => whnf
  refine nd_ H (fun c H => ?_)
  conv => whnf
  refine Nd.mk nf_ ?_
  conv => whnf
  refine Nd.mk nf_ ?_
  conv => whnf
  refine nd_ H (fun c H => ?_)
  conv => whnf
  refine cut_ 464 [(2, .bp 0 0), (4, .bp 8 0)] [(0, .box [.own 440 (0 + (x6).toNat + 1 + (a0_0.length - (x6).toNat)), (sv_S_impl_PlantFoe a0_1), (sv_S_impl_PlantPlace a0_2), (sv_S_impl_PlantValve a0_3)]), (8, .box [.nil, .nil, .nil, .nil]), (440, .arr 9 1 ((((([] : List ByteArray) ++ (a0_0.take (x6).toNat)) ++ ([rdOf ByteArray.empty l1 1] : List ByteArray)) ++ (a0_0.drop (x6).toNat)).map en_str))] rfl ⟨.inl rfl, ⟨.inl rfl, trivial⟩⟩ ⟨rfl, ⟨rfl, ⟨fm_, trivial⟩⟩⟩ ?_
  conv => whnf
  injection H with H; subst H
  exact ret_tup [440] (rtAL_cons (rtA_agg (rtL_cons (rt_fzD rfl lm_ lm_ rfl) (rtL_cons (rt_eq rfl) (rtL_cons (rt_eq rfl) (rtL_cons (rt_eq rfl) (rtL_nil)))))) (rtAL_cons (rtA_eq rfl) (rtAL_nil)))
  conv => whnf
  refine Br.f ff_ ?_
  conv => whnf
  refine Br.f ff_ ?_
  conv => whnf
  refine Br.f ff_ ?_
  conv => whnf
  refine Br.f ff_ ?_
  conv => whnf
  refine Br.f ff_ ?_
  conv => whnf
  refine Br.f ff_ ?_
  conv => whnf
  refine Br.f ff_ ?_
  conv => whnf
  refine Br.f ff_ ?_
  conv => whnf
  refine Br.f ff_ ?_
  conv => whnf
  refine cut_ 320 [(1, (sv_str l1)), (2, .bp 0 0), (4, .bp 8 0), (6, .int .i64 x6), (45, .bool false)] [(0, .box [(sv_str a0_0), (sv_S_impl_PlantFoe a0_1), (sv_S_impl_PlantPlace a0_2), (sv_S_impl_PlantValve a0_3)]), (8, .box [.nil, .nil, .nil, .nil])] rfl ⟨.inl rfl, ⟨.inl rfl, ⟨.inl rfl, ⟨.inl rfl, ⟨.inl rfl, trivial⟩⟩⟩⟩⟩ ⟨rfl, ⟨rfl, trivial⟩⟩ ?_
  conv => whnf
  refine Br.f rfl ?_
  conv => whnf
  refine Or.inl ?_
  conv => whnf
  refine nd_ H (fun c H => ?_)
  conv => whnf
  refine nd_ H (fun c H => ?_)
  conv => whnf
  refine nd_ H (fun c H => ?_)
  conv => whnf
  refine Nd.mk (by decide) ?_
  conv => whnf
  refine Nd.mk nf_ ?_
  conv => whnf
  refine El.mk (rdm_en_str _ _ nf_ nf_) ?_
  conv => whnf
  refine Or.inl ?_
  conv => whnf
  refine nd_ H (fun c H => ?_)
  conv => whnf
  refine Nd.mk nf_ ?_
  conv => whnf
  refine Nd.mk nf_ ?_
  conv => whnf
  refine nd_ H (fun c H => ?_)
  conv => whnf
  refine cut_ 464 [(2, .bp 0 0), (4, .bp 8 0)] [(0, .box [.own 440 (0 + (x6).toNat + 1 + (a0_0.length - (x6).toNat)), (sv_S_impl_PlantFoe a0_1), (sv_S_impl_PlantPlace a0_2), (sv_S_impl_PlantValve a0_3)]), (8, .box [.nil, .nil, .nil, .nil]), (440, .arr 9 1 ((((([] : List ByteArray) ++ (a0_0.take (x6).toNat)) ++ ([rdOf ByteArray.empty l1 1] : List ByteArray)) ++ (a0_0.drop (x6).toNat)).map en_str))] rfl ⟨.inl rfl, ⟨.inl rfl, trivial⟩⟩ ⟨rfl, ⟨rfl, ⟨fm_, trivial⟩⟩⟩ ?_
  conv => whnf
  injection H with H; subst H
  exact ret_tup [440] (rtAL_cons (rtA_agg (rtL_cons (rt_fzD rfl lm_ lm_ rfl) (rtL_cons (rt_eq rfl) (rtL_cons (rt_eq rfl) (rtL_cons (rt_eq rfl) (rtL_nil)))))) (rtAL_cons (rtA_eq rfl) (rtAL_nil)))
  conv => whnf
  refine cut_ 128 [(4, .bp 8 0), (5, .int .i64 3)] [(8, .box [(sv_str a0_0), (sv_S_impl_PlantFoe a0_1), (sv_S_impl_PlantPlace a0_2), (sv_S_impl_PlantValve a0_3)])] rfl ⟨.inl rfl, ⟨.inl rfl, trivial⟩⟩ ⟨rfl, trivial⟩ ?_
  conv => whnf
  injection H with H; subst H
  exact ret_tup [] (rtAL_cons (rtA_agg (rtL_cons (rt_eq rfl) (rtL_cons (rt_eq rfl) (rtL_cons (rt_eq rfl) (rtL_cons (rt_eq rfl) (rtL_nil)))))) (rtAL_cons (rtA_eq rfl) (rtAL_nil)))
  conv => whnf
  refine Br.t ft_ ?_
  conv => whnf
  refine Br.t ft_ ?_
  conv => whnf
  refine Br.t ft_ ?_
  conv => whnf
  refine Br.t ft_ ?_
  conv => whnf
  refine Br.t ft_ ?_
  conv => whnf
  refine cut_ 104 [(1, (sv_str l1)), (2, .bp 0 0), (4, .bp 8 0), (16, .bool true)] [(0, .box [(sv_str a0_0), (sv_S_impl_PlantFoe a0_1), (sv_S_impl_PlantPlace a0_2), (sv_S_impl_PlantValve a0_3)]), (8, .box [.nil, .nil, .nil, .nil])] rfl ⟨.inl rfl, ⟨.inl rfl, ⟨.inl rfl, ⟨.inl rfl, trivial⟩⟩⟩⟩ ⟨rfl, ⟨rfl, trivial⟩⟩ ?_
  conv => whnf
  refine Br.t rfl ?_
  conv => whnf
  refine cut_ 128 [(4, .bp 8 0), (5, .int .i64 3)] [(8, .box [(sv_str a0_0), (sv_S_impl_PlantFoe a0_1), (sv_S_impl_PlantPlace a0_2), (sv_S_impl_PlantValve a0_3)])] rfl ⟨.inl rfl, ⟨.inl rfl, trivial⟩⟩ ⟨rfl, trivial⟩ ?_
  conv => whnf
  injection H with H; subst H
  exact ret_tup [] (rtAL_cons (rtA_agg (rtL_cons (rt_eq rfl) (rtL_cons (rt_eq rfl) (rtL_cons (rt_eq rfl) (rtL_cons (rt_eq rfl) (rtL_nil)))))) (rtAL_cons (rtA_eq rfl) (rtAL_nil)))
theorem spec_l2Foes.l0_lp {F : (Exit → St → Prop) → St → Prop} {hv : List Tmp} {Q : Exit → St → Prop} {σ : St} {r : Bool} {k : Nat} {a0_1 : List S_impl_PlantFoe} {a1 : ByteArray} {a2 : ByteArray} {x7 : Int} (H : spec_l2Foes.l0 k a0_1 a1 a2 x7 = some r) (rn : List (Option Nat)) (h1 : Fits σ σ [] [(7, .int .i64 x7)] [] [] rn)
    (h2 : ∀ (k0 : Nat) (x7 : Int), k0 < k + 1 → spec_l2Foes.l0 k0 a0_1 a1 a2 x7 = some r → headN σ hv [] [(7, .int .i64 x7)] [] [] (F (fun e σ' => match e with | .normal => ∃ (y : Nat × Int) (rn : List (Option Nat)), (spec_l2Foes.l0 y.1 a0_1 a1 a2 y.2 = some r ∧ y.1 < k + 1) ∧ y.1 < k0 ∧ Fits σ σ' [] [(7, .int .i64 y.2)] [] [] rn | e => Q e σ'))) : Lp F hv Q σ := by
  unfold Lp
  refine ⟨Nat × Int, fun x => spec_l2Foes.l0 x.1 a0_1 a1 a2 x.2 = some r ∧ x.1 < k + 1, fun x => x.1, [], fun x => [(7, .int .i64 x.2)], fun x => [], fun x => [], ⟨(k, x7), rn, ⟨H, Nat.lt_succ_self _⟩, h1⟩, ?_⟩
  rintro ⟨k, x7⟩ ⟨H, hk⟩
  exact h2 k x7 hk H
theorem spec_l2Foes.ac {k : Nat} {a0_0 : List ByteArray} {a0_1 : List S_impl_PlantFoe} {a0_2 : List S_impl_PlantPlace} {a0_3 : List S_impl_PlantValve} {a1 : ByteArray} {a2 : ByteArray} {r : Bool} (H : spec_l2Foes.f k a0_0 a0_1 a0_2 a0_3 a1 a2 = some r) : ACalls Try.prog G 226 [] [.agg [(sv_str a0_0), (sv_S_impl_PlantFoe a0_1), (sv_S_impl_PlantPlace a0_2), (sv_S_impl_PlantValve a0_3)], .str a1, .str a2] [] (.bool r) := by
  refine acalls_of tok hP Try.func226 rfl (by kernel_rfl) [.tmp 6] rfl (by kernel_rfl) (Nat.le_of_ble_eq_true rfl) (.l .n (.l (.l .n (.l .n (.l (.c .n (.l (.c .n .n) .n)) .n))) .n)) rfl ?_
  unfold spec_l2Foes.f at H
  conv => whnf
  refine spec_l2Foes.l0_lp (a0_1 := a0_1) (a1 := a1) (a2 := a2) (k := k) H [] (fits_of ⟨.inl ⟨rfl, rfl⟩, trivial⟩ trivial fi_ trivial rfl) ?_
  intro k x7 hk H; rcases k with _ | k; exact none_elim H; rw [spec_l2Foes.l0] at H; conv => whnf
  refine br_d H (fun c H => ?_) (fun c H => ?_)
  conv => whnf
  refine nd_ H (fun c H => ?_)
  conv => whnf
  refine Nd.mk nf_ ?_
  conv => whnf
  refine El.mk (rdm_en_S_impl_PlantFoe _ _ nf_ nf_) ?_
  conv => whnf
  refine br_d H (fun c H => ?_) (fun c H => ?_)
  conv => whnf
  refine Br.t ft_ ?_
  conv => whnf
  refine Br.t ft_ ?_
  conv => whnf
  refine Br.t ft_ ?_
  conv => whnf
  refine Nd.mk nf_ ?_
  conv => whnf
  refine Nd.mk nf_ ?_
  conv => whnf
  refine El.mk (rdm_en_S_impl_PlantFoe _ _ nf_ nf_) ?_
  conv => whnf
  refine Br.t ft_ ?_
  conv => whnf
  refine Br.t ft_ ?_
  conv => whnf
  refine Br.t ft_ ?_
  conv => whnf
  refine Br.t ft_ ?_
  conv => whnf
  refine Br.t ft_ ?_
  conv => whnf
  refine br_d H (fun c H => ?_) (fun c H => ?_)
  conv => whnf
  refine Br.t ft_ ?_
  conv => whnf
  refine Br.t ft_ ?_
  conv => whnf
  refine Br.t ft_ ?_
  conv => whnf
  refine Br.t ft_ ?_
  conv => whnf
  refine Br.t ft_ ?_
  conv => whnf
  refine Br.t ft_ ?_
  conv => whnf
  refine Br.t ft_ ?_
  conv => whnf
  refine Br.t ft_ ?_
  conv => whnf
  refine Br.t ft_ ?_
  conv => whnf
  refine Br.t ft_ ?_
  conv => whnf
  refine cut_ 368 [(1, .str a1), (2, .str a2), (3, .bp 0 0), (7, .int .i64 x7), (52, .bool true)] [(0, .box [(sv_str a0_0), (sv_S_impl_PlantFoe a0_1), (sv_S_impl_PlantPlace a0_2), (sv_S_impl_PlantValve a0_3)])] rfl ⟨.inl rfl, ⟨.inl rfl, ⟨.inl rfl, ⟨.inl rfl, ⟨.inl rfl, trivial⟩⟩⟩⟩⟩ ⟨rfl, trivial⟩ ?_
  conv => whnf
  refine Br.t rfl ?_
  conv => whnf
  refine cut_ 376 [(6, .bool true)] [] rfl ⟨.inl rfl, trivial⟩ trivial ?_
  conv => whnf
  injection H with H; subst H
  exact ret_fz [] (rtA_eq rfl)
  conv => whnf
  refine Br.f ff_ ?_
  conv => whnf
  refine Br.f ff_ ?_
  conv => whnf
  refine Br.f ff_ ?_
  conv => whnf
  refine Nd.mk nf_ ?_
  conv => whnf
  refine Nd.mk nf_ ?_
  conv => whnf
  refine El.mk (rdm_en_S_impl_PlantFoe _ _ nf_ nf_) ?_
  conv => whnf
  refine Br.f ff_ ?_
  conv => whnf
  refine Br.f ff_ ?_
  conv => whnf
  refine Br.f ff_ ?_
  conv => whnf
  refine Br.f ff_ ?_
  conv => whnf
  refine Br.f ff_ ?_
  conv => whnf
  refine br_d H (fun c H => ?_) (fun c H => ?_)
  conv => whnf
  refine Br.t ft_ ?_
  conv => whnf
  refine Br.t ft_ ?_
  conv => whnf
  refine Br.t ft_ ?_
  conv => whnf
  refine Nd.mk nf_ ?_
  conv => whnf
  refine Nd.mk nf_ ?_
  conv => whnf
  refine El.mk (rdm_en_S_impl_PlantFoe _ _ nf_ nf_) ?_
  conv => whnf
  refine Br.t ft_ ?_
  conv => whnf
  refine Br.t ft_ ?_
  conv => whnf
  refine Br.t ft_ ?_
  conv => whnf
  refine Br.t ft_ ?_
  conv => whnf
  refine Br.f ff_ ?_
  conv => whnf
  refine Br.t ft_ ?_
  conv => whnf
  refine Br.f ff_ ?_
  conv => whnf
  refine cut_ 368 [(1, .str a1), (2, .str a2), (3, .bp 0 0), (7, .int .i64 x7), (52, .bool (decide (((rd_impl_PlantFoe a0_1 x7).f1).toList = a1.toList)))] [(0, .box [(sv_str a0_0), (sv_S_impl_PlantFoe a0_1), (sv_S_impl_PlantPlace a0_2), (sv_S_impl_PlantValve a0_3)])] rfl ⟨.inl rfl, ⟨.inl rfl, ⟨.inl rfl, ⟨.inl rfl, ⟨.inl rfl, trivial⟩⟩⟩⟩⟩ ⟨rfl, trivial⟩ ?_
  conv => whnf
  refine br_d H (fun c H => ?_) (fun c H => ?_)
  conv => whnf
  refine cut_ 376 [(6, .bool true)] [] rfl ⟨.inl rfl, trivial⟩ trivial ?_
  conv => whnf
  injection H with H; subst H
  exact ret_fz [] (rtA_eq rfl)
  conv => whnf
  exact ⟨(k, wrap64 (x7 + 1)), [], ⟨H, lt_⟩, lt_, (fits_of ⟨.inl ⟨rfl, rfl⟩, trivial⟩ trivial fi_ trivial rfl)⟩
  conv => whnf
  refine Br.f ff_ ?_
  conv => whnf
  refine Br.f ff_ ?_
  conv => whnf
  refine Br.f ff_ ?_
  conv => whnf
  refine Br.f ff_ ?_
  conv => whnf
  refine Br.f ff_ ?_
  conv => whnf
  refine Br.f ff_ ?_
  conv => whnf
  refine Br.f ff_ ?_
  conv => whnf
  refine Br.f ff_ ?_
  conv => whnf
  refine Br.f ff_ ?_
  conv => whnf
  refine Br.f ff_ ?_
  conv => whnf
  refine cut_ 368 [(1, .str a1), (2, .str a2), (3, .bp 0 0), (7, .int .i64 x7), (52, .bool false)] [(0, .box [(sv_str a0_0), (sv_S_impl_PlantFoe a0_1), (sv_S_impl_PlantPlace a0_2), (sv_S_impl_PlantValve a0_3)])] rfl ⟨.inl rfl, ⟨.inl rfl, ⟨.inl rfl, ⟨.inl rfl, ⟨.inl rfl, trivial⟩⟩⟩⟩⟩ ⟨rfl, trivial⟩ ?_
  conv => whnf
  refine Br.f rfl ?_
  conv => whnf
  exact ⟨(k, wrap64 (x7 + 1)), [], ⟨H, lt_⟩, lt_, (fits_of ⟨.inl ⟨rfl, rfl⟩, trivial⟩ trivial fi_ trivial rfl)⟩
  conv => whnf
  refine Br.f ff_ ?_
  conv => whnf
  refine Br.f ff_ ?_
  conv => whnf
  refine Br.f ff_ ?_
  conv => whnf
  refine Br.f ff_ ?_
  conv => whnf
  refine Br.f ff_ ?_
  conv => whnf
  refine Br.f ff_ ?_
  conv => whnf
  refine Br.f ff_ ?_
  conv => whnf
  refine Br.f ff_ ?_
  conv => whnf
  refine Br.f rfl ?_
  conv => whnf
  refine Br.f rfl ?_
  conv => whnf
  refine Br.f rfl ?_
  conv => whnf
  refine Br.f rfl ?_
  conv => whnf
  refine Nd.mk nf_ ?_
  conv => whnf
  refine Nd.mk nf_ ?_
  conv => whnf
  refine El.mk (rdm_en_S_impl_PlantFoe _ _ nf_ nf_) ?_
  conv => whnf
  refine Br.f rfl ?_
  conv => whnf
  refine Br.f rfl ?_
  conv => whnf
  refine Br.f rfl ?_
  conv => whnf
  refine Br.f rfl ?_
  conv => whnf
  refine Br.f rfl ?_
  conv => whnf
  refine br_d H (fun c H => ?_) (fun c H => ?_)
  conv => whnf
  refine Br.t ft_ ?_
  conv => whnf
  refine Br.t ft_ ?_
  conv => whnf
  refine Br.t ft_ ?_
  conv => whnf
  refine Nd.mk nf_ ?_
  conv => whnf
  refine Nd.mk nf_ ?_
  conv => whnf
  refine El.mk (rdm_en_S_impl_PlantFoe _ _ nf_ nf_) ?_
  conv => whnf
  refine Br.t ft_ ?_
  conv => whnf
  refine Br.t ft_ ?_
  conv => whnf
  refine Br.t ft_ ?_
  conv => whnf
  refine Br.t ft_ ?_
  conv => whnf
  refine Br.f rfl ?_
  conv => whnf
  refine Br.t ft_ ?_
  conv => whnf
  refine Br.f rfl ?_
  conv => whnf
  refine cut_ 368 [(1, .str a1), (2, .str a2), (3, .bp 0 0), (7, .int .i64 x7), (52, .bool (decide (((rd_impl_PlantFoe a0_1 x7).f1).toList = a1.toList)))] [(0, .box [(sv_str a0_0), (sv_S_impl_PlantFoe a0_1), (sv_S_impl_PlantPlace a0_2), (sv_S_impl_PlantValve a0_3)])] rfl ⟨.inl rfl, ⟨.inl rfl, ⟨.inl rfl, ⟨.inl rfl, ⟨.inl rfl, trivial⟩⟩⟩⟩⟩ ⟨rfl, trivial⟩ ?_
  conv => whnf
  refine br_d H (fun c H => ?_) (fun c H => ?_)
  conv => whnf
  refine cut_ 376 [(6, .bool true)] [] rfl ⟨.inl rfl, trivial⟩ trivial ?_
  conv => whnf
  injection H with H; subst H
  exact ret_fz [] (rtA_eq rfl)
  conv => whnf
  exact ⟨(k, wrap64 (x7 + 1)), [], ⟨H, lt_⟩, lt_, (fits_of ⟨.inl ⟨rfl, rfl⟩, trivial⟩ trivial fi_ trivial rfl)⟩
  conv => whnf
  refine Br.f ff_ ?_
  conv => whnf
  refine Br.f ff_ ?_
  conv => whnf
  refine Br.f ff_ ?_
  conv => whnf
  refine Br.f ff_ ?_
  conv => whnf
  refine Br.f ff_ ?_
  conv => whnf
  refine Br.f ff_ ?_
  conv => whnf
  refine Br.f ff_ ?_
  conv => whnf
  refine Br.f rfl ?_
  conv => whnf
  refine Br.f ff_ ?_
  conv => whnf
  refine Br.f rfl ?_
  conv => whnf
  refine cut_ 368 [(1, .str a1), (2, .str a2), (3, .bp 0 0), (7, .int .i64 x7), (52, .bool false)] [(0, .box [(sv_str a0_0), (sv_S_impl_PlantFoe a0_1), (sv_S_impl_PlantPlace a0_2), (sv_S_impl_PlantValve a0_3)])] rfl ⟨.inl rfl, ⟨.inl rfl, ⟨.inl rfl, ⟨.inl rfl, ⟨.inl rfl, trivial⟩⟩⟩⟩⟩ ⟨rfl, trivial⟩ ?_
  conv => whnf
  refine Br.f rfl ?_
  conv => whnf
  exact ⟨(k, wrap64 (x7 + 1)), [], ⟨H, lt_⟩, lt_, (fits_of ⟨.inl ⟨rfl, rfl⟩, trivial⟩ trivial fi_ trivial rfl)⟩
  conv => whnf
  injection H with H; subst H
  exact ret_fz [] (rtA_eq rfl)
theorem spec_l2Before.ac {a0_0 : ByteArray} {a0_1 : ByteArray} {a1_0 : ByteArray} {a1_1 : ByteArray} {r : Bool} (H : spec_l2Before.f a0_0 a0_1 a1_0 a1_1 = some r) : ACalls Try.prog G 185 [] [.agg [.str a0_0, .str a0_1], .agg [.str a1_0, .str a1_1]] [] (.bool r) := by
  refine acalls_of tok hP Try.func185 rfl (by kernel_rfl) [.tmp 4] rfl (by kernel_rfl) (Nat.le_of_ble_eq_true rfl) (.l .n (.c .n .n)) rfl ?_
  unfold spec_l2Before.f at H
  conv => whnf
  refine br_t H (fun c H => ?_) (fun c H => ?_)
  conv => whnf
  refine Br.t ft_ ?_
  conv => whnf
  refine Br.t ft_ ?_
  conv => whnf
  refine Br.t ft_ ?_
  conv => whnf
  refine Br.t ft_ ?_
  conv => whnf
  refine Br.t ft_ ?_
  conv => whnf
  refine Br.t ft_ ?_
  conv => whnf
  refine Br.t ft_ ?_
  conv => whnf
  refine cut_ 184 [(4, .bool true)] [] rfl ⟨.inl rfl, trivial⟩ trivial ?_
  conv => whnf
  injection H with H; subst H
  exact ret_fz [] (rtA_eq rfl)
  conv => whnf
  refine Br.f ff_ ?_
  conv => whnf
  refine Br.f ff_ ?_
  conv => whnf
  refine Br.f ff_ ?_
  conv => whnf
  refine Br.f ff_ ?_
  conv => whnf
  refine Br.f ff_ ?_
  conv => whnf
  refine br_d H (fun c H => ?_) (fun c H => ?_)
  conv => whnf
  refine Br.t ft_ ?_
  conv => whnf
  refine Br.t ft_ ?_
  conv => whnf
  refine Br.t ft_ ?_
  conv => whnf
  refine Br.t ft_ ?_
  conv => whnf
  refine Br.f ff_ ?_
  conv => whnf
  refine Br.t ft_ ?_
  conv => whnf
  refine Br.f ff_ ?_
  conv => whnf
  refine cut_ 184 [(4, .bool (Op.bytesLess a0_1.toList a1_1.toList))] [] rfl ⟨.inl rfl, trivial⟩ trivial ?_
  conv => whnf
  injection H with H; subst H
  exact ret_fz [] (rtA_eq rfl)
  conv => whnf
  refine Br.f ff_ ?_
  conv => whnf
  refine Br.f ff_ ?_
  conv => whnf
  refine Br.f ff_ ?_
  conv => whnf
  refine Br.f ff_ ?_
  conv => whnf
  refine Br.f ff_ ?_
  conv => whnf
  refine Br.f ff_ ?_
  conv => whnf
  refine Br.f ff_ ?_
  conv => whnf
  refine cut_ 184 [(4, .bool false)] [] rfl ⟨.inl rfl, trivial⟩ trivial ?_
  conv => whnf
  injection H with H; subst H
  exact ret_fz [] (rtA_eq rfl)
theorem spec_l3Foe.l0_lp {F : (Exit → St → Prop) → St → Prop} {hv : List Tmp} {Q : Exit → St → Prop} {σ : St} {r : (List ByteArray) × (List S_impl_PlantFoe) × (List S_impl_PlantPlace) × (List S_impl_PlantValve) × Int} {k : Nat} {a0_0 : List ByteArray} {a0_1 : List S_impl_PlantFoe} {a0_2 : List S_impl_PlantPlace} {a0_3 : List S_impl_PlantValve} {l1 : List ByteArray} {x7 : Int} (H : spec_l3Foe.l0 k a0_0 a0_1 a0_2 a0_3 l1 x7 = some r) (rn : List (Option Nat)) (h1 : Fits σ σ [] [(7, .int .i64 x7)] [] [] rn)
    (h2 : ∀ (k0 : Nat) (x7 : Int), k0 < k + 1 → spec_l3Foe.l0 k0 a0_0 a0_1 a0_2 a0_3 l1 x7 = some r → headN σ hv [] [(7, .int .i64 x7)] [] [] (F (fun e σ' => match e with | .normal => ∃ (y : Nat × Int) (rn : List (Option Nat)), (spec_l3Foe.l0 y.1 a0_0 a0_1 a0_2 a0_3 l1 y.2 = some r ∧ y.1 < k + 1) ∧ y.1 < k0 ∧ Fits σ σ' [] [(7, .int .i64 y.2)] [] [] rn | e => Q e σ'))) : Lp F hv Q σ := by
  unfold Lp
  refine ⟨Nat × Int, fun x => spec_l3Foe.l0 x.1 a0_0 a0_1 a0_2 a0_3 l1 x.2 = some r ∧ x.1 < k + 1, fun x => x.1, [], fun x => [(7, .int .i64 x.2)], fun x => [], fun x => [], ⟨(k, x7), rn, ⟨H, Nat.lt_succ_self _⟩, h1⟩, ?_⟩
  rintro ⟨k, x7⟩ ⟨H, hk⟩
  exact h2 k x7 hk H
theorem spec_l3Foe.l1_lp {F : (Exit → St → Prop) → St → Prop} {hv : List Tmp} {Q : Exit → St → Prop} {σ : St} {r : (List ByteArray) × (List S_impl_PlantFoe) × (List S_impl_PlantPlace) × (List S_impl_PlantValve) × Int} {k : Nat} {a0_0 : List ByteArray} {a0_1 : List S_impl_PlantFoe} {a0_2 : List S_impl_PlantPlace} {a0_3 : List S_impl_PlantValve} {l1 : List ByteArray} {x7_1 : Int} (H : spec_l3Foe.l1 k a0_0 a0_1 a0_2 a0_3 l1 x7_1 = some r) (rn : List (Option Nat)) (h1 : Fits σ σ [] [(7, .int .i64 x7_1)] [] [] rn)
    (h2 : ∀ (k0 : Nat) (x7_1 : Int), k0 < k + 1 → spec_l3Foe.l1 k0 a0_0 a0_1 a0_2 a0_3 l1 x7_1 = some r → headN σ hv [] [(7, .int .i64 x7_1)] [] [] (F (fun e σ' => match e with | .normal => ∃ (y : Nat × Int) (rn : List (Option Nat)), (spec_l3Foe.l1 y.1 a0_0 a0_1 a0_2 a0_3 l1 y.2 = some r ∧ y.1 < k + 1) ∧ y.1 < k0 ∧ Fits σ σ' [] [(7, .int .i64 y.2)] [] [] rn | e => Q e σ'))) : Lp F hv Q σ := by
  unfold Lp
  refine ⟨Nat × Int, fun x => spec_l3Foe.l1 x.1 a0_0 a0_1 a0_2 a0_3 l1 x.2 = some r ∧ x.1 < k + 1, fun x => x.1, [], fun x => [(7, .int .i64 x.2)], fun x => [], fun x => [], ⟨(k, x7_1), rn, ⟨H, Nat.lt_succ_self _⟩, h1⟩, ?_⟩
  rintro ⟨k, x7_1⟩ ⟨H, hk⟩
  exact h2 k x7_1 hk H
theorem spec_l3Foe.ac {k : Nat} {a0_0 : List ByteArray} {a0_1 : List S_impl_PlantFoe} {a0_2 : List S_impl_PlantPlace} {a0_3 : List S_impl_PlantValve} {l1 : List ByteArray} {r : (List ByteArray) × (List S_impl_PlantFoe) × (List S_impl_PlantPlace) × (List S_impl_PlantValve) × Int} (H : spec_l3Foe.f k a0_0 a0_1 a0_2 a0_3 l1 = some r) : ACalls Try.prog G 216 [] [.agg [(sv_str a0_0), (sv_S_impl_PlantFoe a0_1), (sv_S_impl_PlantPlace a0_2), (sv_S_impl_PlantValve a0_3)], (sv_str l1)] [] (.tup [.agg [(sv_str r.1), (sv_S_impl_PlantFoe r.2.1), (sv_S_impl_PlantPlace r.2.2.1), (sv_S_impl_PlantValve r.2.2.2.1)], .int .i64 r.2.2.2.2]) := by
  refine acalls_of tok hP Try.func216 rfl (by kernel_rfl) [.cell 4 44, .tmp 5] rfl (by kernel_rfl) (Nat.le_of_ble_eq_true rfl) (.l .n (.l (.c .n (.l (.c .n .n) .n)) (.l (.c .n .n) (.l (.c .n (.l (.c .n .n) .n)) (.l (.c .n .n) (.l .n (.l (.c .n .n) (.l .n (.l (.l (.c .n .n) .n) (.c .n .n)))))))))) rfl ?_
  unfold spec_l3Foe.f at H
  conv => whnf
  refine br_nd H (fun c H => ?_) (fun c H => ?_)
  conv => whnf
  refine Br.f ff_ ?_
  conv => whnf
  refine Nd.mk (by decide) ?_
  conv => whnf
  refine nd_ H (fun c H => ?_)
  conv => whnf
  refine El.mk (rdm_en_str _ _ nf_ nf_) ?_
  conv => whnf
  refine Br.f ff_ ?_
  conv => whnf
  refine Br.f ff_ ?_
  conv => whnf
  revert H; refine bind_elim (fun t329 A H => ?_)
  refine call_mk (spec_l2NameOk.ac A) (avAL_cons (avA_shut' rfl) (avAL_nil)) (Or.inl rfl) rfl rfl (Nat.le_of_ble_eq_true rfl) ?_
  conv => whnf
  refine Br.f ff_ ?_
  conv => whnf
  refine Br.f ff_ ?_
  conv => whnf
  refine br_nt H (fun c H => ?_) (fun c H => ?_)
  conv => whnf
  refine Br.f ff_ ?_
  conv => whnf
  refine Nd.mk (by decide) ?_
  conv => whnf
  refine nd_ H (fun c H => ?_)
  conv => whnf
  refine El.mk (rdm_en_str _ _ nf_ nf_) ?_
  conv => whnf
  refine Br.f ff_ ?_
  conv => whnf
  refine Br.f ff_ ?_
  conv => whnf
  revert H; refine bind_elim (fun t330 A H => ?_)
  refine call_mk (spec_l2NameOk.ac A) (avAL_cons (avA_shut' rfl) (avAL_nil)) (Or.inl rfl) rfl rfl (Nat.le_of_ble_eq_true rfl) ?_
  conv => whnf
  refine Br.f ff_ ?_
  conv => whnf
  refine Br.f ff_ ?_
  conv => whnf
  refine br_nt H (fun c H => ?_) (fun c H => ?_)
  conv => whnf
  refine Br.f ff_ ?_
  conv => whnf
  refine Nd.mk (by decide) ?_
  conv => whnf
  refine Nd.mk nf_ ?_
  conv => whnf
  refine El.mk (rdm_en_str _ _ nf_ nf_) ?_
  conv => whnf
  refine Br.f ff_ ?_
  conv => whnf
  refine Br.f ff_ ?_
  conv => whnf
  refine Br.f ff_ ?_
  conv => whnf
  refine Nd.mk (by decide) ?_
  conv => whnf
  refine Nd.mk nf_ ?_
  conv => whnf
  refine El.mk (rdm_en_str _ _ nf_ nf_) ?_
  conv => whnf
  refine Br.f ff_ ?_
  conv => whnf
  refine Br.f ff_ ?_
  conv => whnf
  refine Br.f ff_ ?_
  conv => whnf
  refine cut_ 232 [(1, (sv_str l1)), (2, .bp 0 0), (4, .bp 8 0), (33, .bool (decide ((rdOf ByteArray.empty l1 1).toList = (rdOf ByteArray.empty l1 2).toList)))] [(0, .box [(sv_str a0_0), (sv_S_impl_PlantFoe a0_1), (sv_S_impl_PlantPlace a0_2), (sv_S_impl_PlantValve a0_3)]), (8, .box [.nil, .nil, .nil, .nil])] rfl ⟨.inl rfl, ⟨.inl rfl, ⟨.inl rfl, ⟨.inl rfl, trivial⟩⟩⟩⟩ ⟨rfl, ⟨rfl, trivial⟩⟩ ?_
  conv => whnf
  refine br_d H (fun c H => ?_) (fun c H => ?_)
  conv => whnf
  refine cut_ 256 [(4, .bp 8 0), (5, .int .i64 3)] [(8, .box [(sv_str a0_0), (sv_S_impl_PlantFoe a0_1), (sv_S_impl_PlantPlace a0_2), (sv_S_impl_PlantValve a0_3)])] rfl ⟨.inl rfl, ⟨.inl rfl, trivial⟩⟩ ⟨rfl, trivial⟩ ?_
  conv => whnf
  injection H with H; subst H
  exact ret_tup [] (rtAL_cons (rtA_agg (rtL_cons (rt_eq rfl) (rtL_cons (rt_eq rfl) (rtL_cons (rt_eq rfl) (rtL_cons (rt_eq rfl) (rtL_nil)))))) (rtAL_cons (rtA_eq rfl) (rtAL_nil)))
  conv => whnf
  refine Nd.mk (by decide) ?_
  conv => whnf
  refine Nd.mk nf_ ?_
  conv => whnf
  refine El.mk (rdm_en_str _ _ nf_ nf_) ?_
  conv => whnf
  refine Nd.mk (by decide) ?_
  conv => whnf
  refine Nd.mk nf_ ?_
  conv => whnf
  refine El.mk (rdm_en_str _ _ nf_ nf_) ?_
  conv => whnf
  revert H; refine bind_elim (fun t331 A H => ?_)
  refine call_mk (spec_l2Foes.ac A) (avAL_cons (avA_agg (avL_cons (av_shut' rfl) (avL_cons (av_shut' rfl) (avL_cons (av_shut' rfl) (avL_cons (av_shut' rfl) (avL_nil)))))) (avAL_cons (avA_shut' rfl) (avAL_cons (avA_shut' rfl) (avAL_nil)))) (Or.inl rfl) rfl rfl (Nat.le_of_ble_eq_true rfl) ?_
  conv => whnf
  refine cut_ 296 [(1, (sv_str l1)), (2, .bp 0 0), (4, .bp 8 0), (42, .bool t331)] [(0, .box [(sv_str a0_0), (sv_S_impl_PlantFoe a0_1), (sv_S_impl_PlantPlace a0_2), (sv_S_impl_PlantValve a0_3)]), (8, .box [.nil, .nil, .nil, .nil])] rfl ⟨.inl rfl, ⟨.inl rfl, ⟨.inl rfl, ⟨.inl rfl, trivial⟩⟩⟩⟩ ⟨rfl, ⟨rfl, trivial⟩⟩ ?_
  conv => whnf
  refine br_t H (fun c H => ?_) (fun c H => ?_)
  conv => whnf
  injection H with H; subst H
  exact ret_tup [] (rtAL_cons (rtA_agg (rtL_cons (rt_eq rfl) (rtL_cons (rt_eq rfl) (rtL_cons (rt_eq rfl) (rtL_cons (rt_eq rfl) (rtL_nil)))))) (rtAL_cons (rtA_eq rfl) (rtAL_nil)))
  conv => whnf
  refine Nd.mk (by decide) ?_
  conv => whnf
  refine Nd.mk nf_ ?_
  conv => whnf
  refine El.mk (rdm_en_str _ _ nf_ nf_) ?_
  conv => whnf
  revert H; refine bind_elim (fun t332 A H => ?_)
  refine call_mk (spec_l2Has.ac A) (avAL_cons (avA_shut' rfl) (avAL_cons (avA_shut' rfl) (avAL_nil))) (Or.inl rfl) rfl rfl (Nat.le_of_ble_eq_true rfl) ?_
  conv => whnf
  refine br_nt H (fun c H => ?_) (fun c H => ?_)
  conv => whnf
  refine Br.f ff_ ?_
  conv => whnf
  refine Br.f ff_ ?_
  conv => whnf
  refine Br.f ff_ ?_
  conv => whnf
  refine Nd.mk (by decide) ?_
  conv => whnf
  refine Nd.mk nf_ ?_
  conv => whnf
  refine El.mk (rdm_en_str _ _ nf_ nf_) ?_
  conv => whnf
  refine Br.f ff_ ?_
  conv => whnf
  refine Br.f ff_ ?_
  conv => whnf
  revert H; refine bind_elim (fun t333 A H => ?_)
  refine call_mk (spec_l2Has.ac A) (avAL_cons (avA_shut' rfl) (avAL_cons (avA_shut' rfl) (avAL_nil))) (Or.inl rfl) rfl rfl (Nat.le_of_ble_eq_true rfl) ?_
  conv => whnf
  refine Br.f ff_ ?_
  conv => whnf
  refine Br.f ff_ ?_
  conv => whnf
  refine cut_ 424 [(1, (sv_str l1)), (2, .bp 0 0), (4, .bp 8 0), (59, .bool (!t333))] [(0, .box [(sv_str a0_0), (sv_S_impl_PlantFoe a0_1), (sv_S_impl_PlantPlace a0_2), (sv_S_impl_PlantValve a0_3)]), (8, .box [.nil, .nil, .nil, .nil])] rfl ⟨.inl rfl, ⟨.inl rfl, ⟨.inl rfl, ⟨.inl rfl, trivial⟩⟩⟩⟩ ⟨rfl, ⟨rfl, trivial⟩⟩ ?_
  conv => whnf
  refine br_nt H (fun c H => ?_) (fun c H => ?_)
  conv => whnf
  refine cut_ 456 [(1, (sv_str l1)), (2, .bp 0 0), (4, .bp 8 0), (64, .bool (decide ((a0_1.length : Int) ≥ 12)))] [(0, .box [(sv_str a0_0), (sv_S_impl_PlantFoe a0_1), (sv_S_impl_PlantPlace a0_2), (sv_S_impl_PlantValve a0_3)]), (8, .box [.nil, .nil, .nil, .nil])] rfl ⟨.inl rfl, ⟨.inl rfl, ⟨.inl rfl, ⟨.inl rfl, trivial⟩⟩⟩⟩ ⟨rfl, ⟨rfl, trivial⟩⟩ ?_
  conv => whnf
  refine br_d H (fun c H => ?_) (fun c H => ?_)
  conv => whnf
  injection H with H; subst H
  exact ret_tup [] (rtAL_cons (rtA_agg (rtL_cons (rt_eq rfl) (rtL_cons (rt_eq rfl) (rtL_cons (rt_eq rfl) (rtL_cons (rt_eq rfl) (rtL_nil)))))) (rtAL_cons (rtA_eq rfl) (rtAL_nil)))
  conv => whnf
  refine Nd.mk (by decide) ?_
  conv => whnf
  refine Nd.mk nf_ ?_
  conv => whnf
  refine El.mk (rdm_en_str _ _ nf_ nf_) ?_
  conv => whnf
  refine Nd.mk (by decide) ?_
  conv => whnf
  refine Nd.mk nf_ ?_
  conv => whnf
  refine El.mk (rdm_en_str _ _ nf_ nf_) ?_
  conv => whnf
  refine cut_ 568 [(1, (sv_str l1)), (2, .bp 0 0), (4, .bp 8 0), (6, .bp 512 0), (77, .bool (Op.bytesLess (rdOf ByteArray.empty l1 2).toList (rdOf ByteArray.empty l1 1).toList))] [(0, .box [(sv_str a0_0), (sv_S_impl_PlantFoe a0_1), (sv_S_impl_PlantPlace a0_2), (sv_S_impl_PlantValve a0_3)]), (8, .box [.nil, .nil, .nil, .nil]), (512, .box [.str (rdOf ByteArray.empty l1 1), .str (rdOf ByteArray.empty l1 2)])] rfl ⟨.inl rfl, ⟨.inl rfl, ⟨.inl rfl, ⟨.inl rfl, ⟨.inl rfl, trivial⟩⟩⟩⟩⟩ ⟨rfl, ⟨rfl, ⟨rfl, trivial⟩⟩⟩ ?_
  conv => whnf
  refine br_t H (fun c H => ?_) (fun c H => ?_)
  conv => whnf
  refine Nd.mk (by decide) ?_
  conv => whnf
  refine Nd.mk nf_ ?_
  conv => whnf
  refine El.mk (rdm_en_str _ _ nf_ nf_) ?_
  conv => whnf
  refine Nd.mk (by decide) ?_
  conv => whnf
  refine Nd.mk nf_ ?_
  conv => whnf
  refine El.mk (rdm_en_str _ _ nf_ nf_) ?_
  conv => whnf
  refine spec_l3Foe.l0_lp (a0_0 := a0_0) (a0_1 := a0_1) (a0_2 := a0_2) (a0_3 := a0_3) (l1 := l1) (k := k) H [] (fits_of ⟨.inl ⟨rfl, rfl⟩, trivial⟩ trivial fi_ trivial rfl) ?_
  intro k x7 hk H; rcases k with _ | k; exact none_elim H; rw [spec_l3Foe.l0] at H; conv => whnf
  refine br_d H (fun c H => ?_) (fun c H => ?_)
  conv => whnf
  refine Br.t ft_ ?_
  conv => whnf
  refine Br.t ft_ ?_
  conv => whnf
  refine Br.t ft_ ?_
  conv => whnf
  refine nd_ H (fun c H => ?_)
  conv => whnf
  refine Nd.mk nf_ ?_
  conv => whnf
  refine El.mk (rdm_en_S_impl_PlantFoe _ _ nf_ nf_) ?_
  conv => whnf
  refine Br.t ft_ ?_
  conv => whnf
  refine Br.t ft_ ?_
  conv => whnf
  refine Br.t ft_ ?_
  conv => whnf
  revert H; refine bind_elim (fun t334 A H => ?_)
  refine call_mk (spec_l2Before.ac A) (avAL_cons (avA_agg (avL_cons (av_shut' rfl) (avL_cons (av_shut' rfl) (avL_nil)))) (avAL_cons (avA_agg (avL_cons (av_shut' rfl) (avL_cons (av_shut' rfl) (avL_nil)))) (avAL_nil))) (Or.inl rfl) rfl rfl (Nat.le_of_ble_eq_true rfl) ?_
  conv => whnf
  refine Br.t ft_ ?_
  conv => whnf
  refine cut_ 752 [(2, .bp 0 0), (4, .bp 8 0), (6, .bp 512 0), (7, .int .i64 x7), (98, .bool t334)] [(0, .box [(sv_str a0_0), (sv_S_impl_PlantFoe a0_1), (sv_S_impl_PlantPlace a0_2), (sv_S_impl_PlantValve a0_3)]), (8, .box [.nil, .nil, .nil, .nil]), (512, .box [.str (rdOf ByteArray.empty l1 2), .str (rdOf ByteArray.empty l1 1)])] rfl ⟨.inl rfl, ⟨.inl rfl, ⟨.inl rfl, ⟨.inl rfl, ⟨.inl rfl, trivial⟩⟩⟩⟩⟩ ⟨rfl, ⟨rfl, ⟨rfl, trivial⟩⟩⟩ ?_
  conv => whnf
  refine br_t H (fun c H => ?_) (fun c H => ?_)
  conv => whnf
  exact ⟨(k, wrap64 (x7 + 1)), [], ⟨H, lt_⟩, lt_, (fits_of ⟨.inl ⟨rfl, rfl⟩, trivial⟩ trivial fi_ trivial rfl)⟩
  conv => whnf
  refine Or.inl ?_
  conv => whnf
  refine Nd.mk nf_ ?_
  conv => whnf
  refine nd_ H (fun c H => ?_)
  conv => whnf
  refine nd_ H (fun c H => ?_)
  conv => whnf
  refine Or.inl ?_
  conv => whnf
  refine nd_ H (fun c H => ?_)
  conv => whnf
  refine Nd.mk nf_ ?_
  conv => whnf
  refine Nd.mk nf_ ?_
  conv => whnf
  refine nd_ H (fun c H => ?_)
  conv => whnf
  refine cut_ 880 [(2, .bp 0 0), (4, .bp 8 0)] [(0, .box [(sv_str a0_0), .own 856 (0 + (x7).toNat + 1 + (a0_1.length - (x7).toNat)), (sv_S_impl_PlantPlace a0_2), (sv_S_impl_PlantValve a0_3)]), (8, .box [.nil, .nil, .nil, .nil]), (856, .arr 168 2 ((((([] : List S_impl_PlantFoe) ++ (a0_1.take (x7).toNat)) ++ ([(⟨rdOf ByteArray.empty l1 2, rdOf ByteArray.empty l1 1⟩ : S_impl_PlantFoe)] : List S_impl_PlantFoe)) ++ (a0_1.drop (x7).toNat)).map en_S_impl_PlantFoe))] rfl ⟨.inl rfl, ⟨.inl rfl, trivial⟩⟩ ⟨rfl, ⟨rfl, ⟨fm_, trivial⟩⟩⟩ ?_
  conv => whnf
  injection H with H; subst H
  exact ret_tup [856] (rtAL_cons (rtA_agg (rtL_cons (rt_eq rfl) (rtL_cons (rt_fzD rfl lm_ lm_ rfl) (rtL_cons (rt_eq rfl) (rtL_cons (rt_eq rfl) (rtL_nil)))))) (rtAL_cons (rtA_eq rfl) (rtAL_nil)))
  conv => whnf
  refine Br.f ff_ ?_
  conv => whnf
  refine Br.f ff_ ?_
  conv => whnf
  refine Br.f ff_ ?_
  conv => whnf
  refine Br.f ff_ ?_
  conv => whnf
  refine Br.f ff_ ?_
  conv => whnf
  refine Br.f ff_ ?_
  conv => whnf
  refine Br.f ff_ ?_
  conv => whnf
  refine cut_ 752 [(2, .bp 0 0), (4, .bp 8 0), (6, .bp 512 0), (7, .int .i64 x7), (98, .bool false)] [(0, .box [(sv_str a0_0), (sv_S_impl_PlantFoe a0_1), (sv_S_impl_PlantPlace a0_2), (sv_S_impl_PlantValve a0_3)]), (8, .box [.nil, .nil, .nil, .nil]), (512, .box [.str (rdOf ByteArray.empty l1 2), .str (rdOf ByteArray.empty l1 1)])] rfl ⟨.inl rfl, ⟨.inl rfl, ⟨.inl rfl, ⟨.inl rfl, ⟨.inl rfl, trivial⟩⟩⟩⟩⟩ ⟨rfl, ⟨rfl, ⟨rfl, trivial⟩⟩⟩ ?_
  conv => whnf
  refine Br.f rfl ?_
  conv => whnf
  refine Or.inl ?_
  conv => whnf
  refine nd_ H (fun c H => ?_)
  conv => whnf
  refine nd_ H (fun c H => ?_)
  conv => whnf
  refine nd_ H (fun c H => ?_)
  conv => whnf
  refine Or.inl ?_
  conv => whnf
  refine nd_ H (fun c H => ?_)
  conv => whnf
  refine Nd.mk nf_ ?_
  conv => whnf
  refine Nd.mk nf_ ?_
  conv => whnf
  refine nd_ H (fun c H => ?_)
  conv => whnf
  refine cut_ 880 [(2, .bp 0 0), (4, .bp 8 0)] [(0, .box [(sv_str a0_0), .own 856 (0 + (x7).toNat + 1 + (a0_1.length - (x7).toNat)), (sv_S_impl_PlantPlace a0_2), (sv_S_impl_PlantValve a0_3)]), (8, .box [.nil, .nil, .nil, .nil]), (856, .arr 168 2 ((((([] : List S_impl_PlantFoe) ++ (a0_1.take (x7).toNat)) ++ ([(⟨rdOf ByteArray.empty l1 2, rdOf ByteArray.empty l1 1⟩ : S_impl_PlantFoe)] : List S_impl_PlantFoe)) ++ (a0_1.drop (x7).toNat)).map en_S_impl_PlantFoe))] rfl ⟨.inl rfl, ⟨.inl rfl, trivial⟩⟩ ⟨rfl, ⟨rfl, ⟨fm_, trivial⟩⟩⟩ ?_
  conv => whnf
  injection H with H; subst H
  exact ret_tup [856] (rtAL_cons (rtA_agg (rtL_cons (rt_eq rfl) (rtL_cons (rt_fzD rfl lm_ lm_ rfl) (rtL_cons (rt_eq rfl) (rtL_cons (rt_eq rfl) (rtL_nil)))))) (rtAL_cons (rtA_eq rfl) (rtAL_nil)))
  conv => whnf
  refine spec_l3Foe.l1_lp (a0_0 := a0_0) (a0_1 := a0_1) (a0_2 := a0_2) (a0_3 := a0_3) (l1 := l1) (k := k) H [] (fits_of ⟨.inl ⟨rfl, rfl⟩, trivial⟩ trivial fi_ trivial rfl) ?_
  intro k x7_1 hk H; rcases k with _ | k; exact none_elim H; rw [spec_l3Foe.l1] at H; conv => whnf
  refine br_d H (fun c H => ?_) (fun c H => ?_)
  conv => whnf
  refine Br.t ft_ ?_
  conv => whnf
  refine Br.t ft_ ?_
  conv => whnf
  refine Br.t ft_ ?_
  conv => whnf
  refine nd_ H (fun c H => ?_)
  conv => whnf
  refine Nd.mk nf_ ?_
  conv => whnf
  refine El.mk (rdm_en_S_impl_PlantFoe _ _ nf_ nf_) ?_
  conv => whnf
  refine Br.t ft_ ?_
  conv => whnf
  refine Br.t ft_ ?_
  conv => whnf
  refine Br.t ft_ ?_
  conv => whnf
  revert H; refine bind_elim (fun t335 A H => ?_)
  refine call_mk (spec_l2Before.ac A) (avAL_cons (avA_agg (avL_cons (av_shut' rfl) (avL_cons (av_shut' rfl) (avL_nil)))) (avAL_cons (avA_agg (avL_cons (av_shut' rfl) (avL_cons (av_shut' rfl) (avL_nil)))) (avAL_nil))) (Or.inl rfl) rfl rfl (Nat.le_of_ble_eq_true rfl) ?_
  conv => whnf
  refine Br.t ft_ ?_
  conv => whnf
  refine cut_ 688 [(2, .bp 0 0), (4, .bp 8 0), (6, .bp 512 0), (7, .int .i64 x7_1), (98, .bool t335)] [(0, .box [(sv_str a0_0), (sv_S_impl_PlantFoe a0_1), (sv_S_impl_PlantPlace a0_2), (sv_S_impl_PlantValve a0_3)]), (8, .box [.nil, .nil, .nil, .nil]), (512, .box [.str (rdOf ByteArray.empty l1 1), .str (rdOf ByteArray.empty l1 2)])] rfl ⟨.inl rfl, ⟨.inl rfl, ⟨.inl rfl, ⟨.inl rfl, ⟨.inl rfl, trivial⟩⟩⟩⟩⟩ ⟨rfl, ⟨rfl, ⟨rfl, trivial⟩⟩⟩ ?_
  conv => whnf
  refine br_t H (fun c H => ?_) (fun c H => ?_)
  conv => whnf
  exact ⟨(k, wrap64 (x7_1 + 1)), [], ⟨H, lt_⟩, lt_, (fits_of ⟨.inl ⟨rfl, rfl⟩, trivial⟩ trivial fi_ trivial rfl)⟩
  conv => whnf
  refine Or.inl ?_
  conv => whnf
  refine Nd.mk nf_ ?_
  conv => whnf
  refine nd_ H (fun c H => ?_)
  conv => whnf
  refine nd_ H (fun c H => ?_)
  conv => whnf
  refine Or.inl ?_
  conv => whnf
  refine nd_ H (fun c H => ?_)
  conv => whnf
  refine Nd.mk nf_ ?_
  conv => whnf
  refine Nd.mk nf_ ?_
  conv => whnf
  refine nd_ H (fun c H => ?_)
  conv => whnf
  refine cut_ 816 [(2, .bp 0 0), (4, .bp 8 0)] [(0, .box [(sv_str a0_0), .own 792 (0 + (x7_1).toNat + 1 + (a0_1.length - (x7_1).toNat)), (sv_S_impl_PlantPlace a0_2), (sv_S_impl_PlantValve a0_3)]), (8, .box [.nil, .nil, .nil, .nil]), (792, .arr 168 2 ((((([] : List S_impl_PlantFoe) ++ (a0_1.take (x7_1).toNat)) ++ ([(⟨rdOf ByteArray.empty l1 1, rdOf ByteArray.empty l1 2⟩ : S_impl_PlantFoe)] : List S_impl_PlantFoe)) ++ (a0_1.drop (x7_1).toNat)).map en_S_impl_PlantFoe))] rfl ⟨.inl rfl, ⟨.inl rfl, trivial⟩⟩ ⟨rfl, ⟨rfl, ⟨fm_, trivial⟩⟩⟩ ?_
  conv => whnf
  injection H with H; subst H
  exact ret_tup [792] (rtAL_cons (rtA_agg (rtL_cons (rt_eq rfl) (rtL_cons (rt_fzD rfl lm_ lm_ rfl) (rtL_cons (rt_eq rfl) (rtL_cons (rt_eq rfl) (rtL_nil)))))) (rtAL_cons (rtA_eq rfl) (rtAL_nil)))
  conv => whnf
  refine Br.f ff_ ?_
  conv => whnf
  refine Br.f ff_ ?_
  conv => whnf
  refine Br.f ff_ ?_
  conv => whnf
  refine Br.f ff_ ?_
  conv => whnf
  refine Br.f ff_ ?_
  conv => whnf
  refine Br.f ff_ ?_
  conv => whnf
  refine Br.f ff_ ?_
  conv => whnf
  refine cut_ 688 [(2, .bp 0 0), (4, .bp 8 0), (6, .bp 512 0), (7, .int .i64 x7_1), (98, .bool false)] [(0, .box [(sv_str a0_0), (sv_S_impl_PlantFoe a0_1), (sv_S_impl_PlantPlace a0_2), (sv_S_impl_PlantValve a0_3)]), (8, .box [.nil, .nil, .nil, .nil]), (512, .box [.str (rdOf ByteArray.empty l1 1), .str (rdOf ByteArray.empty l1 2)])] rfl ⟨.inl rfl, ⟨.inl rfl, ⟨.inl rfl, ⟨.inl rfl, ⟨.inl rfl, trivial⟩⟩⟩⟩⟩ ⟨rfl, ⟨rfl, ⟨rfl, trivial⟩⟩⟩ ?_
  conv => whnf
  refine Br.f rfl ?_
  conv => whnf
  refine Or.inl ?_
  conv => whnf
  refine nd_ H (fun c H => ?_)
  conv => whnf
  refine nd_ H (fun c H => ?_)
  conv => whnf
  refine nd_ H (fun c H => ?_)
  conv => whnf
  refine Or.inl ?_
  conv => whnf
  refine nd_ H (fun c H => ?_)
  conv => whnf
  refine Nd.mk nf_ ?_
  conv => whnf
  refine Nd.mk nf_ ?_
  conv => whnf
  refine nd_ H (fun c H => ?_)
  conv => whnf
  refine cut_ 816 [(2, .bp 0 0), (4, .bp 8 0)] [(0, .box [(sv_str a0_0), .own 792 (0 + (x7_1).toNat + 1 + (a0_1.length - (x7_1).toNat)), (sv_S_impl_PlantPlace a0_2), (sv_S_impl_PlantValve a0_3)]), (8, .box [.nil, .nil, .nil, .nil]), (792, .arr 168 2 ((((([] : List S_impl_PlantFoe) ++ (a0_1.take (x7_1).toNat)) ++ ([(⟨rdOf ByteArray.empty l1 1, rdOf ByteArray.empty l1 2⟩ : S_impl_PlantFoe)] : List S_impl_PlantFoe)) ++ (a0_1.drop (x7_1).toNat)).map en_S_impl_PlantFoe))] rfl ⟨.inl rfl, ⟨.inl rfl, trivial⟩⟩ ⟨rfl, ⟨rfl, ⟨fm_, trivial⟩⟩⟩ ?_
  conv => whnf
  injection H with H; subst H
  exact ret_tup [792] (rtAL_cons (rtA_agg (rtL_cons (rt_eq rfl) (rtL_cons (rt_fzD rfl lm_ lm_ rfl) (rtL_cons (rt_eq rfl) (rtL_cons (rt_eq rfl) (rtL_nil)))))) (rtAL_cons (rtA_eq rfl) (rtAL_nil)))
  conv => whnf
  refine cut_ 448 [(4, .bp 8 0), (5, .int .i64 5)] [(8, .box [(sv_str a0_0), (sv_S_impl_PlantFoe a0_1), (sv_S_impl_PlantPlace a0_2), (sv_S_impl_PlantValve a0_3)])] rfl ⟨.inl rfl, ⟨.inl rfl, trivial⟩⟩ ⟨rfl, trivial⟩ ?_
  conv => whnf
  injection H with H; subst H
  exact ret_tup [] (rtAL_cons (rtA_agg (rtL_cons (rt_eq rfl) (rtL_cons (rt_eq rfl) (rtL_cons (rt_eq rfl) (rtL_cons (rt_eq rfl) (rtL_nil)))))) (rtAL_cons (rtA_eq rfl) (rtAL_nil)))
  conv => whnf
  refine Br.t ft_ ?_
  conv => whnf
  refine Br.t ft_ ?_
  conv => whnf
  refine Br.t ft_ ?_
  conv => whnf
  refine Br.t ft_ ?_
  conv => whnf
  refine Br.t ft_ ?_
  conv => whnf
  refine Br.t ft_ ?_
  conv => whnf
  refine Br.t ft_ ?_
  conv => whnf
  refine cut_ 424 [(1, (sv_str l1)), (2, .bp 0 0), (4, .bp 8 0), (59, .bool true)] [(0, .box [(sv_str a0_0), (sv_S_impl_PlantFoe a0_1), (sv_S_impl_PlantPlace a0_2), (sv_S_impl_PlantValve a0_3)]), (8, .box [.nil, .nil, .nil, .nil])] rfl ⟨.inl rfl, ⟨.inl rfl, ⟨.inl rfl, ⟨.inl rfl, trivial⟩⟩⟩⟩ ⟨rfl, ⟨rfl, trivial⟩⟩ ?_
  conv => whnf
  refine Br.t rfl ?_
  conv => whnf
  refine cut_ 448 [(4, .bp 8 0), (5, .int .i64 5)] [(8, .box [(sv_str a0_0), (sv_S_impl_PlantFoe a0_1), (sv_S_impl_PlantPlace a0_2), (sv_S_impl_PlantValve a0_3)])] rfl ⟨.inl rfl, ⟨.inl rfl, trivial⟩⟩ ⟨rfl, trivial⟩ ?_
  conv => whnf
  injection H with H; subst H
  exact ret_tup [] (rtAL_cons (rtA_agg (rtL_cons (rt_eq rfl) (rtL_cons (rt_eq rfl) (rtL_cons (rt_eq rfl) (rtL_cons (rt_eq rfl) (rtL_nil)))))) (rtAL_cons (rtA_eq rfl) (rtAL_nil)))
  conv => whnf
  refine Br.t ft_ ?_
  conv => whnf
  refine Br.t ft_ ?_
  conv => whnf
  refine Br.t ft_ ?_
  conv => whnf
  refine Br.t ft_ ?_
  conv => whnf
  refine Br.t ft_ ?_
  conv => whnf
  refine Br.t ft_ ?_
  conv => whnf
  refine Br.t ft_ ?_
  conv => whnf
  refine cut_ 232 [(1, (sv_str l1)), (2, .bp 0 0), (4, .bp 8 0), (33, .bool true)] [(0, .box [(sv_str a0_0), (sv_S_impl_PlantFoe a0_1), (sv_S_impl_PlantPlace a0_2), (sv_S_impl_PlantValve a0_3)]), (8, .box [.nil, .nil, .nil, .nil])] rfl ⟨.inl rfl, ⟨.inl rfl, ⟨.inl rfl, ⟨.inl rfl, trivial⟩⟩⟩⟩ ⟨rfl, ⟨rfl, trivial⟩⟩ ?_
  conv => whnf
  refine Br.t rfl ?_
  conv => whnf
  refine cut_ 256 [(4, .bp 8 0), (5, .int .i64 3)] [(8, .box [(sv_str a0_0), (sv_S_impl_PlantFoe a0_1), (sv_S_impl_PlantPlace a0_2), (sv_S_impl_PlantValve a0_3)])] rfl ⟨.inl rfl, ⟨.inl rfl, trivial⟩⟩ ⟨rfl, trivial⟩ ?_
  conv => whnf
  injection H with H; subst H
  exact ret_tup [] (rtAL_cons (rtA_agg (rtL_cons (rt_eq rfl) (rtL_cons (rt_eq rfl) (rtL_cons (rt_eq rfl) (rtL_cons (rt_eq rfl) (rtL_nil)))))) (rtAL_cons (rtA_eq rfl) (rtAL_nil)))
  conv => whnf
  refine Br.t ft_ ?_
  conv => whnf
  refine Br.t ft_ ?_
  conv => whnf
  refine Br.t ft_ ?_
  conv => whnf
  refine Br.t ft_ ?_
  conv => whnf
  refine Br.t ft_ ?_
  conv => whnf
  refine Br.t rfl ?_
  conv => whnf
  refine Br.t rfl ?_
  conv => whnf
  refine Br.t rfl ?_
  conv => whnf
  refine Br.t rfl ?_
  conv => whnf
  refine Br.t rfl ?_
  conv => whnf
  refine Br.t rfl ?_
  conv => whnf
  refine Br.t rfl ?_
  conv => whnf
  refine Br.t rfl ?_
  conv => whnf
  refine cut_ 232 [(1, (sv_str l1)), (2, .bp 0 0), (4, .bp 8 0), (33, .bool true)] [(0, .box [(sv_str a0_0), (sv_S_impl_PlantFoe a0_1), (sv_S_impl_PlantPlace a0_2), (sv_S_impl_PlantValve a0_3)]), (8, .box [.nil, .nil, .nil, .nil])] rfl ⟨.inl rfl, ⟨.inl rfl, ⟨.inl rfl, ⟨.inl rfl, trivial⟩⟩⟩⟩ ⟨rfl, ⟨rfl, trivial⟩⟩ ?_
  conv => whnf
  refine Br.t rfl ?_
  conv => whnf
  refine cut_ 256 [(4, .bp 8 0), (5, .int .i64 3)] [(8, .box [(sv_str a0_0), (sv_S_impl_PlantFoe a0_1), (sv_S_impl_PlantPlace a0_2), (sv_S_impl_PlantValve a0_3)])] rfl ⟨.inl rfl, ⟨.inl rfl, trivial⟩⟩ ⟨rfl, trivial⟩ ?_
  conv => whnf
  injection H with H; subst H
  exact ret_tup [] (rtAL_cons (rtA_agg (rtL_cons (rt_eq rfl) (rtL_cons (rt_eq rfl) (rtL_cons (rt_eq rfl) (rtL_cons (rt_eq rfl) (rtL_nil)))))) (rtAL_cons (rtA_eq rfl) (rtAL_nil)))
  conv => whnf
  refine Br.t ft_ ?_
  conv => whnf
  refine Br.t ft_ ?_
  conv => whnf
  refine Br.t ft_ ?_
  conv => whnf
  refine Br.t ft_ ?_
  conv => whnf
  refine Br.t ft_ ?_
  conv => whnf
  refine Br.t rfl ?_
  conv => whnf
  refine Br.t rfl ?_
  conv => whnf
  refine Br.t rfl ?_
  conv => whnf
  refine Br.t rfl ?_
  conv => whnf
  refine Br.t rfl ?_
  conv => whnf
  refine Br.t rfl ?_
  conv => whnf
  refine Br.t rfl ?_
  conv => whnf
  refine Br.t rfl ?_
  conv => whnf
  refine Br.t rfl ?_
  conv => whnf
  refine Br.t rfl ?_
  conv => whnf
  refine Br.t rfl ?_
  conv => whnf
  refine Br.t rfl ?_
  conv => whnf
  refine Br.t rfl ?_
  conv => whnf
  refine Br.t rfl ?_
  conv => whnf
  refine cut_ 232 [(1, (sv_str l1)), (2, .bp 0 0), (4, .bp 8 0), (33, .bool true)] [(0, .box [(sv_str a0_0), (sv_S_impl_PlantFoe a0_1), (sv_S_impl_PlantPlace a0_2), (sv_S_impl_PlantValve a0_3)]), (8, .box [.nil, .nil, .nil, .nil])] rfl ⟨.inl rfl, ⟨.inl rfl, ⟨.inl rfl, ⟨.inl rfl, trivial⟩⟩⟩⟩ ⟨rfl, ⟨rfl, trivial⟩⟩ ?_
  conv => whnf
  refine Br.t rfl ?_
  conv => whnf
  refine cut_ 256 [(4, .bp 8 0), (5, .int .i64 3)] [(8, .box [(sv_str a0_0), (sv_S_impl_PlantFoe a0_1), (sv_S_impl_PlantPlace a0_2), (sv_S_impl_PlantValve a0_3)])] rfl ⟨.inl rfl, ⟨.inl rfl, trivial⟩⟩ ⟨rfl, trivial⟩ ?_
  conv => whnf
  injection H with H; subst H
  exact ret_tup [] (rtAL_cons (rtA_agg (rtL_cons (rt_eq rfl) (rtL_cons (rt_eq rfl) (rtL_cons (rt_eq rfl) (rtL_cons (rt_eq rfl) (rtL_nil)))))) (rtAL_cons (rtA_eq rfl) (rtAL_nil)))
theorem spec_l3Number.l0_lp {F : (Exit → St → Prop) → St → Prop} {hv : List Tmp} {Q : Exit → St → Prop} {σ : St} {r : Int} {k : Nat} {a0 : ByteArray} {x3 : Int} {x4 : Int} (H : spec_l3Number.l0 k a0 x3 x4 = some r) (rn : List (Option Nat)) (h1 : Fits σ σ [] [(3, .int .i64 x3), (4, .int .i64 x4)] [] [] rn)
    (h2 : ∀ (k0 : Nat) (x3 : Int) (x4 : Int), k0 < k + 1 → spec_l3Number.l0 k0 a0 x3 x4 = some r → headN σ hv [] [(3, .int .i64 x3), (4, .int .i64 x4)] [] [] (F (fun e σ' => match e with | .normal => ∃ (y : Nat × Int × Int) (rn : List (Option Nat)), (spec_l3Number.l0 y.1 a0 y.2.1 y.2.2 = some r ∧ y.1 < k + 1) ∧ y.1 < k0 ∧ Fits σ σ' [] [(3, .int .i64 y.2.1), (4, .int .i64 y.2.2)] [] [] rn | e => Q e σ'))) : Lp F hv Q σ := by
  unfold Lp
  refine ⟨Nat × Int × Int, fun x => spec_l3Number.l0 x.1 a0 x.2.1 x.2.2 = some r ∧ x.1 < k + 1, fun x => x.1, [], fun x => [(3, .int .i64 x.2.1), (4, .int .i64 x.2.2)], fun x => [], fun x => [], ⟨(k, x3, x4), rn, ⟨H, Nat.lt_succ_self _⟩, h1⟩, ?_⟩
  rintro ⟨k, x3, x4⟩ ⟨H, hk⟩
  exact h2 k x3 x4 hk H
theorem spec_l3Number.l1_lp {F : (Exit → St → Prop) → St → Prop} {hv : List Tmp} {Q : Exit → St → Prop} {σ : St} {r : Int} {k : Nat} {a0 : ByteArray} {x3_1 : Int} {x4_1 : Int} (H : spec_l3Number.l1 k a0 x3_1 x4_1 = some r) (rn : List (Option Nat)) (h1 : Fits σ σ [] [(3, .int .i64 x3_1), (4, .int .i64 x4_1)] [] [] rn)
    (h2 : ∀ (k0 : Nat) (x3_1 : Int) (x4_1 : Int), k0 < k + 1 → spec_l3Number.l1 k0 a0 x3_1 x4_1 = some r → headN σ hv [] [(3, .int .i64 x3_1), (4, .int .i64 x4_1)] [] [] (F (fun e σ' => match e with | .normal => ∃ (y : Nat × Int × Int) (rn : List (Option Nat)), (spec_l3Number.l1 y.1 a0 y.2.1 y.2.2 = some r ∧ y.1 < k + 1) ∧ y.1 < k0 ∧ Fits σ σ' [] [(3, .int .i64 y.2.1), (4, .int .i64 y.2.2)] [] [] rn | e => Q e σ'))) : Lp F hv Q σ := by
  unfold Lp
  refine ⟨Nat × Int × Int, fun x => spec_l3Number.l1 x.1 a0 x.2.1 x.2.2 = some r ∧ x.1 < k + 1, fun x => x.1, [], fun x => [(3, .int .i64 x.2.1), (4, .int .i64 x.2.2)], fun x => [], fun x => [], ⟨(k, x3_1, x4_1), rn, ⟨H, Nat.lt_succ_self _⟩, h1⟩, ?_⟩
  rintro ⟨k, x3_1, x4_1⟩ ⟨H, hk⟩
  exact h2 k x3_1 x4_1 hk H
theorem spec_l3Number.ac {k : Nat} {a0 : ByteArray} {r : Int} (H : spec_l3Number.f k a0 = some r) : ACalls Try.prog G 227 [] [.str a0] [] (.int .i64 r) := by
  refine acalls_of tok hP Try.func227 rfl (by kernel_rfl) [.tmp 2] rfl (by kernel_rfl) (Nat.le_of_ble_eq_true rfl) (.l .n (.l (.c .n (.l (.c .n .n) .n)) (.c .n (.l (.l .n (.l .n (.l (.l (.c .n (.l (.c .n .n) .n)) .n) .n))) .n)))) rfl ?_
  unfold spec_l3Number.f at H
  conv => whnf
  revert H; refine bind_elim (fun t403 A H => ?_)
  refine call_mk (spec_l1In.ac A) (avAL_cons (avA_shut' rfl) (avAL_cons (avA_shut' rfl) (avAL_cons (avA_shut' rfl) (avAL_nil)))) (Or.inl rfl) rfl rfl (Nat.le_of_ble_eq_true rfl) ?_
  conv => whnf
  refine br_nt H (fun c H => ?_) (fun c H => ?_)
  conv => whnf
  refine Br.f ff_ ?_
  conv => whnf
  refine Br.f ff_ ?_
  conv => whnf
  refine Br.f ff_ ?_
  conv => whnf
  refine br_d H (fun c H => ?_) (fun c H => ?_)
  conv => whnf
  refine Br.t ft_ ?_
  conv => whnf
  refine Nd.mk (by decide) ?_
  conv => whnf
  refine nd_ H (fun c H => ?_)
  conv => whnf
  refine Br.t ft_ ?_
  conv => whnf
  refine Br.f ff_ ?_
  conv => whnf
  refine Br.t ft_ ?_
  conv => whnf
  refine Br.f ff_ ?_
  conv => whnf
  refine cut_ 120 [(0, .str a0), (18, .bool (decide ((bt a0 0) = 48)))] [] rfl ⟨.inl rfl, ⟨.inl rfl, trivial⟩⟩ trivial ?_
  conv => whnf
  refine br_d H (fun c H => ?_) (fun c H => ?_)
  conv => whnf
  refine cut_ 128 [(2, .int .i64 (-1))] [] rfl ⟨.inl rfl, trivial⟩ trivial ?_
  conv => whnf
  injection H with H; subst H
  exact ret_fz [] (rtA_eq rfl)
  conv => whnf
  refine cut_ 128 [(0, .str a0), (3, .int .i64 0)] [] rfl ⟨.inl rfl, ⟨.inl rfl, trivial⟩⟩ trivial ?_
  conv => whnf
  refine spec_l3Number.l0_lp (a0 := a0) (k := k) H [] (fits_of ⟨.inl ⟨rfl, rfl⟩, ⟨.inl ⟨rfl, rfl⟩, trivial⟩⟩ trivial fi_ trivial rfl) ?_
  intro k x3 x4 hk H; rcases k with _ | k; exact none_elim H; rw [spec_l3Number.l0] at H; conv => whnf
  refine br_d H (fun c H => ?_) (fun c H => ?_)
  conv => whnf
  refine nd_ H (fun c H => ?_)
  conv => whnf
  refine Nd.mk nf_ ?_
  conv => whnf
  refine br_d H (fun c H => ?_) (fun c H => ?_)
  conv => whnf
  refine Br.t ft_ ?_
  conv => whnf
  refine Br.t ft_ ?_
  conv => whnf
  refine Br.t ft_ ?_
  conv => whnf
  refine Br.t ft_ ?_
  conv => whnf
  refine cut_ 248 [(0, .str a0), (3, .int .i64 x3), (4, .int .i64 x4), (34, .bool true)] [] rfl ⟨.inl rfl, ⟨.inl rfl, ⟨.inl rfl, ⟨.inl rfl, trivial⟩⟩⟩⟩ trivial ?_
  conv => whnf
  refine Br.t rfl ?_
  conv => whnf
  refine cut_ 256 [(2, .int .i64 (-1))] [] rfl ⟨.inl rfl, trivial⟩ trivial ?_
  conv => whnf
  injection H with H; subst H
  exact ret_fz [] (rtA_eq rfl)
  conv => whnf
  refine Br.f ff_ ?_
  conv => whnf
  refine Br.f ff_ ?_
  conv => whnf
  refine Nd.mk nf_ ?_
  conv => whnf
  refine Nd.mk nf_ ?_
  conv => whnf
  refine Br.f ff_ ?_
  conv => whnf
  refine Br.f ff_ ?_
  conv => whnf
  refine cut_ 248 [(0, .str a0), (3, .int .i64 x3), (4, .int .i64 x4), (34, .bool (decide ((bt a0 x4) > 57)))] [] rfl ⟨.inl rfl, ⟨.inl rfl, ⟨.inl rfl, ⟨.inl rfl, trivial⟩⟩⟩⟩ trivial ?_
  conv => whnf
  refine br_d H (fun c H => ?_) (fun c H => ?_)
  conv => whnf
  refine cut_ 256 [(2, .int .i64 (-1))] [] rfl ⟨.inl rfl, trivial⟩ trivial ?_
  conv => whnf
  injection H with H; subst H
  exact ret_fz [] (rtA_eq rfl)
  conv => whnf
  refine Nd.mk nf_ ?_
  conv => whnf
  refine Nd.mk nf_ ?_
  conv => whnf
  exact ⟨(k, wrap64 ((wrap64 ((wrap64 (x3 * 10)) + (wrap64 (bt a0 x4)))) - 48), wrap64 (x4 + 1)), [], ⟨H, lt_⟩, lt_, (fits_of ⟨.inl ⟨rfl, rfl⟩, ⟨.inl ⟨rfl, rfl⟩, trivial⟩⟩ trivial fi_ trivial rfl)⟩
  conv => whnf
  injection H with H; subst H
  exact ret_fz [] (rtA_eq rfl)
  conv => whnf
  refine Br.f ff_ ?_
  conv => whnf
  refine Br.f ff_ ?_
  conv => whnf
  refine Br.f ff_ ?_
  conv => whnf
  refine Br.f ff_ ?_
  conv => whnf
  refine Br.f ff_ ?_
  conv => whnf
  refine cut_ 120 [(0, .str a0), (18, .bool false)] [] rfl ⟨.inl rfl, ⟨.inl rfl, trivial⟩⟩ trivial ?_
  conv => whnf
  refine Br.f rfl ?_
  conv => whnf
  refine cut_ 128 [(0, .str a0), (3, .int .i64 0)] [] rfl ⟨.inl rfl, ⟨.inl rfl, trivial⟩⟩ trivial ?_
  conv => whnf
  refine spec_l3Number.l1_lp (a0 := a0) (k := k) H [] (fits_of ⟨.inl ⟨rfl, rfl⟩, ⟨.inl ⟨rfl, rfl⟩, trivial⟩⟩ trivial fi_ trivial rfl) ?_
  intro k x3_1 x4_1 hk H; rcases k with _ | k; exact none_elim H; rw [spec_l3Number.l1] at H; conv => whnf
  refine br_d H (fun c H => ?_) (fun c H => ?_)
  conv => whnf
  refine nd_ H (fun c H => ?_)
  conv => whnf
  refine Nd.mk nf_ ?_
  conv => whnf
  refine br_d H (fun c H => ?_) (fun c H => ?_)
  conv => whnf
  refine Br.t ft_ ?_
  conv => whnf
  refine Br.t ft_ ?_
  conv => whnf
  refine Br.t ft_ ?_
  conv => whnf
  refine Br.t ft_ ?_
  conv => whnf
  refine cut_ 248 [(0, .str a0), (3, .int .i64 x3_1), (4, .int .i64 x4_1), (34, .bool true)] [] rfl ⟨.inl rfl, ⟨.inl rfl, ⟨.inl rfl, ⟨.inl rfl, trivial⟩⟩⟩⟩ trivial ?_
  conv => whnf
  refine Br.t rfl ?_
  conv => whnf
  refine cut_ 256 [(2, .int .i64 (-1))] [] rfl ⟨.inl rfl, trivial⟩ trivial ?_
  conv => whnf
  injection H with H; subst H
  exact ret_fz [] (rtA_eq rfl)
  conv => whnf
  refine Br.f ff_ ?_
  conv => whnf
  refine Br.f ff_ ?_
  conv => whnf
  refine Nd.mk nf_ ?_
  conv => whnf
  refine Nd.mk nf_ ?_
  conv => whnf
  refine Br.f ff_ ?_
  conv => whnf
  refine Br.f ff_ ?_
  conv => whnf
  refine cut_ 248 [(0, .str a0), (3, .int .i64 x3_1), (4, .int .i64 x4_1), (34, .bool (decide ((bt a0 x4_1) > 57)))] [] rfl ⟨.inl rfl, ⟨.inl rfl, ⟨.inl rfl, ⟨.inl rfl, trivial⟩⟩⟩⟩ trivial ?_
  conv => whnf
  refine br_d H (fun c H => ?_) (fun c H => ?_)
  conv => whnf
  refine cut_ 256 [(2, .int .i64 (-1))] [] rfl ⟨.inl rfl, trivial⟩ trivial ?_
  conv => whnf
  injection H with H; subst H
  exact ret_fz [] (rtA_eq rfl)
  conv => whnf
  refine Nd.mk nf_ ?_
  conv => whnf
  refine Nd.mk nf_ ?_
  conv => whnf
  exact ⟨(k, wrap64 ((wrap64 ((wrap64 (x3_1 * 10)) + (wrap64 (bt a0 x4_1)))) - 48), wrap64 (x4_1 + 1)), [], ⟨H, lt_⟩, lt_, (fits_of ⟨.inl ⟨rfl, rfl⟩, ⟨.inl ⟨rfl, rfl⟩, trivial⟩⟩ trivial fi_ trivial rfl)⟩
  conv => whnf
  injection H with H; subst H
  exact ret_fz [] (rtA_eq rfl)
  conv => whnf
  refine Br.t ft_ ?_
  conv => whnf
  refine Br.t ft_ ?_
  conv => whnf
  refine Br.t ft_ ?_
  conv => whnf
  refine Br.t ft_ ?_
  conv => whnf
  refine Br.t ft_ ?_
  conv => whnf
  refine cut_ 120 [(0, .str a0), (18, .bool true)] [] rfl ⟨.inl rfl, ⟨.inl rfl, trivial⟩⟩ trivial ?_
  conv => whnf
  refine Br.t rfl ?_
  conv => whnf
  refine cut_ 128 [(2, .int .i64 (-1))] [] rfl ⟨.inl rfl, trivial⟩ trivial ?_
  conv => whnf
  injection H with H; subst H
  exact ret_fz [] (rtA_eq rfl)
theorem spec_l2Place.l0_lp {F : (Exit → St → Prop) → St → Prop} {hv : List Tmp} {Q : Exit → St → Prop} {σ : St} {r : Int} {k : Nat} {a0_2 : List S_impl_PlantPlace} {a1 : ByteArray} {x5 : Int} (H : spec_l2Place.l0 k a0_2 a1 x5 = some r) (rn : List (Option Nat)) (h1 : Fits σ σ [] [(5, .int .i64 x5)] [] [] rn)
    (h2 : ∀ (k0 : Nat) (x5 : Int), k0 < k + 1 → spec_l2Place.l0 k0 a0_2 a1 x5 = some r → headN σ hv [] [(5, .int .i64 x5)] [] [] (F (fun e σ' => match e with | .normal => ∃ (y : Nat × Int) (rn : List (Option Nat)), (spec_l2Place.l0 y.1 a0_2 a1 y.2 = some r ∧ y.1 < k + 1) ∧ y.1 < k0 ∧ Fits σ σ' [] [(5, .int .i64 y.2)] [] [] rn | e => Q e σ'))) : Lp F hv Q σ := by
  unfold Lp
  refine ⟨Nat × Int, fun x => spec_l2Place.l0 x.1 a0_2 a1 x.2 = some r ∧ x.1 < k + 1, fun x => x.1, [], fun x => [(5, .int .i64 x.2)], fun x => [], fun x => [], ⟨(k, x5), rn, ⟨H, Nat.lt_succ_self _⟩, h1⟩, ?_⟩
  rintro ⟨k, x5⟩ ⟨H, hk⟩
  exact h2 k x5 hk H
theorem spec_l2Place.ac {k : Nat} {a0_0 : List ByteArray} {a0_1 : List S_impl_PlantFoe} {a0_2 : List S_impl_PlantPlace} {a0_3 : List S_impl_PlantValve} {a1 : ByteArray} {r : Int} (H : spec_l2Place.f k a0_0 a0_1 a0_2 a0_3 a1 = some r) : ACalls Try.prog G 85 [] [.agg [(sv_str a0_0), (sv_S_impl_PlantFoe a0_1), (sv_S_impl_PlantPlace a0_2), (sv_S_impl_PlantValve a0_3)], .str a1] [] (.int .i64 r) := by
  refine acalls_of tok hP Try.func85 rfl (by kernel_rfl) [.tmp 4] rfl (by kernel_rfl) (Nat.le_of_ble_eq_true rfl) (.l .n (.l (.l .n (.l .n (.l (.c .n .n) .n))) .n)) rfl ?_
  unfold spec_l2Place.f at H
  conv => whnf
  refine spec_l2Place.l0_lp (a0_2 := a0_2) (a1 := a1) (k := k) H [] (fits_of ⟨.inl ⟨rfl, rfl⟩, trivial⟩ trivial fi_ trivial rfl) ?_
  intro k x5 hk H; rcases k with _ | k; exact none_elim H; rw [spec_l2Place.l0] at H; conv => whnf
  refine br_d H (fun c H => ?_) (fun c H => ?_)
  conv => whnf
  refine nd_ H (fun c H => ?_)
  conv => whnf
  refine Nd.mk nf_ ?_
  conv => whnf
  refine El.mk (rdm_en_S_impl_PlantPlace _ _ nf_ nf_) ?_
  conv => whnf
  refine cut_ 128 [(1, .str a1), (2, .bp 0 0), (5, .int .i64 x5), (20, .bool (decide (((rd_impl_PlantPlace a0_2 x5).f0).toList = a1.toList)))] [(0, .box [(sv_str a0_0), (sv_S_impl_PlantFoe a0_1), (sv_S_impl_PlantPlace a0_2), (sv_S_impl_PlantValve a0_3)])] rfl ⟨.inl rfl, ⟨.inl rfl, ⟨.inl rfl, ⟨.inl rfl, trivial⟩⟩⟩⟩ ⟨rfl, trivial⟩ ?_
  conv => whnf
  refine br_d H (fun c H => ?_) (fun c H => ?_)
  conv => whnf
  injection H with H; subst H
  exact ret_fz [] (rtA_eq rfl)
  conv => whnf
  exact ⟨(k, wrap64 (x5 + 1)), [], ⟨H, lt_⟩, lt_, (fits_of ⟨.inl ⟨rfl, rfl⟩, trivial⟩ trivial fi_ trivial rfl)⟩
  conv => whnf
  injection H with H; subst H
  exact ret_fz [] (rtA_eq rfl)
theorem spec_l3PutPlace.l0_lp {F : (Exit → St → Prop) → St → Prop} {hv : List Tmp} {Q : Exit → St → Prop} {σ : St} {r : (List ByteArray) × (List S_impl_PlantFoe) × (List S_impl_PlantPlace) × (List S_impl_PlantValve) × Int} {k : Nat} {a0_0 : List ByteArray} {a0_1 : List S_impl_PlantFoe} {a0_2 : List S_impl_PlantPlace} {a0_3 : List S_impl_PlantValve} {a1_0 : ByteArray} {a1_1 : Int} {a1_2 : ByteArray} {x6 : Int} (H : spec_l3PutPlace.l0 k a0_0 a0_1 a0_2 a0_3 a1_0 a1_1 a1_2 x6 = some r) (rn : List (Option Nat)) (h1 : Fits σ σ [] [(6, .int .i64 x6)] [] [] rn)
    (h2 : ∀ (k0 : Nat) (x6 : Int), k0 < k + 1 → spec_l3PutPlace.l0 k0 a0_0 a0_1 a0_2 a0_3 a1_0 a1_1 a1_2 x6 = some r → headN σ hv [] [(6, .int .i64 x6)] [] [] (F (fun e σ' => match e with | .normal => ∃ (y : Nat × Int) (rn : List (Option Nat)), (spec_l3PutPlace.l0 y.1 a0_0 a0_1 a0_2 a0_3 a1_0 a1_1 a1_2 y.2 = some r ∧ y.1 < k + 1) ∧ y.1 < k0 ∧ Fits σ σ' [] [(6, .int .i64 y.2)] [] [] rn | e => Q e σ'))) : Lp F hv Q σ := by
  unfold Lp
  refine ⟨Nat × Int, fun x => spec_l3PutPlace.l0 x.1 a0_0 a0_1 a0_2 a0_3 a1_0 a1_1 a1_2 x.2 = some r ∧ x.1 < k + 1, fun x => x.1, [], fun x => [(6, .int .i64 x.2)], fun x => [], fun x => [], ⟨(k, x6), rn, ⟨H, Nat.lt_succ_self _⟩, h1⟩, ?_⟩
  rintro ⟨k, x6⟩ ⟨H, hk⟩
  exact h2 k x6 hk H
theorem spec_l3PutPlace.ac {k : Nat} {a0_0 : List ByteArray} {a0_1 : List S_impl_PlantFoe} {a0_2 : List S_impl_PlantPlace} {a0_3 : List S_impl_PlantValve} {a1_0 : ByteArray} {a1_1 : Int} {a1_2 : ByteArray} {r : (List ByteArray) × (List S_impl_PlantFoe) × (List S_impl_PlantPlace) × (List S_impl_PlantValve) × Int} (H : spec_l3PutPlace.f k a0_0 a0_1 a0_2 a0_3 a1_0 a1_1 a1_2 = some r) : ACalls Try.prog G 228 [] [.agg [(sv_str a0_0), (sv_S_impl_PlantFoe a0_1), (sv_S_impl_PlantPlace a0_2), (sv_S_impl_PlantValve a0_3)], .agg [.str a1_0, .int .i64 a1_1, .str a1_2]] [] (.tup [.agg [(sv_str r.1), (sv_S_impl_PlantFoe r.2.1), (sv_S_impl_PlantPlace r.2.2.1), (sv_S_impl_PlantValve r.2.2.2.1)], .int .i64 r.2.2.2.2]) := by
  refine acalls_of tok hP Try.func228 rfl (by kernel_rfl) [.cell 4 44, .tmp 5] rfl (by kernel_rfl) (Nat.le_of_ble_eq_true rfl) (.l .n (.l (.l .n (.l (.c .n .n) .n)) (.l (.c .n .n) (.l .n (.l (.l (.c .n .n) .n) (.c .n .n)))))) rfl ?_
  unfold spec_l3PutPlace.f at H
  conv => whnf
  revert H; refine bind_elim (fun t488 A H => ?_)
  refine call_mk (spec_l2Place.ac A) (avAL_cons (avA_agg (avL_cons (av_shut' rfl) (avL_cons (av_shut' rfl) (avL_cons (av_shut' rfl) (avL_cons (av_shut' rfl) (avL_nil)))))) (avAL_cons (avA_shut' rfl) (avAL_nil))) (Or.inl rfl) rfl rfl (Nat.le_of_ble_eq_true rfl) ?_
  conv => whnf
  refine br_d H (fun c H => ?_) (fun c H => ?_)
  conv => whnf
  refine cut_ 96 [(4, .bp 16 0), (5, .int .i64 4)] [(16, .box [(sv_str a0_0), (sv_S_impl_PlantFoe a0_1), (sv_S_impl_PlantPlace a0_2), (sv_S_impl_PlantValve a0_3)])] rfl ⟨.inl rfl, ⟨.inl rfl, trivial⟩⟩ ⟨rfl, trivial⟩ ?_
  conv => whnf
  injection H with H; subst H
  exact ret_tup [] (rtAL_cons (rtA_agg (rtL_cons (rt_eq rfl) (rtL_cons (rt_eq rfl) (rtL_cons (rt_eq rfl) (rtL_cons (rt_eq rfl) (rtL_nil)))))) (rtAL_cons (rtA_eq rfl) (rtAL_nil)))
  conv => whnf
  refine cut_ 104 [(2, .bp 0 0), (3, .bp 8 0), (4, .bp 16 0), (16, .bool (decide ((a0_2.length : Int) ≥ 14)))] [(0, .box [(sv_str a0_0), (sv_S_impl_PlantFoe a0_1), (sv_S_impl_PlantPlace a0_2), (sv_S_impl_PlantValve a0_3)]), (8, .box [.str a1_0, .int .i64 a1_1, .str a1_2]), (16, .box [.nil, .nil, .nil, .nil])] rfl ⟨.inl rfl, ⟨.inl rfl, ⟨.inl rfl, ⟨.inl rfl, trivial⟩⟩⟩⟩ ⟨rfl, ⟨rfl, ⟨rfl, trivial⟩⟩⟩ ?_
  conv => whnf
  refine br_d H (fun c H => ?_) (fun c H => ?_)
  conv => whnf
  injection H with H; subst H
  exact ret_tup [] (rtAL_cons (rtA_agg (rtL_cons (rt_eq rfl) (rtL_cons (rt_eq rfl) (rtL_cons (rt_eq rfl) (rtL_cons (rt_eq rfl) (rtL_nil)))))) (rtAL_cons (rtA_eq rfl) (rtAL_nil)))
  conv => whnf
  refine spec_l3PutPlace.l0_lp (a0_0 := a0_0) (a0_1 := a0_1) (a0_2 := a0_2) (a0_3 := a0_3) (a1_0 := a1_0) (a1_1 := a1_1) (a1_2 := a1_2) (k := k) H [] (fits_of ⟨.inl ⟨rfl, rfl⟩, trivial⟩ trivial fi_ trivial rfl) ?_
  intro k x6 hk H; rcases k with _ | k; exact none_elim H; rw [spec_l3PutPlace.l0] at H; conv => whnf
  refine br_d H (fun c H => ?_) (fun c H => ?_)
  conv => whnf
  refine Br.t ft_ ?_
  conv => whnf
  refine Br.t ft_ ?_
  conv => whnf
  refine Br.t ft_ ?_
  conv => whnf
  refine nd_ H (fun c H => ?_)
  conv => whnf
  refine Nd.mk nf_ ?_
  conv => whnf
  refine El.mk (rdm_en_S_impl_PlantPlace _ _ nf_ nf_) ?_
  conv => whnf
  refine Br.t ft_ ?_
  conv => whnf
  refine Br.t ft_ ?_
  conv => whnf
  refine Br.t ft_ ?_
  conv => whnf
  refine Br.t ft_ ?_
  conv => whnf
  refine Br.t ft_ ?_
  conv => whnf
  refine Br.t ft_ ?_
  conv => whnf
  refine cut_ 240 [(2, .bp 0 0), (3, .bp 8 0), (4, .bp 16 0), (6, .int .i64 x6), (33, .bool (Op.bytesLess ((rd_impl_PlantPlace a0_2 x6).f0).toList a1_0.toList))] [(0, .box [(sv_str a0_0), (sv_S_impl_PlantFoe a0_1), (sv_S_impl_PlantPlace a0_2), (sv_S_impl_PlantValve a0_3)]), (8, .box [.str a1_0, .int .i64 a1_1, .str a1_2]), (16, .box [.nil, .nil, .nil, .nil])] rfl ⟨.inl rfl, ⟨.inl rfl, ⟨.inl rfl, ⟨.inl rfl, ⟨.inl rfl, trivial⟩⟩⟩⟩⟩ ⟨rfl, ⟨rfl, ⟨rfl, trivial⟩⟩⟩ ?_
  conv => whnf
  refine br_t H (fun c H => ?_) (fun c H => ?_)
  conv => whnf
  exact ⟨(k, wrap64 (x6 + 1)), [], ⟨H, lt_⟩, lt_, (fits_of ⟨.inl ⟨rfl, rfl⟩, trivial⟩ trivial fi_ trivial rfl)⟩
  conv => whnf
  refine Or.inl ?_
  conv => whnf
  refine Nd.mk nf_ ?_
  conv => whnf
  refine nd_ H (fun c H => ?_)
  conv => whnf
  refine nd_ H (fun c H => ?_)
  conv => whnf
  refine Or.inl ?_
  conv => whnf
  refine nd_ H (fun c H => ?_)
  conv => whnf
  refine Nd.mk nf_ ?_
  conv => whnf
  refine Nd.mk nf_ ?_
  conv => whnf
  refine nd_ H (fun c H => ?_)
  conv => whnf
  refine cut_ 368 [(2, .bp 0 0), (4, .bp 16 0)] [(0, .box [(sv_str a0_0), (sv_S_impl_PlantFoe a0_1), .own 344 (0 + (x6).toNat + 1 + (a0_2.length - (x6).toNat)), (sv_S_impl_PlantValve a0_3)]), (16, .box [.nil, .nil, .nil, .nil]), (344, .arr 109 3 ((((([] : List S_impl_PlantPlace) ++ (a0_2.take (x6).toNat)) ++ ([(⟨a1_0, a1_1, a1_2⟩ : S_impl_PlantPlace)] : List S_impl_PlantPlace)) ++ (a0_2.drop (x6).toNat)).map en_S_impl_PlantPlace))] rfl ⟨.inl rfl, ⟨.inl rfl, trivial⟩⟩ ⟨rfl, ⟨rfl, ⟨fm_, trivial⟩⟩⟩ ?_
  conv => whnf
  injection H with H; subst H
  exact ret_tup [344] (rtAL_cons (rtA_agg (rtL_cons (rt_eq rfl) (rtL_cons (rt_eq rfl) (rtL_cons (rt_fzD rfl lm_ lm_ rfl) (rtL_cons (rt_eq rfl) (rtL_nil)))))) (rtAL_cons (rtA_eq rfl) (rtAL_nil)))
  conv => whnf
  refine Br.f ff_ ?_
  conv => whnf
  refine Br.f ff_ ?_
  conv => whnf
  refine Br.f ff_ ?_
  conv => whnf
  refine Br.f ff_ ?_
  conv => whnf
  refine Br.f ff_ ?_
  conv => whnf
  refine Br.f ff_ ?_
  conv => whnf
  refine Br.f ff_ ?_
  conv => whnf
  refine Br.f ff_ ?_
  conv => whnf
  refine Br.f ff_ ?_
  conv => whnf
  refine cut_ 240 [(2, .bp 0 0), (3, .bp 8 0), (4, .bp 16 0), (6, .int .i64 x6), (33, .bool false)] [(0, .box [(sv_str a0_0), (sv_S_impl_PlantFoe a0_1), (sv_S_impl_PlantPlace a0_2), (sv_S_impl_PlantValve a0_3)]), (8, .box [.str a1_0, .int .i64 a1_1, .str a1_2]), (16, .box [.nil, .nil, .nil, .nil])] rfl ⟨.inl rfl, ⟨.inl rfl, ⟨.inl rfl, ⟨.inl rfl, ⟨.inl rfl, trivial⟩⟩⟩⟩⟩ ⟨rfl, ⟨rfl, ⟨rfl, trivial⟩⟩⟩ ?_
  conv => whnf
  refine Br.f rfl ?_
  conv => whnf
  refine Or.inl ?_
  conv => whnf
  refine nd_ H (fun c H => ?_)
  conv => whnf
  refine nd_ H (fun c H => ?_)
  conv => whnf
  refine nd_ H (fun c H => ?_)
  conv => whnf
  refine Or.inl ?_
  conv => whnf
  refine nd_ H (fun c H => ?_)
  conv => whnf
  refine Nd.mk nf_ ?_
  conv => whnf
  refine Nd.mk nf_ ?_
  conv => whnf
  refine nd_ H (fun c H => ?_)
  conv => whnf
  refine cut_ 368 [(2, .bp 0 0), (4, .bp 16 0)] [(0, .box [(sv_str a0_0), (sv_S_impl_PlantFoe a0_1), .own 344 (0 + (x6).toNat + 1 + (a0_2.length - (x6).toNat)), (sv_S_impl_PlantValve a0_3)]), (16, .box [.nil, .nil, .nil, .nil]), (344, .arr 109 3 ((((([] : List S_impl_PlantPlace) ++ (a0_2.take (x6).toNat)) ++ ([(⟨a1_0, a1_1, a1_2⟩ : S_impl_PlantPlace)] : List S_impl_PlantPlace)) ++ (a0_2.drop (x6).toNat)).map en_S_impl_PlantPlace))] rfl ⟨.inl rfl, ⟨.inl rfl, trivial⟩⟩ ⟨rfl, ⟨rfl, ⟨fm_, trivial⟩⟩⟩ ?_
  conv => whnf
  injection H with H; subst H
  exact ret_tup [344] (rtAL_cons (rtA_agg (rtL_cons (rt_eq rfl) (rtL_cons (rt_eq rfl) (rtL_cons (rt_fzD rfl lm_ lm_ rfl) (rtL_cons (rt_eq rfl) (rtL_nil)))))) (rtAL_cons (rtA_eq rfl) (rtAL_nil)))
theorem spec_l3Vessel.ac {k : Nat} {a0_0 : List ByteArray} {a0_1 : List S_impl_PlantFoe} {a0_2 : List S_impl_PlantPlace} {a0_3 : List S_impl_PlantValve} {l1 : List ByteArray} {r : (List ByteArray) × (List S_impl_PlantFoe) × (List S_impl_PlantPlace) × (List S_impl_PlantValve) × Int} (H : spec_l3Vessel.f k a0_0 a0_1 a0_2 a0_3 l1 = some r) : ACalls Try.prog G 217 [] [.agg [(sv_str a0_0), (sv_S_impl_PlantFoe a0_1), (sv_S_impl_PlantPlace a0_2), (sv_S_impl_PlantValve a0_3)], (sv_str l1)] [] (.tup [.agg [(sv_str r.1), (sv_S_impl_PlantFoe r.2.1), (sv_S_impl_PlantPlace r.2.2.1), (sv_S_impl_PlantValve r.2.2.2.1)], .int .i64 r.2.2.2.2]) := by
  refine acalls_of tok hP Try.func217 rfl (by kernel_rfl) [.cell 4 44, .tmp 5] rfl (by kernel_rfl) (Nat.le_of_ble_eq_true rfl) (.l .n (.l (.c .n (.l (.c .n .n) .n)) (.c .n .n))) rfl ?_
  unfold spec_l3Vessel.f at H
  conv => whnf
  refine br_nd H (fun c H => ?_) (fun c H => ?_)
  conv => whnf
  refine Br.f ff_ ?_
  conv => whnf
  refine Nd.mk (by decide) ?_
  conv => whnf
  refine nd_ H (fun c H => ?_)
  conv => whnf
  refine El.mk (rdm_en_str _ _ nf_ nf_) ?_
  conv => whnf
  refine Br.f ff_ ?_
  conv => whnf
  refine Br.f ff_ ?_
  conv => whnf
  revert H; refine bind_elim (fun t501 A H => ?_)
  refine call_mk (spec_l2NameOk.ac A) (avAL_cons (avA_shut' rfl) (avAL_nil)) (Or.inl rfl) rfl rfl (Nat.le_of_ble_eq_true rfl) ?_
  conv => whnf
  refine Br.f ff_ ?_
  conv => whnf
  refine Br.f ff_ ?_
  conv => whnf
  refine br_nt H (fun c H => ?_) (fun c H => ?_)
  conv => whnf
  refine Br.f ff_ ?_
  conv => whnf
  refine Nd.mk (by decide) ?_
  conv => whnf
  refine nd_ H (fun c H => ?_)
  conv => whnf
  refine El.mk (rdm_en_str _ _ nf_ nf_) ?_
  conv => whnf
  refine Br.f ff_ ?_
  conv => whnf
  refine Br.f ff_ ?_
  conv => whnf
  revert H; refine bind_elim (fun t502 A H => ?_)
  refine call_mk (spec_l3Number.ac A) (avAL_cons (avA_shut' rfl) (avAL_nil)) (Or.inl rfl) rfl rfl (Nat.le_of_ble_eq_true rfl) ?_
  conv => whnf
  refine Br.f ff_ ?_
  conv => whnf
  revert H; refine bind_elim (fun t503 A H => ?_)
  refine call_mk (spec_l1In.ac A) (avAL_cons (avA_shut' rfl) (avAL_cons (avA_shut' rfl) (avAL_cons (avA_shut' rfl) (avAL_nil)))) (Or.inl rfl) rfl rfl (Nat.le_of_ble_eq_true rfl) ?_
  conv => whnf
  refine Br.f ff_ ?_
  conv => whnf
  refine Br.f ff_ ?_
  conv => whnf
  refine br_nt H (fun c H => ?_) (fun c H => ?_)
  conv => whnf
  refine Br.f ff_ ?_
  conv => whnf
  refine Nd.mk (by decide) ?_
  conv => whnf
  refine nd_ H (fun c H => ?_)
  conv => whnf
  refine El.mk (rdm_en_str _ _ nf_ nf_) ?_
  conv => whnf
  refine Br.f ff_ ?_
  conv => whnf
  refine Br.f ff_ ?_
  conv => whnf
  revert H; refine bind_elim (fun t504 A H => ?_)
  refine call_mk (spec_l2NameOk.ac A) (avAL_cons (avA_shut' rfl) (avAL_nil)) (Or.inl rfl) rfl rfl (Nat.le_of_ble_eq_true rfl) ?_
  conv => whnf
  refine Br.f ff_ ?_
  conv => whnf
  refine Br.f ff_ ?_
  conv => whnf
  refine cut_ 224 [(1, (sv_str l1)), (2, .bp 0 0), (4, .bp 8 0), (30, .bool (!t504))] [(0, .box [(sv_str a0_0), (sv_S_impl_PlantFoe a0_1), (sv_S_impl_PlantPlace a0_2), (sv_S_impl_PlantValve a0_3)]), (8, .box [.nil, .nil, .nil, .nil])] rfl ⟨.inl rfl, ⟨.inl rfl, ⟨.inl rfl, ⟨.inl rfl, trivial⟩⟩⟩⟩ ⟨rfl, ⟨rfl, trivial⟩⟩ ?_
  conv => whnf
  refine br_nt H (fun c H => ?_) (fun c H => ?_)
  conv => whnf
  refine Nd.mk (by decide) ?_
  conv => whnf
  refine Nd.mk nf_ ?_
  conv => whnf
  refine El.mk (rdm_en_str _ _ nf_ nf_) ?_
  conv => whnf
  refine Nd.mk (by decide) ?_
  conv => whnf
  refine Nd.mk nf_ ?_
  conv => whnf
  refine El.mk (rdm_en_str _ _ nf_ nf_) ?_
  conv => whnf
  revert H; refine bind_elim (fun t505 A H => ?_)
  refine call_mk (spec_l3Number.ac A) (avAL_cons (avA_shut' rfl) (avAL_nil)) (Or.inl rfl) rfl rfl (Nat.le_of_ble_eq_true rfl) ?_
  conv => whnf
  refine Nd.mk (by decide) ?_
  conv => whnf
  refine Nd.mk nf_ ?_
  conv => whnf
  refine El.mk (rdm_en_str _ _ nf_ nf_) ?_
  conv => whnf
  revert H; refine bind_elim (fun t506 A H => ?_)
  refine call_mk (spec_l3PutPlace.ac A) (avAL_cons (avA_agg (avL_cons (av_shut' rfl) (avL_cons (av_shut' rfl) (avL_cons (av_shut' rfl) (avL_cons (av_shut' rfl) (avL_nil)))))) (avAL_cons (avA_agg (avL_cons (av_shut' rfl) (avL_cons (av_shut' rfl) (avL_cons (av_shut' rfl) (avL_nil))))) (avAL_nil))) (Or.inl rfl) rfl rfl (Nat.le_of_ble_eq_true rfl) ?_
  conv => whnf
  refine cut_ 360 [(4, .bp 8 0), (5, .int .i64 t506.2.2.2.2)] [(8, .box [(sv_str t506.1), (sv_S_impl_PlantFoe t506.2.1), (sv_S_impl_PlantPlace t506.2.2.1), (sv_S_impl_PlantValve t506.2.2.2.1)])] rfl ⟨.inl rfl, ⟨.inl rfl, trivial⟩⟩ ⟨rfl, trivial⟩ ?_
  conv => whnf
  injection H with H; subst H
  exact ret_tup [] (rtAL_cons (rtA_agg (rtL_cons (rt_eq rfl) (rtL_cons (rt_eq rfl) (rtL_cons (rt_eq rfl) (rtL_cons (rt_eq rfl) (rtL_nil)))))) (rtAL_cons (rtA_eq rfl) (rtAL_nil)))
  conv => whnf
  refine cut_ 248 [(4, .bp 8 0), (5, .int .i64 3)] [(8, .box [(sv_str a0_0), (sv_S_impl_PlantFoe a0_1), (sv_S_impl_PlantPlace a0_2), (sv_S_impl_PlantValve a0_3)])] rfl ⟨.inl rfl, ⟨.inl rfl, trivial⟩⟩ ⟨rfl, trivial⟩ ?_
  conv => whnf
  injection H with H; subst H
  exact ret_tup [] (rtAL_cons (rtA_agg (rtL_cons (rt_eq rfl) (rtL_cons (rt_eq rfl) (rtL_cons (rt_eq rfl) (rtL_cons (rt_eq rfl) (rtL_nil)))))) (rtAL_cons (rtA_eq rfl) (rtAL_nil)))
  conv => whnf
  refine Br.t ft_ ?_
  conv => whnf
  refine Br.t ft_ ?_
  conv => whnf
  refine Br.t ft_ ?_
  conv => whnf
  refine Br.t ft_ ?_
  conv => whnf
  refine Br.t ft_ ?_
  conv => whnf
  refine cut_ 224 [(1, (sv_str l1)), (2, .bp 0 0), (4, .bp 8 0), (30, .bool true)] [(0, .box [(sv_str a0_0), (sv_S_impl_PlantFoe a0_1), (sv_S_impl_PlantPlace a0_2), (sv_S_impl_PlantValve a0_3)]), (8, .box [.nil, .nil, .nil, .nil])] rfl ⟨.inl rfl, ⟨.inl rfl, ⟨.inl rfl, ⟨.inl rfl, trivial⟩⟩⟩⟩ ⟨rfl, ⟨rfl, trivial⟩⟩ ?_
  conv => whnf
  refine Br.t rfl ?_
  conv => whnf
  refine cut_ 248 [(4, .bp 8 0), (5, .int .i64 3)] [(8, .box [(sv_str a0_0), (sv_S_impl_PlantFoe a0_1), (sv_S_impl_PlantPlace a0_2), (sv_S_impl_PlantValve a0_3)])] rfl ⟨.inl rfl, ⟨.inl rfl, trivial⟩⟩ ⟨rfl, trivial⟩ ?_
  conv => whnf
  injection H with H; subst H
  exact ret_tup [] (rtAL_cons (rtA_agg (rtL_cons (rt_eq rfl) (rtL_cons (rt_eq rfl) (rtL_cons (rt_eq rfl) (rtL_cons (rt_eq rfl) (rtL_nil)))))) (rtAL_cons (rtA_eq rfl) (rtAL_nil)))
  conv => whnf
  refine Br.t ft_ ?_
  conv => whnf
  refine Br.t ft_ ?_
  conv => whnf
  refine Br.t ft_ ?_
  conv => whnf
  refine Br.t ft_ ?_
  conv => whnf
  refine Br.t ft_ ?_
  conv => whnf
  refine Br.t ft_ ?_
  conv => whnf
  refine Br.t rfl ?_
  conv => whnf
  refine Br.t rfl ?_
  conv => whnf
  refine Br.t rfl ?_
  conv => whnf
  refine Br.t rfl ?_
  conv => whnf
  refine Br.t rfl ?_
  conv => whnf
  refine Br.t rfl ?_
  conv => whnf
  refine cut_ 224 [(1, (sv_str l1)), (2, .bp 0 0), (4, .bp 8 0), (30, .bool true)] [(0, .box [(sv_str a0_0), (sv_S_impl_PlantFoe a0_1), (sv_S_impl_PlantPlace a0_2), (sv_S_impl_PlantValve a0_3)]), (8, .box [.nil, .nil, .nil, .nil])] rfl ⟨.inl rfl, ⟨.inl rfl, ⟨.inl rfl, ⟨.inl rfl, trivial⟩⟩⟩⟩ ⟨rfl, ⟨rfl, trivial⟩⟩ ?_
  conv => whnf
  refine Br.t rfl ?_
  conv => whnf
  refine cut_ 248 [(4, .bp 8 0), (5, .int .i64 3)] [(8, .box [(sv_str a0_0), (sv_S_impl_PlantFoe a0_1), (sv_S_impl_PlantPlace a0_2), (sv_S_impl_PlantValve a0_3)])] rfl ⟨.inl rfl, ⟨.inl rfl, trivial⟩⟩ ⟨rfl, trivial⟩ ?_
  conv => whnf
  injection H with H; subst H
  exact ret_tup [] (rtAL_cons (rtA_agg (rtL_cons (rt_eq rfl) (rtL_cons (rt_eq rfl) (rtL_cons (rt_eq rfl) (rtL_cons (rt_eq rfl) (rtL_nil)))))) (rtAL_cons (rtA_eq rfl) (rtAL_nil)))
  conv => whnf
  refine Br.t ft_ ?_
  conv => whnf
  refine Br.t ft_ ?_
  conv => whnf
  refine Br.t ft_ ?_
  conv => whnf
  refine Br.t ft_ ?_
  conv => whnf
  refine Br.t ft_ ?_
  conv => whnf
  refine Br.t rfl ?_
  conv => whnf
  refine Br.t rfl ?_
  conv => whnf
  refine Br.t rfl ?_
  conv => whnf
  refine Br.t rfl ?_
  conv => whnf
  refine Br.t rfl ?_
  conv => whnf
  refine Br.t rfl ?_
  conv => whnf
  refine Br.t rfl ?_
  conv => whnf
  refine Br.t rfl ?_
  conv => whnf
  refine Br.t rfl ?_
  conv => whnf
  refine Br.t rfl ?_
  conv => whnf
  refine Br.t rfl ?_
  conv => whnf
  refine Br.t rfl ?_
  conv => whnf
  refine Br.t rfl ?_
  conv => whnf
  refine cut_ 224 [(1, (sv_str l1)), (2, .bp 0 0), (4, .bp 8 0), (30, .bool true)] [(0, .box [(sv_str a0_0), (sv_S_impl_PlantFoe a0_1), (sv_S_impl_PlantPlace a0_2), (sv_S_impl_PlantValve a0_3)]), (8, .box [.nil, .nil, .nil, .nil])] rfl ⟨.inl rfl, ⟨.inl rfl, ⟨.inl rfl, ⟨.inl rfl, trivial⟩⟩⟩⟩ ⟨rfl, ⟨rfl, trivial⟩⟩ ?_
  conv => whnf
  refine Br.t rfl ?_
  conv => whnf
  refine cut_ 248 [(4, .bp 8 0), (5, .int .i64 3)] [(8, .box [(sv_str a0_0), (sv_S_impl_PlantFoe a0_1), (sv_S_impl_PlantPlace a0_2), (sv_S_impl_PlantValve a0_3)])] rfl ⟨.inl rfl, ⟨.inl rfl, trivial⟩⟩ ⟨rfl, trivial⟩ ?_
  conv => whnf
  injection H with H; subst H
  exact ret_tup [] (rtAL_cons (rtA_agg (rtL_cons (rt_eq rfl) (rtL_cons (rt_eq rfl) (rtL_cons (rt_eq rfl) (rtL_cons (rt_eq rfl) (rtL_nil)))))) (rtAL_cons (rtA_eq rfl) (rtAL_nil)))
theorem spec_l3Joint.ac {k : Nat} {a0_0 : List ByteArray} {a0_1 : List S_impl_PlantFoe} {a0_2 : List S_impl_PlantPlace} {a0_3 : List S_impl_PlantValve} {l1 : List ByteArray} {r : (List ByteArray) × (List S_impl_PlantFoe) × (List S_impl_PlantPlace) × (List S_impl_PlantValve) × Int} (H : spec_l3Joint.f k a0_0 a0_1 a0_2 a0_3 l1 = some r) : ACalls Try.prog G 218 [] [.agg [(sv_str a0_0), (sv_S_impl_PlantFoe a0_1), (sv_S_impl_PlantPlace a0_2), (sv_S_impl_PlantValve a0_3)], (sv_str l1)] [] (.tup [.agg [(sv_str r.1), (sv_S_impl_PlantFoe r.2.1), (sv_S_impl_PlantPlace r.2.2.1), (sv_S_impl_PlantValve r.2.2.2.1)], .int .i64 r.2.2.2.2]) := by
  refine acalls_of tok hP Try.func218 rfl (by kernel_rfl) [.cell 4 44, .tmp 5] rfl (by kernel_rfl) (Nat.le_of_ble_eq_true rfl) (.l .n (.l (.c .n (.l (.c .n .n) .n)) (.c .n .n))) rfl ?_
  unfold spec_l3Joint.f at H
  conv => whnf
  refine br_nd H (fun c H => ?_) (fun c H => ?_)
  conv => whnf
  refine Br.f ff_ ?_
  conv => whnf
  refine Nd.mk (by decide) ?_
  conv => whnf
  refine nd_ H (fun c H => ?_)
  conv => whnf
  refine El.mk (rdm_en_str _ _ nf_ nf_) ?_
  conv => whnf
  refine Br.f ff_ ?_
  conv => whnf
  refine Br.f ff_ ?_
  conv => whnf
  revert H; refine bind_elim (fun t547 A H => ?_)
  refine call_mk (spec_l2NameOk.ac A) (avAL_cons (avA_shut' rfl) (avAL_nil)) (Or.inl rfl) rfl rfl (Nat.le_of_ble_eq_true rfl) ?_
  conv => whnf
  refine Br.f ff_ ?_
  conv => whnf
  refine Br.f ff_ ?_
  conv => whnf
  refine br_nt H (fun c H => ?_) (fun c H => ?_)
  conv => whnf
  refine Br.f ff_ ?_
  conv => whnf
  refine Nd.mk (by decide) ?_
  conv => whnf
  refine nd_ H (fun c H => ?_)
  conv => whnf
  refine El.mk (rdm_en_str _ _ nf_ nf_) ?_
  conv => whnf
  refine Br.f ff_ ?_
  conv => whnf
  refine Br.f ff_ ?_
  conv => whnf
  revert H; refine bind_elim (fun t548 A H => ?_)
  refine call_mk (spec_l2NameOk.ac A) (avAL_cons (avA_shut' rfl) (avAL_nil)) (Or.inl rfl) rfl rfl (Nat.le_of_ble_eq_true rfl) ?_
  conv => whnf
  refine Br.f ff_ ?_
  conv => whnf
  refine Br.f ff_ ?_
  conv => whnf
  refine cut_ 160 [(1, (sv_str l1)), (2, .bp 0 0), (4, .bp 8 0), (22, .bool (!t548))] [(0, .box [(sv_str a0_0), (sv_S_impl_PlantFoe a0_1), (sv_S_impl_PlantPlace a0_2), (sv_S_impl_PlantValve a0_3)]), (8, .box [.nil, .nil, .nil, .nil])] rfl ⟨.inl rfl, ⟨.inl rfl, ⟨.inl rfl, ⟨.inl rfl, trivial⟩⟩⟩⟩ ⟨rfl, ⟨rfl, trivial⟩⟩ ?_
  conv => whnf
  refine br_nt H (fun c H => ?_) (fun c H => ?_)
  conv => whnf
  refine Nd.mk (by decide) ?_
  conv => whnf
  refine Nd.mk nf_ ?_
  conv => whnf
  refine El.mk (rdm_en_str _ _ nf_ nf_) ?_
  conv => whnf
  refine Nd.mk (by decide) ?_
  conv => whnf
  refine Nd.mk nf_ ?_
  conv => whnf
  refine El.mk (rdm_en_str _ _ nf_ nf_) ?_
  conv => whnf
  revert H; refine bind_elim (fun t549 A H => ?_)
  refine call_mk (spec_l3PutPlace.ac A) (avAL_cons (avA_agg (avL_cons (av_shut' rfl) (avL_cons (av_shut' rfl) (avL_cons (av_shut' rfl) (avL_cons (av_shut' rfl) (avL_nil)))))) (avAL_cons (avA_agg (avL_cons (av_shut' rfl) (avL_cons (av_shut' rfl) (avL_cons (av_shut' rfl) (avL_nil))))) (avAL_nil))) (Or.inl rfl) rfl rfl (Nat.le_of_ble_eq_true rfl) ?_
  conv => whnf
  refine cut_ 264 [(4, .bp 8 0), (5, .int .i64 t549.2.2.2.2)] [(8, .box [(sv_str t549.1), (sv_S_impl_PlantFoe t549.2.1), (sv_S_impl_PlantPlace t549.2.2.1), (sv_S_impl_PlantValve t549.2.2.2.1)])] rfl ⟨.inl rfl, ⟨.inl rfl, trivial⟩⟩ ⟨rfl, trivial⟩ ?_
  conv => whnf
  injection H with H; subst H
  exact ret_tup [] (rtAL_cons (rtA_agg (rtL_cons (rt_eq rfl) (rtL_cons (rt_eq rfl) (rtL_cons (rt_eq rfl) (rtL_cons (rt_eq rfl) (rtL_nil)))))) (rtAL_cons (rtA_eq rfl) (rtAL_nil)))
  conv => whnf
  refine cut_ 184 [(4, .bp 8 0), (5, .int .i64 3)] [(8, .box [(sv_str a0_0), (sv_S_impl_PlantFoe a0_1), (sv_S_impl_PlantPlace a0_2), (sv_S_impl_PlantValve a0_3)])] rfl ⟨.inl rfl, ⟨.inl rfl, trivial⟩⟩ ⟨rfl, trivial⟩ ?_
  conv => whnf
  injection H with H; subst H
  exact ret_tup [] (rtAL_cons (rtA_agg (rtL_cons (rt_eq rfl) (rtL_cons (rt_eq rfl) (rtL_cons (rt_eq rfl) (rtL_cons (rt_eq rfl) (rtL_nil)))))) (rtAL_cons (rtA_eq rfl) (rtAL_nil)))
  conv => whnf
  refine Br.t ft_ ?_
  conv => whnf
  refine Br.t ft_ ?_
  conv => whnf
  refine Br.t ft_ ?_
  conv => whnf
  refine Br.t ft_ ?_
  conv => whnf
  refine Br.t ft_ ?_
  conv => whnf
  refine cut_ 160 [(1, (sv_str l1)), (2, .bp 0 0), (4, .bp 8 0), (22, .bool true)] [(0, .box [(sv_str a0_0), (sv_S_impl_PlantFoe a0_1), (sv_S_impl_PlantPlace a0_2), (sv_S_impl_PlantValve a0_3)]), (8, .box [.nil, .nil, .nil, .nil])] rfl ⟨.inl rfl, ⟨.inl rfl, ⟨.inl rfl, ⟨.inl rfl, trivial⟩⟩⟩⟩ ⟨rfl, ⟨rfl, trivial⟩⟩ ?_
  conv => whnf
  refine Br.t rfl ?_
  conv => whnf
  refine cut_ 184 [(4, .bp 8 0), (5, .int .i64 3)] [(8, .box [(sv_str a0_0), (sv_S_impl_PlantFoe a0_1), (sv_S_impl_PlantPlace a0_2), (sv_S_impl_PlantValve a0_3)])] rfl ⟨.inl rfl, ⟨.inl rfl, trivial⟩⟩ ⟨rfl, trivial⟩ ?_
  conv => whnf
  injection H with H; subst H
  exact ret_tup [] (rtAL_cons (rtA_agg (rtL_cons (rt_eq rfl) (rtL_cons (rt_eq rfl) (rtL_cons (rt_eq rfl) (rtL_cons (rt_eq rfl) (rtL_nil)))))) (rtAL_cons (rtA_eq rfl) (rtAL_nil)))
  conv => whnf
  refine Br.t ft_ ?_
  conv => whnf
  refine Br.t ft_ ?_
  conv => whnf
  refine Br.t ft_ ?_
  conv => whnf
  refine Br.t ft_ ?_
  conv => whnf
  refine Br.t ft_ ?_
  conv => whnf
  refine Br.t rfl ?_
  conv => whnf
  refine Br.t rfl ?_
  conv => whnf
  refine Br.t rfl ?_
  conv => whnf
  refine Br.t rfl ?_
  conv => whnf
  refine Br.t rfl ?_
  conv => whnf
  refine Br.t rfl ?_
  conv => whnf
  refine cut_ 160 [(1, (sv_str l1)), (2, .bp 0 0), (4, .bp 8 0), (22, .bool true)] [(0, .box [(sv_str a0_0), (sv_S_impl_PlantFoe a0_1), (sv_S_impl_PlantPlace a0_2), (sv_S_impl_PlantValve a0_3)]), (8, .box [.nil, .nil, .nil, .nil])] rfl ⟨.inl rfl, ⟨.inl rfl, ⟨.inl rfl, ⟨.inl rfl, trivial⟩⟩⟩⟩ ⟨rfl, ⟨rfl, trivial⟩⟩ ?_
  conv => whnf
  refine Br.t rfl ?_
  conv => whnf
  refine cut_ 184 [(4, .bp 8 0), (5, .int .i64 3)] [(8, .box [(sv_str a0_0), (sv_S_impl_PlantFoe a0_1), (sv_S_impl_PlantPlace a0_2), (sv_S_impl_PlantValve a0_3)])] rfl ⟨.inl rfl, ⟨.inl rfl, trivial⟩⟩ ⟨rfl, trivial⟩ ?_
  conv => whnf
  injection H with H; subst H
  exact ret_tup [] (rtAL_cons (rtA_agg (rtL_cons (rt_eq rfl) (rtL_cons (rt_eq rfl) (rtL_cons (rt_eq rfl) (rtL_cons (rt_eq rfl) (rtL_nil)))))) (rtAL_cons (rtA_eq rfl) (rtAL_nil)))
theorem spec_l2Valve.l0_lp {F : (Exit → St → Prop) → St → Prop} {hv : List Tmp} {Q : Exit → St → Prop} {σ : St} {r : Int} {k : Nat} {a0_3 : List S_impl_PlantValve} {a1 : ByteArray} {x5 : Int} (H : spec_l2Valve.l0 k a0_3 a1 x5 = some r) (rn : List (Option Nat)) (h1 : Fits σ σ [] [(5, .int .i64 x5)] [] [] rn)
    (h2 : ∀ (k0 : Nat) (x5 : Int), k0 < k + 1 → spec_l2Valve.l0 k0 a0_3 a1 x5 = some r → headN σ hv [] [(5, .int .i64 x5)] [] [] (F (fun e σ' => match e with | .normal => ∃ (y : Nat × Int) (rn : List (Option Nat)), (spec_l2Valve.l0 y.1 a0_3 a1 y.2 = some r ∧ y.1 < k + 1) ∧ y.1 < k0 ∧ Fits σ σ' [] [(5, .int .i64 y.2)] [] [] rn | e => Q e σ'))) : Lp F hv Q σ := by
  unfold Lp
  refine ⟨Nat × Int, fun x => spec_l2Valve.l0 x.1 a0_3 a1 x.2 = some r ∧ x.1 < k + 1, fun x => x.1, [], fun x => [(5, .int .i64 x.2)], fun x => [], fun x => [], ⟨(k, x5), rn, ⟨H, Nat.lt_succ_self _⟩, h1⟩, ?_⟩
  rintro ⟨k, x5⟩ ⟨H, hk⟩
  exact h2 k x5 hk H
theorem spec_l2Valve.ac {k : Nat} {a0_0 : List ByteArray} {a0_1 : List S_impl_PlantFoe} {a0_2 : List S_impl_PlantPlace} {a0_3 : List S_impl_PlantValve} {a1 : ByteArray} {r : Int} (H : spec_l2Valve.f k a0_0 a0_1 a0_2 a0_3 a1 = some r) : ACalls Try.prog G 188 [] [.agg [(sv_str a0_0), (sv_S_impl_PlantFoe a0_1), (sv_S_impl_PlantPlace a0_2), (sv_S_impl_PlantValve a0_3)], .str a1] [] (.int .i64 r) := by
  refine acalls_of tok hP Try.func188 rfl (by kernel_rfl) [.tmp 4] rfl (by kernel_rfl) (Nat.le_of_ble_eq_true rfl) (.l .n (.l (.l .n (.l .n (.l (.c .n .n) .n))) .n)) rfl ?_
  unfold spec_l2Valve.f at H
  conv => whnf
  refine spec_l2Valve.l0_lp (a0_3 := a0_3) (a1 := a1) (k := k) H [] (fits_of ⟨.inl ⟨rfl, rfl⟩, trivial⟩ trivial fi_ trivial rfl) ?_
  intro k x5 hk H; rcases k with _ | k; exact none_elim H; rw [spec_l2Valve.l0] at H; conv => whnf
  refine br_d H (fun c H => ?_) (fun c H => ?_)
  conv => whnf
  refine nd_ H (fun c H => ?_)
  conv => whnf
  refine Nd.mk nf_ ?_
  conv => whnf
  refine El.mk (rdm_en_S_impl_PlantValve _ _ nf_ nf_) ?_
  conv => whnf
  refine cut_ 128 [(1, .str a1), (2, .bp 0 0), (5, .int .i64 x5), (20, .bool (decide (((rd_impl_PlantValve a0_3 x5).f0).toList = a1.toList)))] [(0, .box [(sv_str a0_0), (sv_S_impl_PlantFoe a0_1), (sv_S_impl_PlantPlace a0_2), (sv_S_impl_PlantValve a0_3)])] rfl ⟨.inl rfl, ⟨.inl rfl, ⟨.inl rfl, ⟨.inl rfl, trivial⟩⟩⟩⟩ ⟨rfl, trivial⟩ ?_
  conv => whnf
  refine br_d H (fun c H => ?_) (fun c H => ?_)
  conv => whnf
  injection H with H; subst H
  exact ret_fz [] (rtA_eq rfl)
  conv => whnf
  exact ⟨(k, wrap64 (x5 + 1)), [], ⟨H, lt_⟩, lt_, (fits_of ⟨.inl ⟨rfl, rfl⟩, trivial⟩ trivial fi_ trivial rfl)⟩
  conv => whnf
  injection H with H; subst H
  exact ret_fz [] (rtA_eq rfl)
theorem spec_l3Valve.l0_lp {F : (Exit → St → Prop) → St → Prop} {hv : List Tmp} {Q : Exit → St → Prop} {σ : St} {r : (List ByteArray) × (List S_impl_PlantFoe) × (List S_impl_PlantPlace) × (List S_impl_PlantValve) × Int} {k : Nat} {a0_0 : List ByteArray} {a0_1 : List S_impl_PlantFoe} {a0_2 : List S_impl_PlantPlace} {a0_3 : List S_impl_PlantValve} {l1 : List ByteArray} {x7 : Int} (H : spec_l3Valve.l0 k a0_0 a0_1 a0_2 a0_3 l1 x7 = some r) (rn : List (Option Nat)) (h1 : Fits σ σ [] [(7, .int .i64 x7)] [] [] rn)
    (h2 : ∀ (k0 : Nat) (x7 : Int), k0 < k + 1 → spec_l3Valve.l0 k0 a0_0 a0_1 a0_2 a0_3 l1 x7 = some r → headN σ hv [] [(7, .int .i64 x7)] [] [] (F (fun e σ' => match e with | .normal => ∃ (y : Nat × Int) (rn : List (Option Nat)), (spec_l3Valve.l0 y.1 a0_0 a0_1 a0_2 a0_3 l1 y.2 = some r ∧ y.1 < k + 1) ∧ y.1 < k0 ∧ Fits σ σ' [] [(7, .int .i64 y.2)] [] [] rn | e => Q e σ'))) : Lp F hv Q σ := by
  unfold Lp
  refine ⟨Nat × Int, fun x => spec_l3Valve.l0 x.1 a0_0 a0_1 a0_2 a0_3 l1 x.2 = some r ∧ x.1 < k + 1, fun x => x.1, [], fun x => [(7, .int .i64 x.2)], fun x => [], fun x => [], ⟨(k, x7), rn, ⟨H, Nat.lt_succ_self _⟩, h1⟩, ?_⟩
  rintro ⟨k, x7⟩ ⟨H, hk⟩
  exact h2 k x7 hk H
theorem spec_l3Valve.l1_lp {F : (Exit → St → Prop) → St → Prop} {hv : List Tmp} {Q : Exit → St → Prop} {σ : St} {r : (List ByteArray) × (List S_impl_PlantFoe) × (List S_impl_PlantPlace) × (List S_impl_PlantValve) × Int} {k : Nat} {a0_0 : List ByteArray} {a0_1 : List S_impl_PlantFoe} {a0_2 : List S_impl_PlantPlace} {a0_3 : List S_impl_PlantValve} {l1 : List ByteArray} {x7_1 : Int} (H : spec_l3Valve.l1 k a0_0 a0_1 a0_2 a0_3 l1 x7_1 = some r) (rn : List (Option Nat)) (h1 : Fits σ σ [] [(7, .int .i64 x7_1)] [] [] rn)
    (h2 : ∀ (k0 : Nat) (x7_1 : Int), k0 < k + 1 → spec_l3Valve.l1 k0 a0_0 a0_1 a0_2 a0_3 l1 x7_1 = some r → headN σ hv [] [(7, .int .i64 x7_1)] [] [] (F (fun e σ' => match e with | .normal => ∃ (y : Nat × Int) (rn : List (Option Nat)), (spec_l3Valve.l1 y.1 a0_0 a0_1 a0_2 a0_3 l1 y.2 = some r ∧ y.1 < k + 1) ∧ y.1 < k0 ∧ Fits σ σ' [] [(7, .int .i64 y.2)] [] [] rn | e => Q e σ'))) : Lp F hv Q σ := by
  unfold Lp
  refine ⟨Nat × Int, fun x => spec_l3Valve.l1 x.1 a0_0 a0_1 a0_2 a0_3 l1 x.2 = some r ∧ x.1 < k + 1, fun x => x.1, [], fun x => [(7, .int .i64 x.2)], fun x => [], fun x => [], ⟨(k, x7_1), rn, ⟨H, Nat.lt_succ_self _⟩, h1⟩, ?_⟩
  rintro ⟨k, x7_1⟩ ⟨H, hk⟩
  exact h2 k x7_1 hk H
theorem spec_l3Valve.ac {k : Nat} {a0_0 : List ByteArray} {a0_1 : List S_impl_PlantFoe} {a0_2 : List S_impl_PlantPlace} {a0_3 : List S_impl_PlantValve} {l1 : List ByteArray} {r : (List ByteArray) × (List S_impl_PlantFoe) × (List S_impl_PlantPlace) × (List S_impl_PlantValve) × Int} (H : spec_l3Valve.f k a0_0 a0_1 a0_2 a0_3 l1 = some r) : ACalls Try.prog G 219 [] [.agg [(sv_str a0_0), (sv_S_impl_PlantFoe a0_1), (sv_S_impl_PlantPlace a0_2), (sv_S_impl_PlantValve a0_3)], (sv_str l1)] [] (.tup [.agg [(sv_str r.1), (sv_S_impl_PlantFoe r.2.1), (sv_S_impl_PlantPlace r.2.2.1), (sv_S_impl_PlantValve r.2.2.2.1)], .int .i64 r.2.2.2.2]) := by
  refine acalls_of tok hP Try.func219 rfl (by kernel_rfl) [.cell 4 44, .tmp 5] rfl (by kernel_rfl) (Nat.le_of_ble_eq_true rfl) (.l .n (.l (.c .n (.l (.c .n .n) .n)) (.l .n (.l (.c .n (.l (.c .n .n) .n)) (.l .n (.c .n (.c .n (.c .n (.l (.l (.c .n .n) .n) (.c .n .n)))))))))) rfl ?_
  unfold spec_l3Valve.f at H
  conv => whnf
  refine br_nd H (fun c H => ?_) (fun c H => ?_)
  conv => whnf
  refine Br.f ff_ ?_
  conv => whnf
  refine Nd.mk (by decide) ?_
  conv => whnf
  refine nd_ H (fun c H => ?_)
  conv => whnf
  refine El.mk (rdm_en_str _ _ nf_ nf_) ?_
  conv => whnf
  refine Br.f ff_ ?_
  conv => whnf
  refine Br.f ff_ ?_
  conv => whnf
  revert H; refine bind_elim (fun t642 A H => ?_)
  refine call_mk (spec_l2NameOk.ac A) (avAL_cons (avA_shut' rfl) (avAL_nil)) (Or.inl rfl) rfl rfl (Nat.le_of_ble_eq_true rfl) ?_
  conv => whnf
  refine Br.f ff_ ?_
  conv => whnf
  refine Br.f ff_ ?_
  conv => whnf
  refine br_nt H (fun c H => ?_) (fun c H => ?_)
  conv => whnf
  refine Br.f ff_ ?_
  conv => whnf
  refine Nd.mk (by decide) ?_
  conv => whnf
  refine nd_ H (fun c H => ?_)
  conv => whnf
  refine El.mk (rdm_en_str _ _ nf_ nf_) ?_
  conv => whnf
  refine Br.f ff_ ?_
  conv => whnf
  refine Br.f ff_ ?_
  conv => whnf
  revert H; refine bind_elim (fun t643 A H => ?_)
  refine call_mk (spec_l2NameOk.ac A) (avAL_cons (avA_shut' rfl) (avAL_nil)) (Or.inl rfl) rfl rfl (Nat.le_of_ble_eq_true rfl) ?_
  conv => whnf
  refine Br.f ff_ ?_
  conv => whnf
  refine Br.f ff_ ?_
  conv => whnf
  refine br_nt H (fun c H => ?_) (fun c H => ?_)
  conv => whnf
  refine Br.f ff_ ?_
  conv => whnf
  refine Nd.mk (by decide) ?_
  conv => whnf
  refine nd_ H (fun c H => ?_)
  conv => whnf
  refine El.mk (rdm_en_str _ _ nf_ nf_) ?_
  conv => whnf
  refine Br.f ff_ ?_
  conv => whnf
  refine Br.f ff_ ?_
  conv => whnf
  revert H; refine bind_elim (fun t644 A H => ?_)
  refine call_mk (spec_l2NameOk.ac A) (avAL_cons (avA_shut' rfl) (avAL_nil)) (Or.inl rfl) rfl rfl (Nat.le_of_ble_eq_true rfl) ?_
  conv => whnf
  refine Br.f ff_ ?_
  conv => whnf
  refine Br.f ff_ ?_
  conv => whnf
  refine br_nt H (fun c H => ?_) (fun c H => ?_)
  conv => whnf
  refine Br.f ff_ ?_
  conv => whnf
  refine Nd.mk (by decide) ?_
  conv => whnf
  refine Nd.mk nf_ ?_
  conv => whnf
  refine El.mk (rdm_en_str _ _ nf_ nf_) ?_
  conv => whnf
  refine Br.f ff_ ?_
  conv => whnf
  refine Br.f ff_ ?_
  conv => whnf
  refine Br.f ff_ ?_
  conv => whnf
  refine Nd.mk (by decide) ?_
  conv => whnf
  refine Nd.mk nf_ ?_
  conv => whnf
  refine El.mk (rdm_en_str _ _ nf_ nf_) ?_
  conv => whnf
  refine Br.f ff_ ?_
  conv => whnf
  refine Br.f ff_ ?_
  conv => whnf
  refine Br.f ff_ ?_
  conv => whnf
  refine br_d H (fun c H => ?_) (fun c H => ?_)
  conv => whnf
  refine Br.t ft_ ?_
  conv => whnf
  refine Br.t ft_ ?_
  conv => whnf
  refine Br.t ft_ ?_
  conv => whnf
  refine Br.t ft_ ?_
  conv => whnf
  refine Br.t ft_ ?_
  conv => whnf
  refine cut_ 344 [(1, (sv_str l1)), (2, .bp 0 0), (4, .bp 8 0), (47, .bool true)] [(0, .box [(sv_str a0_0), (sv_S_impl_PlantFoe a0_1), (sv_S_impl_PlantPlace a0_2), (sv_S_impl_PlantValve a0_3)]), (8, .box [.nil, .nil, .nil, .nil])] rfl ⟨.inl rfl, ⟨.inl rfl, ⟨.inl rfl, ⟨.inl rfl, trivial⟩⟩⟩⟩ ⟨rfl, ⟨rfl, trivial⟩⟩ ?_
  conv => whnf
  refine Br.t rfl ?_
  conv => whnf
  refine cut_ 368 [(4, .bp 8 0), (5, .int .i64 3)] [(8, .box [(sv_str a0_0), (sv_S_impl_PlantFoe a0_1), (sv_S_impl_PlantPlace a0_2), (sv_S_impl_PlantValve a0_3)])] rfl ⟨.inl rfl, ⟨.inl rfl, trivial⟩⟩ ⟨rfl, trivial⟩ ?_
  conv => whnf
  injection H with H; subst H
  exact ret_tup [] (rtAL_cons (rtA_agg (rtL_cons (rt_eq rfl) (rtL_cons (rt_eq rfl) (rtL_cons (rt_eq rfl) (rtL_cons (rt_eq rfl) (rtL_nil)))))) (rtAL_cons (rtA_eq rfl) (rtAL_nil)))
  conv => whnf
  refine Br.f ff_ ?_
  conv => whnf
  refine Nd.mk (by decide) ?_
  conv => whnf
  refine nd_ H (fun c H => ?_)
  conv => whnf
  refine El.mk (rdm_en_str _ _ nf_ nf_) ?_
  conv => whnf
  refine Br.f ff_ ?_
  conv => whnf
  refine Br.f ff_ ?_
  conv => whnf
  revert H; refine bind_elim (fun t645 A H => ?_)
  refine call_mk (spec_l2NameOk.ac A) (avAL_cons (avA_shut' rfl) (avAL_nil)) (Or.inl rfl) rfl rfl (Nat.le_of_ble_eq_true rfl) ?_
  conv => whnf
  refine Br.f ff_ ?_
  conv => whnf
  refine Br.f ff_ ?_
  conv => whnf
  refine cut_ 344 [(1, (sv_str l1)), (2, .bp 0 0), (4, .bp 8 0), (47, .bool (!t645))] [(0, .box [(sv_str a0_0), (sv_S_impl_PlantFoe a0_1), (sv_S_impl_PlantPlace a0_2), (sv_S_impl_PlantValve a0_3)]), (8, .box [.nil, .nil, .nil, .nil])] rfl ⟨.inl rfl, ⟨.inl rfl, ⟨.inl rfl, ⟨.inl rfl, trivial⟩⟩⟩⟩ ⟨rfl, ⟨rfl, trivial⟩⟩ ?_
  conv => whnf
  refine br_nt H (fun c H => ?_) (fun c H => ?_)
  conv => whnf
  refine Nd.mk (by decide) ?_
  conv => whnf
  refine Nd.mk nf_ ?_
  conv => whnf
  refine El.mk (rdm_en_str _ _ nf_ nf_) ?_
  conv => whnf
  revert H; refine bind_elim (fun t648 A H => ?_)
  refine call_mk (spec_l2Valve.ac A) (avAL_cons (avA_agg (avL_cons (av_shut' rfl) (avL_cons (av_shut' rfl) (avL_cons (av_shut' rfl) (avL_cons (av_shut' rfl) (avL_nil)))))) (avAL_cons (avA_shut' rfl) (avAL_nil))) (Or.inl rfl) rfl rfl (Nat.le_of_ble_eq_true rfl) ?_
  conv => whnf
  refine br_d H (fun c H => ?_) (fun c H => ?_)
  conv => whnf
  injection H with H; subst H
  exact ret_tup [] (rtAL_cons (rtA_agg (rtL_cons (rt_eq rfl) (rtL_cons (rt_eq rfl) (rtL_cons (rt_eq rfl) (rtL_cons (rt_eq rfl) (rtL_nil)))))) (rtAL_cons (rtA_eq rfl) (rtAL_nil)))
  conv => whnf
  refine Nd.mk (by decide) ?_
  conv => whnf
  refine Nd.mk nf_ ?_
  conv => whnf
  refine El.mk (rdm_en_str _ _ nf_ nf_) ?_
  conv => whnf
  revert H; refine bind_elim (fun t653 A H => ?_)
  refine call_mk (spec_l2Place.ac A) (avAL_cons (avA_agg (avL_cons (av_shut' rfl) (avL_cons (av_shut' rfl) (avL_cons (av_shut' rfl) (avL_cons (av_shut' rfl) (avL_nil)))))) (avAL_cons (avA_shut' rfl) (avAL_nil))) (Or.inl rfl) rfl rfl (Nat.le_of_ble_eq_true rfl) ?_
  conv => whnf
  refine br_d H (fun c H => ?_) (fun c H => ?_)
  conv => whnf
  refine Br.t ft_ ?_
  conv => whnf
  refine Br.t ft_ ?_
  conv => whnf
  refine Br.t ft_ ?_
  conv => whnf
  refine Br.t ft_ ?_
  conv => whnf
  refine Br.t ft_ ?_
  conv => whnf
  refine Br.t ft_ ?_
  conv => whnf
  refine cut_ 504 [(1, (sv_str l1)), (2, .bp 0 0), (4, .bp 8 0), (69, .bool true)] [(0, .box [(sv_str a0_0), (sv_S_impl_PlantFoe a0_1), (sv_S_impl_PlantPlace a0_2), (sv_S_impl_PlantValve a0_3)]), (8, .box [.nil, .nil, .nil, .nil])] rfl ⟨.inl rfl, ⟨.inl rfl, ⟨.inl rfl, ⟨.inl rfl, trivial⟩⟩⟩⟩ ⟨rfl, ⟨rfl, trivial⟩⟩ ?_
  conv => whnf
  refine Br.t rfl ?_
  conv => whnf
  refine cut_ 528 [(4, .bp 8 0), (5, .int .i64 5)] [(8, .box [(sv_str a0_0), (sv_S_impl_PlantFoe a0_1), (sv_S_impl_PlantPlace a0_2), (sv_S_impl_PlantValve a0_3)])] rfl ⟨.inl rfl, ⟨.inl rfl, trivial⟩⟩ ⟨rfl, trivial⟩ ?_
  conv => whnf
  injection H with H; subst H
  exact ret_tup [] (rtAL_cons (rtA_agg (rtL_cons (rt_eq rfl) (rtL_cons (rt_eq rfl) (rtL_cons (rt_eq rfl) (rtL_cons (rt_eq rfl) (rtL_nil)))))) (rtAL_cons (rtA_eq rfl) (rtAL_nil)))
  conv => whnf
  refine Br.f ff_ ?_
  conv => whnf
  refine Br.f ff_ ?_
  conv => whnf
  refine Nd.mk (by decide) ?_
  conv => whnf
  refine Nd.mk nf_ ?_
  conv => whnf
  refine El.mk (rdm_en_str _ _ nf_ nf_) ?_
  conv => whnf
  refine Br.f ff_ ?_
  conv => whnf
  refine Br.f ff_ ?_
  conv => whnf
  revert H; refine bind_elim (fun t654 A H => ?_)
  refine call_mk (spec_l2Place.ac A) (avAL_cons (avA_agg (avL_cons (av_shut' rfl) (avL_cons (av_shut' rfl) (avL_cons (av_shut' rfl) (avL_cons (av_shut' rfl) (avL_nil)))))) (avAL_cons (avA_shut' rfl) (avAL_nil))) (Or.inl rfl) rfl rfl (Nat.le_of_ble_eq_true rfl) ?_
  conv => whnf
  refine Br.f ff_ ?_
  conv => whnf
  refine Br.f ff_ ?_
  conv => whnf
  refine cut_ 504 [(1, (sv_str l1)), (2, .bp 0 0), (4, .bp 8 0), (69, .bool (decide (t654 < 0)))] [(0, .box [(sv_str a0_0), (sv_S_impl_PlantFoe a0_1), (sv_S_impl_PlantPlace a0_2), (sv_S_impl_PlantValve a0_3)]), (8, .box [.nil, .nil, .nil, .nil])] rfl ⟨.inl rfl, ⟨.inl rfl, ⟨.inl rfl, ⟨.inl rfl, trivial⟩⟩⟩⟩ ⟨rfl, ⟨rfl, trivial⟩⟩ ?_
  conv => whnf
  refine br_d H (fun c H => ?_) (fun c H => ?_)
  conv => whnf
  refine cut_ 528 [(4, .bp 8 0), (5, .int .i64 5)] [(8, .box [(sv_str a0_0), (sv_S_impl_PlantFoe a0_1), (sv_S_impl_PlantPlace a0_2), (sv_S_impl_PlantValve a0_3)])] rfl ⟨.inl rfl, ⟨.inl rfl, trivial⟩⟩ ⟨rfl, trivial⟩ ?_
  conv => whnf
  injection H with H; subst H
  exact ret_tup [] (rtAL_cons (rtA_agg (rtL_cons (rt_eq rfl) (rtL_cons (rt_eq rfl) (rtL_cons (rt_eq rfl) (rtL_cons (rt_eq rfl) (rtL_nil)))))) (rtAL_cons (rtA_eq rfl) (rtAL_nil)))
  conv => whnf
  refine br_d H (fun c H => ?_) (fun c H => ?_)
  conv => whnf
  injection H with H; subst H
  exact ret_tup [] (rtAL_cons (rtA_agg (rtL_cons (rt_eq rfl) (rtL_cons (rt_eq rfl) (rtL_cons (rt_eq rfl) (rtL_cons (rt_eq rfl) (rtL_nil)))))) (rtAL_cons (rtA_eq rfl) (rtAL_nil)))
  conv => whnf
  refine Nd.mk (by decide) ?_
  conv => whnf
  refine Nd.mk nf_ ?_
  conv => whnf
  refine El.mk (rdm_en_str _ _ nf_ nf_) ?_
  conv => whnf
  refine Nd.mk (by decide) ?_
  conv => whnf
  refine Nd.mk nf_ ?_
  conv => whnf
  refine El.mk (rdm_en_str _ _ nf_ nf_) ?_
  conv => whnf
  refine Nd.mk (by decide) ?_
  conv => whnf
  refine Nd.mk nf_ ?_
  conv => whnf
  refine El.mk (rdm_en_str _ _ nf_ nf_) ?_
  conv => whnf
  refine Nd.mk (by decide) ?_
  conv => whnf
  refine Nd.mk nf_ ?_
  conv => whnf
  refine El.mk (rdm_en_str _ _ nf_ nf_) ?_
  conv => whnf
  refine cut_ 656 [(1, (sv_str l1)), (2, .bp 0 0), (4, .bp 8 0), (6, .bp 640 0)] [(0, .box [(sv_str a0_0), (sv_S_impl_PlantFoe a0_1), (sv_S_impl_PlantPlace a0_2), (sv_S_impl_PlantValve a0_3)]), (8, .box [.nil, .nil, .nil, .nil]), (640, .box [.str (rdOf ByteArray.empty l1 1), .str (rdOf ByteArray.empty l1 2), .str (rdOf ByteArray.empty l1 3), .str (rdOf ByteArray.empty l1 4)])] rfl ⟨.inl rfl, ⟨.inl rfl, ⟨.inl rfl, ⟨.inl rfl, trivial⟩⟩⟩⟩ ⟨rfl, ⟨rfl, ⟨rfl, trivial⟩⟩⟩ ?_
  conv => whnf
  refine br_t H (fun c H => ?_) (fun c H => ?_)
  conv => whnf
  refine Nd.mk (by decide) ?_
  conv => whnf
  refine Nd.mk nf_ ?_
  conv => whnf
  refine El.mk (rdm_en_str _ _ nf_ nf_) ?_
  conv => whnf
  refine Nd.mk (by decide) ?_
  conv => whnf
  refine Nd.mk nf_ ?_
  conv => whnf
  refine El.mk (rdm_en_str _ _ nf_ nf_) ?_
  conv => whnf
  refine Nd.mk (by decide) ?_
  conv => whnf
  refine Nd.mk nf_ ?_
  conv => whnf
  refine El.mk (rdm_en_str _ _ nf_ nf_) ?_
  conv => whnf
  refine Nd.mk (by decide) ?_
  conv => whnf
  refine Nd.mk nf_ ?_
  conv => whnf
  refine El.mk (rdm_en_str _ _ nf_ nf_) ?_
  conv => whnf
  refine cut_ 808 [(2, .bp 0 0), (4, .bp 8 0), (6, .bp 640 0)] [(0, .box [(sv_str a0_0), (sv_S_impl_PlantFoe a0_1), (sv_S_impl_PlantPlace a0_2), (sv_S_impl_PlantValve a0_3)]), (8, .box [.nil, .nil, .nil, .nil]), (640, .box [.str (rdOf ByteArray.empty l1 1), .str (rdOf ByteArray.empty l1 3), .str (rdOf ByteArray.empty l1 2), .str (rdOf ByteArray.empty l1 4)])] rfl ⟨.inl rfl, ⟨.inl rfl, ⟨.inl rfl, trivial⟩⟩⟩ ⟨rfl, ⟨rfl, ⟨rfl, trivial⟩⟩⟩ ?_
  conv => whnf
  refine cut_ 816 [(2, .bp 0 0), (4, .bp 8 0), (6, .bp 640 0), (7, .int .i64 0)] [(0, .box [(sv_str a0_0), (sv_S_impl_PlantFoe a0_1), (sv_S_impl_PlantPlace a0_2), (sv_S_impl_PlantValve a0_3)]), (8, .box [.nil, .nil, .nil, .nil]), (640, .box [.str (rdOf ByteArray.empty l1 1), .str (rdOf ByteArray.empty l1 3), .str (rdOf ByteArray.empty l1 2), .str (rdOf ByteArray.empty l1 4)])] rfl ⟨.inl rfl, ⟨.inl rfl, ⟨.inl rfl, ⟨.inl rfl, trivial⟩⟩⟩⟩ ⟨rfl, ⟨rfl, ⟨rfl, trivial⟩⟩⟩ ?_
  conv => whnf
  refine spec_l3Valve.l0_lp (a0_0 := a0_0) (a0_1 := a0_1) (a0_2 := a0_2) (a0_3 := a0_3) (l1 := l1) (k := k) H [] (fits_of ⟨.inl ⟨rfl, rfl⟩, trivial⟩ trivial fi_ trivial rfl) ?_
  intro k x7 hk H; rcases k with _ | k; exact none_elim H; rw [spec_l3Valve.l0] at H; conv => whnf
  refine br_d H (fun c H => ?_) (fun c H => ?_)
  conv => whnf
  refine Br.t ft_ ?_
  conv => whnf
  refine Br.t ft_ ?_
  conv => whnf
  refine Br.t ft_ ?_
  conv => whnf
  refine nd_ H (fun c H => ?_)
  conv => whnf
  refine Nd.mk nf_ ?_
  conv => whnf
  refine El.mk (rdm_en_S_impl_PlantValve _ _ nf_ nf_) ?_
  conv => whnf
  refine Br.t ft_ ?_
  conv => whnf
  refine Br.t ft_ ?_
  conv => whnf
  refine Br.t ft_ ?_
  conv => whnf
  refine Br.t ft_ ?_
  conv => whnf
  refine Br.t ft_ ?_
  conv => whnf
  refine Br.t ft_ ?_
  conv => whnf
  refine cut_ 944 [(2, .bp 0 0), (4, .bp 8 0), (6, .bp 640 0), (7, .int .i64 x7), (122, .bool (Op.bytesLess ((rd_impl_PlantValve a0_3 x7).f0).toList (rdOf ByteArray.empty l1 1).toList))] [(0, .box [(sv_str a0_0), (sv_S_impl_PlantFoe a0_1), (sv_S_impl_PlantPlace a0_2), (sv_S_impl_PlantValve a0_3)]), (8, .box [.nil, .nil, .nil, .nil]), (640, .box [.str (rdOf ByteArray.empty l1 1), .str (rdOf ByteArray.empty l1 3), .str (rdOf ByteArray.empty l1 2), .str (rdOf ByteArray.empty l1 4)])] rfl ⟨.inl rfl, ⟨.inl rfl, ⟨.inl rfl, ⟨.inl rfl, ⟨.inl rfl, trivial⟩⟩⟩⟩⟩ ⟨rfl, ⟨rfl, ⟨rfl, trivial⟩⟩⟩ ?_
  conv => whnf
  refine br_t H (fun c H => ?_) (fun c H => ?_)
  conv => whnf
  exact ⟨(k, wrap64 (x7 + 1)), [], ⟨H, lt_⟩, lt_, (fits_of ⟨.inl ⟨rfl, rfl⟩, trivial⟩ trivial fi_ trivial rfl)⟩
  conv => whnf
  refine Or.inl ?_
  conv => whnf
  refine Nd.mk nf_ ?_
  conv => whnf
  refine nd_ H (fun c H => ?_)
  conv => whnf
  refine nd_ H (fun c H => ?_)
  conv => whnf
  refine Or.inl ?_
  conv => whnf
  refine nd_ H (fun c H => ?_)
  conv => whnf
  refine Nd.mk nf_ ?_
  conv => whnf
  refine Nd.mk nf_ ?_
  conv => whnf
  refine nd_ H (fun c H => ?_)
  conv => whnf
  refine cut_ 1072 [(2, .bp 0 0), (4, .bp 8 0)] [(0, .box [(sv_str a0_0), (sv_S_impl_PlantFoe a0_1), (sv_S_impl_PlantPlace a0_2), .own 1048 (0 + (x7).toNat + 1 + (a0_3.length - (x7).toNat))]), (8, .box [.nil, .nil, .nil, .nil]), (1048, .arr 135 4 ((((([] : List S_impl_PlantValve) ++ (a0_3.take (x7).toNat)) ++ ([(⟨rdOf ByteArray.empty l1 1, rdOf ByteArray.empty l1 3, rdOf ByteArray.empty l1 2, rdOf ByteArray.empty l1 4⟩ : S_impl_PlantValve)] : List S_impl_PlantValve)) ++ (a0_3.drop (x7).toNat)).map en_S_impl_PlantValve))] rfl ⟨.inl rfl, ⟨.inl rfl, trivial⟩⟩ ⟨rfl, ⟨rfl, ⟨fm_, trivial⟩⟩⟩ ?_
  conv => whnf
  injection H with H; subst H
  exact ret_tup [1048] (rtAL_cons (rtA_agg (rtL_cons (rt_eq rfl) (rtL_cons (rt_eq rfl) (rtL_cons (rt_eq rfl) (rtL_cons (rt_fzD rfl lm_ lm_ rfl) (rtL_nil)))))) (rtAL_cons (rtA_eq rfl) (rtAL_nil)))
  conv => whnf
  refine Br.f ff_ ?_
  conv => whnf
  refine Br.f ff_ ?_
  conv => whnf
  refine Br.f ff_ ?_
  conv => whnf
  refine Br.f ff_ ?_
  conv => whnf
  refine Br.f ff_ ?_
  conv => whnf
  refine Br.f ff_ ?_
  conv => whnf
  refine Br.f ff_ ?_
  conv => whnf
  refine Br.f ff_ ?_
  conv => whnf
  refine Br.f ff_ ?_
  conv => whnf
  refine cut_ 944 [(2, .bp 0 0), (4, .bp 8 0), (6, .bp 640 0), (7, .int .i64 x7), (122, .bool false)] [(0, .box [(sv_str a0_0), (sv_S_impl_PlantFoe a0_1), (sv_S_impl_PlantPlace a0_2), (sv_S_impl_PlantValve a0_3)]), (8, .box [.nil, .nil, .nil, .nil]), (640, .box [.str (rdOf ByteArray.empty l1 1), .str (rdOf ByteArray.empty l1 3), .str (rdOf ByteArray.empty l1 2), .str (rdOf ByteArray.empty l1 4)])] rfl ⟨.inl rfl, ⟨.inl rfl, ⟨.inl rfl, ⟨.inl rfl, ⟨.inl rfl, trivial⟩⟩⟩⟩⟩ ⟨rfl, ⟨rfl, ⟨rfl, trivial⟩⟩⟩ ?_
  conv => whnf
  refine Br.f rfl ?_
  conv => whnf
  refine Or.inl ?_
  conv => whnf
  refine nd_ H (fun c H => ?_)
  conv => whnf
  refine nd_ H (fun c H => ?_)
  conv => whnf
  refine nd_ H (fun c H => ?_)
  conv => whnf
  refine Or.inl ?_
  conv => whnf
  refine nd_ H (fun c H => ?_)
  conv => whnf
  refine Nd.mk nf_ ?_
  conv => whnf
  refine Nd.mk nf_ ?_
  conv => whnf
  refine nd_ H (fun c H => ?_)
  conv => whnf
  refine cut_ 1072 [(2, .bp 0 0), (4, .bp 8 0)] [(0, .box [(sv_str a0_0), (sv_S_impl_PlantFoe a0_1), (sv_S_impl_PlantPlace a0_2), .own 1048 (0 + (x7).toNat + 1 + (a0_3.length - (x7).toNat))]), (8, .box [.nil, .nil, .nil, .nil]), (1048, .arr 135 4 ((((([] : List S_impl_PlantValve) ++ (a0_3.take (x7).toNat)) ++ ([(⟨rdOf ByteArray.empty l1 1, rdOf ByteArray.empty l1 3, rdOf ByteArray.empty l1 2, rdOf ByteArray.empty l1 4⟩ : S_impl_PlantValve)] : List S_impl_PlantValve)) ++ (a0_3.drop (x7).toNat)).map en_S_impl_PlantValve))] rfl ⟨.inl rfl, ⟨.inl rfl, trivial⟩⟩ ⟨rfl, ⟨rfl, ⟨fm_, trivial⟩⟩⟩ ?_
  conv => whnf
  injection H with H; subst H
  exact ret_tup [1048] (rtAL_cons (rtA_agg (rtL_cons (rt_eq rfl) (rtL_cons (rt_eq rfl) (rtL_cons (rt_eq rfl) (rtL_cons (rt_fzD rfl lm_ lm_ rfl) (rtL_nil)))))) (rtAL_cons (rtA_eq rfl) (rtAL_nil)))
  conv => whnf
  refine cut_ 696 [(2, .bp 0 0), (4, .bp 8 0), (6, .bp 640 0)] [(0, .box [(sv_str a0_0), (sv_S_impl_PlantFoe a0_1), (sv_S_impl_PlantPlace a0_2), (sv_S_impl_PlantValve a0_3)]), (8, .box [.nil, .nil, .nil, .nil]), (640, .box [.str (rdOf ByteArray.empty l1 1), .str (rdOf ByteArray.empty l1 2), .str (rdOf ByteArray.empty l1 3), .str (rdOf ByteArray.empty l1 4)])] rfl ⟨.inl rfl, ⟨.inl rfl, ⟨.inl rfl, trivial⟩⟩⟩ ⟨rfl, ⟨rfl, ⟨rfl, trivial⟩⟩⟩ ?_
  conv => whnf
  refine cut_ 704 [(2, .bp 0 0), (4, .bp 8 0), (6, .bp 640 0), (7, .int .i64 0)] [(0, .box [(sv_str a0_0), (sv_S_impl_PlantFoe a0_1), (sv_S_impl_PlantPlace a0_2), (sv_S_impl_PlantValve a0_3)]), (8, .box [.nil, .nil, .nil, .nil]), (640, .box [.str (rdOf ByteArray.empty l1 1), .str (rdOf ByteArray.empty l1 2), .str (rdOf ByteArray.empty l1 3), .str (rdOf ByteArray.empty l1 4)])] rfl ⟨.inl rfl, ⟨.inl rfl, ⟨.inl rfl, ⟨.inl rfl, trivial⟩⟩⟩⟩ ⟨rfl, ⟨rfl, ⟨rfl, trivial⟩⟩⟩ ?_
  conv => whnf
  refine spec_l3Valve.l1_lp (a0_0 := a0_0) (a0_1 := a0_1) (a0_2 := a0_2) (a0_3 := a0_3) (l1 := l1) (k := k) H [] (fits_of ⟨.inl ⟨rfl, rfl⟩, trivial⟩ trivial fi_ trivial rfl) ?_
  intro k x7_1 hk H; rcases k with _ | k; exact none_elim H; rw [spec_l3Valve.l1] at H; conv => whnf
  refine br_d H (fun c H => ?_) (fun c H => ?_)
  conv => whnf
  refine Br.t ft_ ?_
  conv => whnf
  refine Br.t ft_ ?_
  conv => whnf
  refine Br.t ft_ ?_
  conv => whnf
  refine nd_ H (fun c H => ?_)
  conv => whnf
  refine Nd.mk nf_ ?_
  conv => whnf
  refine El.mk (rdm_en_S_impl_PlantValve _ _ nf_ nf_) ?_
  conv => whnf
  refine Br.t ft_ ?_
  conv => whnf
  refine Br.t ft_ ?_
  conv => whnf
  refine Br.t ft_ ?_
  conv => whnf
  refine Br.t ft_ ?_
  conv => whnf
  refine Br.t ft_ ?_
  conv => whnf
  refine Br.t ft_ ?_
  conv => whnf
  refine cut_ 832 [(2, .bp 0 0), (4, .bp 8 0), (6, .bp 640 0), (7, .int .i64 x7_1), (122, .bool (Op.bytesLess ((rd_impl_PlantValve a0_3 x7_1).f0).toList (rdOf ByteArray.empty l1 1).toList))] [(0, .box [(sv_str a0_0), (sv_S_impl_PlantFoe a0_1), (sv_S_impl_PlantPlace a0_2), (sv_S_impl_PlantValve a0_3)]), (8, .box [.nil, .nil, .nil, .nil]), (640, .box [.str (rdOf ByteArray.empty l1 1), .str (rdOf ByteArray.empty l1 2), .str (rdOf ByteArray.empty l1 3), .str (rdOf ByteArray.empty l1 4)])] rfl ⟨.inl rfl, ⟨.inl rfl, ⟨.inl rfl, ⟨.inl rfl, ⟨.inl rfl, trivial⟩⟩⟩⟩⟩ ⟨rfl, ⟨rfl, ⟨rfl, trivial⟩⟩⟩ ?_
  conv => whnf
  refine br_t H (fun c H => ?_) (fun c H => ?_)
  conv => whnf
  exact ⟨(k, wrap64 (x7_1 + 1)), [], ⟨H, lt_⟩, lt_, (fits_of ⟨.inl ⟨rfl, rfl⟩, trivial⟩ trivial fi_ trivial rfl)⟩
  conv => whnf
  refine Or.inl ?_
  conv => whnf
  refine Nd.mk nf_ ?_
  conv => whnf
  refine nd_ H (fun c H => ?_)
  conv => whnf
  refine nd_ H (fun c H => ?_)
  conv => whnf
  refine Or.inl ?_
  conv => whnf
  refine nd_ H (fun c H => ?_)
  conv => whnf
  refine Nd.mk nf_ ?_
  conv => whnf
  refine Nd.mk nf_ ?_
  conv => whnf
  refine nd_ H (fun c H => ?_)
  conv => whnf
  refine cut_ 960 [(2, .bp 0 0), (4, .bp 8 0)] [(0, .box [(sv_str a0_0), (sv_S_impl_PlantFoe a0_1), (sv_S_impl_PlantPlace a0_2), .own 936 (0 + (x7_1).toNat + 1 + (a0_3.length - (x7_1).toNat))]), (8, .box [.nil, .nil, .nil, .nil]), (936, .arr 135 4 ((((([] : List S_impl_PlantValve) ++ (a0_3.take (x7_1).toNat)) ++ ([(⟨rdOf ByteArray.empty l1 1, rdOf ByteArray.empty l1 2, rdOf ByteArray.empty l1 3, rdOf ByteArray.empty l1 4⟩ : S_impl_PlantValve)] : List S_impl_PlantValve)) ++ (a0_3.drop (x7_1).toNat)).map en_S_impl_PlantValve))] rfl ⟨.inl rfl, ⟨.inl rfl, trivial⟩⟩ ⟨rfl, ⟨rfl, ⟨fm_, trivial⟩⟩⟩ ?_
  conv => whnf
  injection H with H; subst H
  exact ret_tup [936] (rtAL_cons (rtA_agg (rtL_cons (rt_eq rfl) (rtL_cons (rt_eq rfl) (rtL_cons (rt_eq rfl) (rtL_cons (rt_fzD rfl lm_ lm_ rfl) (rtL_nil)))))) (rtAL_cons (rtA_eq rfl) (rtAL_nil)))
  conv => whnf
  refine Br.f ff_ ?_
  conv => whnf
  refine Br.f ff_ ?_
  conv => whnf
  refine Br.f ff_ ?_
  conv => whnf
  refine Br.f ff_ ?_
  conv => whnf
  refine Br.f ff_ ?_
  conv => whnf
  refine Br.f ff_ ?_
  conv => whnf
  refine Br.f ff_ ?_
  conv => whnf
  refine Br.f ff_ ?_
  conv => whnf
  refine Br.f ff_ ?_
  conv => whnf
  refine cut_ 832 [(2, .bp 0 0), (4, .bp 8 0), (6, .bp 640 0), (7, .int .i64 x7_1), (122, .bool false)] [(0, .box [(sv_str a0_0), (sv_S_impl_PlantFoe a0_1), (sv_S_impl_PlantPlace a0_2), (sv_S_impl_PlantValve a0_3)]), (8, .box [.nil, .nil, .nil, .nil]), (640, .box [.str (rdOf ByteArray.empty l1 1), .str (rdOf ByteArray.empty l1 2), .str (rdOf ByteArray.empty l1 3), .str (rdOf ByteArray.empty l1 4)])] rfl ⟨.inl rfl, ⟨.inl rfl, ⟨.inl rfl, ⟨.inl rfl, ⟨.inl rfl, trivial⟩⟩⟩⟩⟩ ⟨rfl, ⟨rfl, ⟨rfl, trivial⟩⟩⟩ ?_
  conv => whnf
  refine Br.f rfl ?_
  conv => whnf
  refine Or.inl ?_
  conv => whnf
  refine nd_ H (fun c H => ?_)
  conv => whnf
  refine nd_ H (fun c H => ?_)
  conv => whnf
  refine nd_ H (fun c H => ?_)
  conv => whnf
  refine Or.inl ?_
  conv => whnf
  refine nd_ H (fun c H => ?_)
  conv => whnf
  refine Nd.mk nf_ ?_
  conv => whnf
  refine Nd.mk nf_ ?_
  conv => whnf
  refine nd_ H (fun c H => ?_)
  conv => whnf
  refine cut_ 960 [(2, .bp 0 0), (4, .bp 8 0)] [(0, .box [(sv_str a0_0), (sv_S_impl_PlantFoe a0_1), (sv_S_impl_PlantPlace a0_2), .own 936 (0 + (x7_1).toNat + 1 + (a0_3.length - (x7_1).toNat))]), (8, .box [.nil, .nil, .nil, .nil]), (936, .arr 135 4 ((((([] : List S_impl_PlantValve) ++ (a0_3.take (x7_1).toNat)) ++ ([(⟨rdOf ByteArray.empty l1 1, rdOf ByteArray.empty l1 2, rdOf ByteArray.empty l1 3, rdOf ByteArray.empty l1 4⟩ : S_impl_PlantValve)] : List S_impl_PlantValve)) ++ (a0_3.drop (x7_1).toNat)).map en_S_impl_PlantValve))] rfl ⟨.inl rfl, ⟨.inl rfl, trivial⟩⟩ ⟨rfl, ⟨rfl, ⟨fm_, trivial⟩⟩⟩ ?_
  conv => whnf
  injection H with H; subst H
  exact ret_tup [936] (rtAL_cons (rtA_agg (rtL_cons (rt_eq rfl) (rtL_cons (rt_eq rfl) (rtL_cons (rt_eq rfl) (rtL_cons (rt_fzD rfl lm_ lm_ rfl) (rtL_nil)))))) (rtAL_cons (rtA_eq rfl) (rtAL_nil)))
  conv => whnf
  refine cut_ 368 [(4, .bp 8 0), (5, .int .i64 3)] [(8, .box [(sv_str a0_0), (sv_S_impl_PlantFoe a0_1), (sv_S_impl_PlantPlace a0_2), (sv_S_impl_PlantValve a0_3)])] rfl ⟨.inl rfl, ⟨.inl rfl, trivial⟩⟩ ⟨rfl, trivial⟩ ?_
  conv => whnf
  injection H with H; subst H
  exact ret_tup [] (rtAL_cons (rtA_agg (rtL_cons (rt_eq rfl) (rtL_cons (rt_eq rfl) (rtL_cons (rt_eq rfl) (rtL_cons (rt_eq rfl) (rtL_nil)))))) (rtAL_cons (rtA_eq rfl) (rtAL_nil)))
  conv => whnf
  refine Br.t ft_ ?_
  conv => whnf
  refine Br.t ft_ ?_
  conv => whnf
  refine Br.t ft_ ?_
  conv => whnf
  refine Br.t ft_ ?_
  conv => whnf
  refine Br.t ft_ ?_
  conv => whnf
  refine Br.t ft_ ?_
  conv => whnf
  refine Br.t ft_ ?_
  conv => whnf
  refine Br.t rfl ?_
  conv => whnf
  refine Br.t rfl ?_
  conv => whnf
  refine Br.t rfl ?_
  conv => whnf
  refine Br.t rfl ?_
  conv => whnf
  refine Br.t rfl ?_
  conv => whnf
  refine Br.t rfl ?_
  conv => whnf
  refine cut_ 344 [(1, (sv_str l1)), (2, .bp 0 0), (4, .bp 8 0), (47, .bool true)] [(0, .box [(sv_str a0_0), (sv_S_impl_PlantFoe a0_1), (sv_S_impl_PlantPlace a0_2), (sv_S_impl_PlantValve a0_3)]), (8, .box [.nil, .nil, .nil, .nil])] rfl ⟨.inl rfl, ⟨.inl rfl, ⟨.inl rfl, ⟨.inl rfl, trivial⟩⟩⟩⟩ ⟨rfl, ⟨rfl, trivial⟩⟩ ?_
  conv => whnf
  refine Br.t rfl ?_
  conv => whnf
  refine cut_ 368 [(4, .bp 8 0), (5, .int .i64 3)] [(8, .box [(sv_str a0_0), (sv_S_impl_PlantFoe a0_1), (sv_S_impl_PlantPlace a0_2), (sv_S_impl_PlantValve a0_3)])] rfl ⟨.inl rfl, ⟨.inl rfl, trivial⟩⟩ ⟨rfl, trivial⟩ ?_
  conv => whnf
  injection H with H; subst H
  exact ret_tup [] (rtAL_cons (rtA_agg (rtL_cons (rt_eq rfl) (rtL_cons (rt_eq rfl) (rtL_cons (rt_eq rfl) (rtL_cons (rt_eq rfl) (rtL_nil)))))) (rtAL_cons (rtA_eq rfl) (rtAL_nil)))
  conv => whnf
  refine Br.t ft_ ?_
  conv => whnf
  refine Br.t ft_ ?_
  conv => whnf
  refine Br.t ft_ ?_
  conv => whnf
  refine Br.t ft_ ?_
  conv => whnf
  refine Br.t ft_ ?_
  conv => whnf
  refine Br.t rfl ?_
  conv => whnf
  refine Br.t rfl ?_
  conv => whnf
  refine Br.t rfl ?_
  conv => whnf
  refine Br.t rfl ?_
  conv => whnf
  refine Br.t rfl ?_
  conv => whnf
  refine Br.t rfl ?_
  conv => whnf
  refine Br.t rfl ?_
  conv => whnf
  refine Br.t rfl ?_
  conv => whnf
  refine Br.t rfl ?_
  conv => whnf
  refine Br.t rfl ?_
  conv => whnf
  refine Br.t rfl ?_
  conv => whnf
  refine Br.t rfl ?_
  conv => whnf
  refine Br.t rfl ?_
  conv => whnf
  refine Br.t rfl ?_
  conv => whnf
  refine cut_ 344 [(1, (sv_str l1)), (2, .bp 0 0), (4, .bp 8 0), (47, .bool true)] [(0, .box [(sv_str a0_0), (sv_S_impl_PlantFoe a0_1), (sv_S_impl_PlantPlace a0_2), (sv_S_impl_PlantValve a0_3)]), (8, .box [.nil, .nil, .nil, .nil])] rfl ⟨.inl rfl, ⟨.inl rfl, ⟨.inl rfl, ⟨.inl rfl, trivial⟩⟩⟩⟩ ⟨rfl, ⟨rfl, trivial⟩⟩ ?_
  conv => whnf
  refine Br.t rfl ?_
  conv => whnf
  refine cut_ 368 [(4, .bp 8 0), (5, .int .i64 3)] [(8, .box [(sv_str a0_0), (sv_S_impl_PlantFoe a0_1), (sv_S_impl_PlantPlace a0_2), (sv_S_impl_PlantValve a0_3)])] rfl ⟨.inl rfl, ⟨.inl rfl, trivial⟩⟩ ⟨rfl, trivial⟩ ?_
  conv => whnf
  injection H with H; subst H
  exact ret_tup [] (rtAL_cons (rtA_agg (rtL_cons (rt_eq rfl) (rtL_cons (rt_eq rfl) (rtL_cons (rt_eq rfl) (rtL_cons (rt_eq rfl) (rtL_nil)))))) (rtAL_cons (rtA_eq rfl) (rtAL_nil)))
  conv => whnf
  refine Br.t ft_ ?_
  conv => whnf
  refine Br.t ft_ ?_
  conv => whnf
  refine Br.t ft_ ?_
  conv => whnf
  refine Br.t ft_ ?_
  conv => whnf
  refine Br.t ft_ ?_
  conv => whnf
  refine Br.t rfl ?_
  conv => whnf
  refine Br.t rfl ?_
  conv => whnf
  refine Br.t rfl ?_
  conv => whnf
  refine Br.t rfl ?_
  conv => whnf
  refine Br.t rfl ?_
  conv => whnf
  refine Br.t rfl ?_
  conv => whnf
  refine Br.t rfl ?_
  conv => whnf
  refine Br.t rfl ?_
  conv => whnf
  refine Br.t rfl ?_
  conv => whnf
  refine Br.t rfl ?_
  conv => whnf
  refine Br.t rfl ?_
  conv => whnf
  refine Br.t rfl ?_
  conv => whnf
  refine Br.t rfl ?_
  conv => whnf
  refine Br.t rfl ?_
  conv => whnf
  refine Br.t rfl ?_
  conv => whnf
  refine Br.t rfl ?_
  conv => whnf
  refine Br.t rfl ?_
  conv => whnf
  refine Br.t rfl ?_
  conv => whnf
  refine Br.t rfl ?_
  conv => whnf
  refine Br.t rfl ?_
  conv => whnf
  refine cut_ 344 [(1, (sv_str l1)), (2, .bp 0 0), (4, .bp 8 0), (47, .bool true)] [(0, .box [(sv_str a0_0), (sv_S_impl_PlantFoe a0_1), (sv_S_impl_PlantPlace a0_2), (sv_S_impl_PlantValve a0_3)]), (8, .box [.nil, .nil, .nil, .nil])] rfl ⟨.inl rfl, ⟨.inl rfl, ⟨.inl rfl, ⟨.inl rfl, trivial⟩⟩⟩⟩ ⟨rfl, ⟨rfl, trivial⟩⟩ ?_
  conv => whnf
  refine Br.t rfl ?_
  conv => whnf
  refine cut_ 368 [(4, .bp 8 0), (5, .int .i64 3)] [(8, .box [(sv_str a0_0), (sv_S_impl_PlantFoe a0_1), (sv_S_impl_PlantPlace a0_2), (sv_S_impl_PlantValve a0_3)])] rfl ⟨.inl rfl, ⟨.inl rfl, trivial⟩⟩ ⟨rfl, trivial⟩ ?_
  conv => whnf
  injection H with H; subst H
  exact ret_tup [] (rtAL_cons (rtA_agg (rtL_cons (rt_eq rfl) (rtL_cons (rt_eq rfl) (rtL_cons (rt_eq rfl) (rtL_cons (rt_eq rfl) (rtL_nil)))))) (rtAL_cons (rtA_eq rfl) (rtAL_nil)))
  conv => whnf
  refine Br.t ft_ ?_
  conv => whnf
  refine Br.t ft_ ?_
  conv => whnf
  refine Br.t ft_ ?_
  conv => whnf
  refine Br.t ft_ ?_
  conv => whnf
  refine Br.t ft_ ?_
  conv => whnf
  refine Br.t rfl ?_
  conv => whnf
  refine Br.t rfl ?_
  conv => whnf
  refine Br.t rfl ?_
  conv => whnf
  refine Br.t rfl ?_
  conv => whnf
  refine Br.t rfl ?_
  conv => whnf
  refine Br.t rfl ?_
  conv => whnf
  refine Br.t rfl ?_
  conv => whnf
  refine Br.t rfl ?_
  conv => whnf
  refine Br.t rfl ?_
  conv => whnf
  refine Br.t rfl ?_
  conv => whnf
  refine Br.t rfl ?_
  conv => whnf
  refine Br.t rfl ?_
  conv => whnf
  refine Br.t rfl ?_
  conv => whnf
  refine Br.t rfl ?_
  conv => whnf
  refine Br.t rfl ?_
  conv => whnf
  refine Br.t rfl ?_
  conv => whnf
  refine Br.t rfl ?_
  conv => whnf
  refine Br.t rfl ?_
  conv => whnf
  refine Br.t rfl ?_
  conv => whnf
  refine Br.t rfl ?_
  conv => whnf
  refine Br.t rfl ?_
  conv => whnf
  refine Br.t rfl ?_
  conv => whnf
  refine Br.t rfl ?_
  conv => whnf
  refine Br.t rfl ?_
  conv => whnf
  refine Br.t rfl ?_
  conv => whnf
  refine Br.t rfl ?_
  conv => whnf
  refine cut_ 344 [(1, (sv_str l1)), (2, .bp 0 0), (4, .bp 8 0), (47, .bool true)] [(0, .box [(sv_str a0_0), (sv_S_impl_PlantFoe a0_1), (sv_S_impl_PlantPlace a0_2), (sv_S_impl_PlantValve a0_3)]), (8, .box [.nil, .nil, .nil, .nil])] rfl ⟨.inl rfl, ⟨.inl rfl, ⟨.inl rfl, ⟨.inl rfl, trivial⟩⟩⟩⟩ ⟨rfl, ⟨rfl, trivial⟩⟩ ?_
  conv => whnf
  refine Br.t rfl ?_
  conv => whnf
  refine cut_ 368 [(4, .bp 8 0), (5, .int .i64 3)] [(8, .box [(sv_str a0_0), (sv_S_impl_PlantFoe a0_1), (sv_S_impl_PlantPlace a0_2), (sv_S_impl_PlantValve a0_3)])] rfl ⟨.inl rfl, ⟨.inl rfl, trivial⟩⟩ ⟨rfl, trivial⟩ ?_
  conv => whnf
  injection H with H; subst H
  exact ret_tup [] (rtAL_cons (rtA_agg (rtL_cons (rt_eq rfl) (rtL_cons (rt_eq rfl) (rtL_cons (rt_eq rfl) (rtL_cons (rt_eq rfl) (rtL_nil)))))) (rtAL_cons (rtA_eq rfl) (rtAL_nil)))
theorem spec_l3Put.ac {k : Nat} {a0_0 : List ByteArray} {a0_1 : List S_impl_PlantFoe} {a0_2 : List S_impl_PlantPlace} {a0_3 : List S_impl_PlantValve} {l1 : List ByteArray} {r : (List ByteArray) × (List S_impl_PlantFoe) × (List S_impl_PlantPlace) × (List S_impl_PlantValve) × Int} (H : spec_l3Put.f k a0_0 a0_1 a0_2 a0_3 l1 = some r) : ACalls Try.prog G 203 [] [.agg [(sv_str a0_0), (sv_S_impl_PlantFoe a0_1), (sv_S_impl_PlantPlace a0_2), (sv_S_impl_PlantValve a0_3)], (sv_str l1)] [] (.tup [.agg [(sv_str r.1), (sv_S_impl_PlantFoe r.2.1), (sv_S_impl_PlantPlace r.2.2.1), (sv_S_impl_PlantValve r.2.2.2.1)], .int .i64 r.2.2.2.2]) := by
  refine acalls_of tok hP Try.func203 rfl (by kernel_rfl) [.cell 4 44, .tmp 5] rfl (by kernel_rfl) (Nat.le_of_ble_eq_true rfl) (.l .n (.l (.l .n (.l .n (.l (.c .n .n) (.c .n (.l .n (.l .n (.l .n (.l .n (.l (.c .n .n) (.l .n (.l (.c .n .n) .n))))))))))) .n)) rfl ?_
  unfold spec_l3Put.f at H
  conv => whnf
  refine Nd.mk (by decide) ?_
  conv => whnf
  refine nd_ H (fun c H => ?_)
  conv => whnf
  refine El.mk (rdm_en_str _ _ nf_ nf_) ?_
  conv => whnf
  refine br_d H (fun c H => ?_) (fun c H => ?_)
  conv => whnf
  revert H; refine bind_elim (fun t871 A H => ?_)
  refine call_mk (spec_l3Stuff.ac A) (avAL_cons (avA_agg (avL_cons (av_shut' rfl) (avL_cons (av_shut' rfl) (avL_cons (av_shut' rfl) (avL_cons (av_shut' rfl) (avL_nil)))))) (avAL_cons (avA_shut' rfl) (avAL_nil))) (Or.inl rfl) rfl rfl (Nat.le_of_ble_eq_true rfl) ?_
  conv => whnf
  refine cut_ 120 [(4, .bp 8 0), (5, .int .i64 t871.2.2.2.2)] [(8, .box [(sv_str t871.1), (sv_S_impl_PlantFoe t871.2.1), (sv_S_impl_PlantPlace t871.2.2.1), (sv_S_impl_PlantValve t871.2.2.2.1)])] rfl ⟨.inl rfl, ⟨.inl rfl, trivial⟩⟩ ⟨rfl, trivial⟩ ?_
  conv => whnf
  injection H with H; subst H
  exact ret_tup [] (rtAL_cons (rtA_agg (rtL_cons (rt_eq rfl) (rtL_cons (rt_eq rfl) (rtL_cons (rt_eq rfl) (rtL_cons (rt_eq rfl) (rtL_nil)))))) (rtAL_cons (rtA_eq rfl) (rtAL_nil)))
  conv => whnf
  refine cut_ 80 [(1, (sv_str l1)), (2, .bp 0 0), (4, .bp 8 0), (8, .str (rdOf ByteArray.empty l1 0)), (16, .bool (decide ((rdOf ByteArray.empty l1 0).toList = (⟨#[102, 111, 101]⟩ : ByteArray).toList)))] [(0, .box [(sv_str a0_0), (sv_S_impl_PlantFoe a0_1), (sv_S_impl_PlantPlace a0_2), (sv_S_impl_PlantValve a0_3)]), (8, .box [.nil, .nil, .nil, .nil])] rfl ⟨.inl rfl, ⟨.inl rfl, ⟨.inl rfl, ⟨.inl rfl, ⟨.inl rfl, trivial⟩⟩⟩⟩⟩ ⟨rfl, ⟨rfl, trivial⟩⟩ ?_
  conv => whnf
  refine br_d H (fun c H => ?_) (fun c H => ?_)
  conv => whnf
  revert H; refine bind_elim (fun t872 A H => ?_)
  refine call_mk (spec_l3Foe.ac A) (avAL_cons (avA_agg (avL_cons (av_shut' rfl) (avL_cons (av_shut' rfl) (avL_cons (av_shut' rfl) (avL_cons (av_shut' rfl) (avL_nil)))))) (avAL_cons (avA_shut' rfl) (avAL_nil))) (Or.inl rfl) rfl rfl (Nat.le_of_ble_eq_true rfl) ?_
  conv => whnf
  injection H with H; subst H
  exact ret_tup [] (rtAL_cons (rtA_agg (rtL_cons (rt_eq rfl) (rtL_cons (rt_eq rfl) (rtL_cons (rt_eq rfl) (rtL_cons (rt_eq rfl) (rtL_nil)))))) (rtAL_cons (rtA_eq rfl) (rtAL_nil)))
  conv => whnf
  refine br_d H (fun c H => ?_) (fun c H => ?_)
  conv => whnf
  revert H; refine bind_elim (fun t873 A H => ?_)
  refine call_mk (spec_l3Vessel.ac A) (avAL_cons (avA_agg (avL_cons (av_shut' rfl) (avL_cons (av_shut' rfl) (avL_cons (av_shut' rfl) (avL_cons (av_shut' rfl) (avL_nil)))))) (avAL_cons (avA_shut' rfl) (avAL_nil))) (Or.inl rfl) rfl rfl (Nat.le_of_ble_eq_true rfl) ?_
  conv => whnf
  injection H with H; subst H
  exact ret_tup [] (rtAL_cons (rtA_agg (rtL_cons (rt_eq rfl) (rtL_cons (rt_eq rfl) (rtL_cons (rt_eq rfl) (rtL_cons (rt_eq rfl) (rtL_nil)))))) (rtAL_cons (rtA_eq rfl) (rtAL_nil)))
  conv => whnf
  refine br_d H (fun c H => ?_) (fun c H => ?_)
  conv => whnf
  revert H; refine bind_elim (fun t874 A H => ?_)
  refine call_mk (spec_l3Joint.ac A) (avAL_cons (avA_agg (avL_cons (av_shut' rfl) (avL_cons (av_shut' rfl) (avL_cons (av_shut' rfl) (avL_cons (av_shut' rfl) (avL_nil)))))) (avAL_cons (avA_shut' rfl) (avAL_nil))) (Or.inl rfl) rfl rfl (Nat.le_of_ble_eq_true rfl) ?_
  conv => whnf
  refine cut_ 168 [(4, .bp 8 0), (5, .int .i64 t874.2.2.2.2)] [(8, .box [(sv_str t874.1), (sv_S_impl_PlantFoe t874.2.1), (sv_S_impl_PlantPlace t874.2.2.1), (sv_S_impl_PlantValve t874.2.2.2.1)])] rfl ⟨.inl rfl, ⟨.inl rfl, trivial⟩⟩ ⟨rfl, trivial⟩ ?_
  conv => whnf
  injection H with H; subst H
  exact ret_tup [] (rtAL_cons (rtA_agg (rtL_cons (rt_eq rfl) (rtL_cons (rt_eq rfl) (rtL_cons (rt_eq rfl) (rtL_cons (rt_eq rfl) (rtL_nil)))))) (rtAL_cons (rtA_eq rfl) (rtAL_nil)))
  conv => whnf
  refine br_d H (fun c H => ?_) (fun c H => ?_)
  conv => whnf
  revert H; refine bind_elim (fun t875 A H => ?_)
  refine call_mk (spec_l3Valve.ac A) (avAL_cons (avA_agg (avL_cons (av_shut' rfl) (avL_cons (av_shut' rfl) (avL_cons (av_shut' rfl) (avL_cons (av_shut' rfl) (avL_nil)))))) (avAL_cons (avA_shut' rfl) (avAL_nil))) (Or.inl rfl) rfl rfl (Nat.le_of_ble_eq_true rfl) ?_
  conv => whnf
  refine cut_ 184 [(4, .bp 8 0), (5, .int .i64 t875.2.2.2.2)] [(8, .box [(sv_str t875.1), (sv_S_impl_PlantFoe t875.2.1), (sv_S_impl_PlantPlace t875.2.2.1), (sv_S_impl_PlantValve t875.2.2.2.1)])] rfl ⟨.inl rfl, ⟨.inl rfl, trivial⟩⟩ ⟨rfl, trivial⟩ ?_
  conv => whnf
  injection H with H; subst H
  exact ret_tup [] (rtAL_cons (rtA_agg (rtL_cons (rt_eq rfl) (rtL_cons (rt_eq rfl) (rtL_cons (rt_eq rfl) (rtL_cons (rt_eq rfl) (rtL_nil)))))) (rtAL_cons (rtA_eq rfl) (rtAL_nil)))
  conv => whnf
  injection H with H; subst H
  exact ret_tup [] (rtAL_cons (rtA_agg (rtL_cons (rt_eq rfl) (rtL_cons (rt_eq rfl) (rtL_cons (rt_eq rfl) (rtL_cons (rt_eq rfl) (rtL_nil)))))) (rtAL_cons (rtA_eq rfl) (rtAL_nil)))
theorem spec_l2Try.ac {k : Nat} {a0_0 : List ByteArray} {a0_1 : List S_impl_PlantFoe} {a0_2 : List S_impl_PlantPlace} {a0_3 : List S_impl_PlantValve} {l1 : List ByteArray} {r : (List ByteArray) × (List S_impl_PlantFoe) × (List S_impl_PlantPlace) × (List S_impl_PlantValve)} (H : spec_l2Try.f k a0_0 a0_1 a0_2 a0_3 l1 = some r) : ACalls Try.prog G 196 [] [.agg [(sv_str a0_0), (sv_S_impl_PlantFoe a0_1), (sv_S_impl_PlantPlace a0_2), (sv_S_impl_PlantValve a0_3)], (sv_str l1)] [] (.agg [(sv_str r.1), (sv_S_impl_PlantFoe r.2.1), (sv_S_impl_PlantPlace r.2.2.1), (sv_S_impl_PlantValve r.2.2.2)]) := by
  refine acalls_of tok hP Try.func196 rfl (by kernel_rfl) [.cell 4 44] rfl (by kernel_rfl) (Nat.le_of_ble_eq_true rfl) (.l .n (.c .n .n)) rfl ?_
  unfold spec_l2Try.f at H
  conv => whnf
  revert H; refine bind_elim (fun t888 A H => ?_)
  refine call_mk (spec_l3Put.ac A) (avAL_cons (avA_agg (avL_cons (av_shut' rfl) (avL_cons (av_shut' rfl) (avL_cons (av_shut' rfl) (avL_cons (av_shut' rfl) (avL_nil)))))) (avAL_cons (avA_shut' rfl) (avAL_nil))) (Or.inl rfl) rfl rfl (Nat.le_of_ble_eq_true rfl) ?_
  conv => whnf
  refine cut_ 88 [(2, .bp 0 0), (4, .bp 8 0), (5, .bp 64 0), (6, .int .i64 t888.2.2.2.2)] [(0, .box [(sv_str a0_0), (sv_S_impl_PlantFoe a0_1), (sv_S_impl_PlantPlace a0_2), (sv_S_impl_PlantValve a0_3)]), (8, .box [.nil, .nil, .nil, .nil]), (64, .box [(sv_str t888.1), (sv_S_impl_PlantFoe t888.2.1), (sv_S_impl_PlantPlace t888.2.2.1), (sv_S_impl_PlantValve t888.2.2.2.1)])] rfl ⟨.inl rfl, ⟨.inl rfl, ⟨.inl rfl, ⟨.inl rfl, trivial⟩⟩⟩⟩ ⟨rfl, ⟨rfl, ⟨rfl, trivial⟩⟩⟩ ?_
  conv => whnf
  refine br_nd H (fun c H => ?_) (fun c H => ?_)
  conv => whnf
  injection H with H; subst H
  exact ret_fz [] (rtA_agg (rtL_cons (rt_eq rfl) (rtL_cons (rt_eq rfl) (rtL_cons (rt_eq rfl) (rtL_cons (rt_eq rfl) (rtL_nil))))))
  conv => whnf
  injection H with H; subst H
  exact ret_fz [] (rtA_agg (rtL_cons (rt_eq rfl) (rtL_cons (rt_eq rfl) (rtL_cons (rt_eq rfl) (rtL_cons (rt_eq rfl) (rtL_nil))))))
theorem spec_l3Dec.ac_ : ∀ (k : Nat) (a0 : Int) (r : ByteArray), spec_l3Dec.f k a0 = some r → ACalls Try.prog G 197 [] [.int .i64 a0] [] (.str r)
  | 0, _, _, H => none_elim H
  | k + 1, a0, r, H => by
    refine acalls_of tok hP Try.func197 rfl (by kernel_rfl) [.tmp 2] rfl (by kernel_rfl) (Nat.le_of_ble_eq_true rfl) (.l .n (.l .n (.c .n .n))) rfl ?_
    rw [spec_l3Dec.f] at H
    conv => whnf
    refine br_d H (fun c H => ?_) (fun c H => ?_)
    conv => whnf
    refine Or.inl ?_
    conv => whnf
    injection H with H; subst H
    exact ret_fz [] (rtA_eq rfl)
    conv => whnf
    refine Nd.mk (by decide) ?_
    conv => whnf
    revert H; refine bind_elim (fun t1171 A H => ?_)
    refine call_mk (spec_l3Dec.ac_ _ _ _ A) (avAL_cons (avA_shut' rfl) (avAL_nil)) (Or.inl rfl) rfl rfl (Nat.le_of_ble_eq_true rfl) ?_
    conv => whnf
    refine Nd.mk (by decide) ?_
    conv => whnf
    refine Or.inl ?_
    conv => whnf
    refine nd_ H (fun c H => ?_)
    conv => whnf
    refine cut_ 112 [(2, .str (t1171 ++ (⟨#[UInt8.ofNat (IntKind.wrap .u8 (wrap64 (48 + (Int.tmod a0 10)))).toNat]⟩ : ByteArray)))] [] rfl ⟨.inl rfl, trivial⟩ trivial ?_
    conv => whnf
    injection H with H; subst H
    exact ret_fz [] (rtA_eq rfl)
theorem spec_l3Dec.ac {k : Nat} {a0 : Int} {r : ByteArray} (H : spec_l3Dec.f k a0 = some r) : ACalls Try.prog G 197 [] [.int .i64 a0] [] (.str r) := spec_l3Dec.ac_ _ _ _ H
theorem spec_l2Copy.ac {a0_0 : List ByteArray} {a0_1 : List S_impl_PlantFoe} {a0_2 : List S_impl_PlantPlace} {a0_3 : List S_impl_PlantValve} {r : (List ByteArray) × (List S_impl_PlantFoe) × (List S_impl_PlantPlace) × (List S_impl_PlantValve)} (H : spec_l2Copy.f a0_0 a0_1 a0_2 a0_3 = some r) : ACalls Try.prog G 198 [] [.agg [(sv_str a0_0), (sv_S_impl_PlantFoe a0_1), (sv_S_impl_PlantPlace a0_2), (sv_S_impl_PlantValve a0_3)]] [] (.agg [(sv_str r.1), (sv_S_impl_PlantFoe r.2.1), (sv_S_impl_PlantPlace r.2.2.1), (sv_S_impl_PlantValve r.2.2.2)]) := by
  refine acalls_of tok hP Try.func198 rfl (by kernel_rfl) [.cell 2 44] rfl (by kernel_rfl) (Nat.le_of_ble_eq_true rfl) (.l .n (.c .n .n)) rfl ?_
  unfold spec_l2Copy.f at H
  conv => whnf
  refine Or.inl ?_
  conv => whnf
  refine nd_ H (fun c H => ?_)
  conv => whnf
  refine Or.inl ?_
  conv => whnf
  refine nd_ H (fun c H => ?_)
  conv => whnf
  refine Or.inl ?_
  conv => whnf
  refine nd_ H (fun c H => ?_)
  conv => whnf
  refine Or.inl ?_
  conv => whnf
  refine nd_ H (fun c H => ?_)
  conv => whnf
  refine cut_ 160 [(2, .bp 8 0)] [(8, .box [.own 40 (0 + a0_0.length), .own 72 (0 + a0_1.length), .own 104 (0 + a0_2.length), .own 136 (0 + a0_3.length)]), (40, .arr 9 1 ((([] : List ByteArray) ++ a0_0).map en_str)), (72, .arr 168 2 ((([] : List S_impl_PlantFoe) ++ a0_1).map en_S_impl_PlantFoe)), (104, .arr 109 3 ((([] : List S_impl_PlantPlace) ++ a0_2).map en_S_impl_PlantPlace)), (136, .arr 135 4 ((([] : List S_impl_PlantValve) ++ a0_3).map en_S_impl_PlantValve))] rfl ⟨.inl rfl, trivial⟩ ⟨rfl, ⟨fm_, ⟨fm_, ⟨fm_, ⟨fm_, trivial⟩⟩⟩⟩⟩ ?_
  conv => whnf
  injection H with H; subst H
  exact ret_fz [40, 72, 104, 136] (rtA_agg (rtL_cons (rt_fzD rfl lm_ lm_ rfl) (rtL_cons (rt_fzD rfl lm_ lm_ rfl) (rtL_cons (rt_fzD rfl lm_ lm_ rfl) (rtL_cons (rt_fzD rfl lm_ lm_ rfl) (rtL_nil))))))
theorem spec_l2Copy.acO {a0_0 : List ByteArray} {a0_1 : List S_impl_PlantFoe} {a0_2 : List S_impl_PlantPlace} {a0_3 : List S_impl_PlantValve} {r : (List ByteArray) × (List S_impl_PlantFoe) × (List S_impl_PlantPlace) × (List S_impl_PlantValve)} (H : spec_l2Copy.f a0_0 a0_1 a0_2 a0_3 = some r) : ACalls Try.prog G 198 [] [.agg [(sv_str a0_0), (sv_S_impl_PlantFoe a0_1), (sv_S_impl_PlantPlace a0_2), (sv_S_impl_PlantValve a0_3)]] [.arr 9 1 (r.1.map en_str), .arr 168 2 (r.2.1.map en_S_impl_PlantFoe), .arr 109 3 (r.2.2.1.map en_S_impl_PlantPlace), .arr 135 4 (r.2.2.2.map en_S_impl_PlantValve)] (.agg [.own 0 r.1.length, .own 1 r.2.1.length, .own 2 r.2.2.1.length, .own 3 r.2.2.2.length]) := by
  refine acalls_of tok hP Try.func198 rfl (by kernel_rfl) [.cell 2 44] rfl (by kernel_rfl) (Nat.le_of_ble_eq_true rfl) (.l .n (.c .n .n)) rfl ?_
  unfold spec_l2Copy.f at H
  conv => whnf
  refine Or.inl ?_
  conv => whnf
  refine nd_ H (fun c H => ?_)
  conv => whnf
  refine Or.inl ?_
  conv => whnf
  refine nd_ H (fun c H => ?_)
  conv => whnf
  refine Or.inl ?_
  conv => whnf
  refine nd_ H (fun c H => ?_)
  conv => whnf
  refine Or.inl ?_
  conv => whnf
  refine nd_ H (fun c H => ?_)
  conv => whnf
  refine cut_ 160 [(2, .bp 8 0)] [(8, .box [.own 40 (0 + a0_0.length), .own 72 (0 + a0_1.length), .own 104 (0 + a0_2.length), .own 136 (0 + a0_3.length)]), (40, .arr 9 1 ((([] : List ByteArray) ++ a0_0).map en_str)), (72, .arr 168 2 ((([] : List S_impl_PlantFoe) ++ a0_1).map en_S_impl_PlantFoe)), (104, .arr 109 3 ((([] : List S_impl_PlantPlace) ++ a0_2).map en_S_impl_PlantPlace)), (136, .arr 135 4 ((([] : List S_impl_PlantValve) ++ a0_3).map en_S_impl_PlantValve))] rfl ⟨.inl rfl, trivial⟩ ⟨rfl, ⟨fm_, ⟨fm_, ⟨fm_, ⟨fm_, trivial⟩⟩⟩⟩⟩ ?_
  conv => whnf
  injection H with H; subst H
  exact ret_gen [some 40, some 72, some 104, some 136] [] ((rtA_agg (rtL_cons (mt_own lm_) (rtL_cons (mt_own lm_) (rtL_cons (mt_own lm_) (rtL_cons (mt_own lm_) (rtL_nil))))))) ⟨rfl, ⟨rfl, ⟨rfl, ⟨rfl, trivial⟩⟩⟩⟩ rfl
theorem spec_l2Draw.j0_sq {F : (Exit → St → Prop) → St → Prop} {hv : List Tmp} {K : St → Prop} {Q : Exit → St → Prop} {σ : St} {r : (List ByteArray) × (List S_impl_PlantFoe) × (List S_impl_PlantPlace) × (List S_impl_PlantValve) × (List Int) × Int} {KK : Nat} {x8 : Int} {x1017000_2 : List ByteArray} {x1017001_2 : List S_impl_PlantFoe} {x1017002_2 : List S_impl_PlantPlace} {x1017003_2 : List S_impl_PlantValve} {t8346 : ByteArray × (List Int) × Int}
    (h1 : F (fun e σ' => match e with | .normal => ∃ (y : Nat × Bool) (rn : List (Option Nat)), (spec_l2Draw.j0 y.1 x8 y.2 t8346 x1017000_2 x1017001_2 x1017002_2 x1017003_2 = some r ∧ y.1 < KK) ∧ Fits σ σ' [] [(74, .bool y.2)] [] [] rn | e => Q e σ') σ)
    (h2 : ∀ (k : Nat) (x74 : Bool), k < KK → spec_l2Draw.j0 k x8 x74 t8346 x1017000_2 x1017001_2 x1017002_2 x1017003_2 = some r → headN σ hv [] [(74, .bool x74)] [] [] K) : Sq F hv K Q σ := by
  unfold Sq
  refine ⟨Nat × Bool, fun x => spec_l2Draw.j0 x.1 x8 x.2 t8346 x1017000_2 x1017001_2 x1017002_2 x1017003_2 = some r ∧ x.1 < KK, [], fun x => [(74, .bool x.2)], fun x => [], fun x => [], h1, ?_⟩
  rintro ⟨k, x74⟩ ⟨H, hk⟩
  exact h2 k x74 hk H
theorem spec_l2Draw.l5_lp {F : (Exit → St → Prop) → St → Prop} {hv : List Tmp} {Q : Exit → St → Prop} {σ : St} {r : (List ByteArray) × (List S_impl_PlantFoe) × (List S_impl_PlantPlace) × (List S_impl_PlantValve) × (List Int) × Int} {k : Nat} {x12 : Int} {x1000000_4 : List Int} {x1000001_4 : Int} {x1017000_5 : List ByteArray} {x1017001_5 : List S_impl_PlantFoe} {x1017002_5 : List S_impl_PlantPlace} {x1017003_5 : List S_impl_PlantValve} (H : spec_l2Draw.l5 k x12 x1000000_4 x1000001_4 x1017000_5 x1017001_5 x1017002_5 x1017003_5 = some r) (rn : List (Option Nat)) (h1 : Fits σ σ [0, 17] [(12, .int .i64 x12)] [(0, .box [(sv_u8 x1000000_4), .int .i64 x1000001_4]), (17, .box [(sv_str x1017000_5), (sv_S_impl_PlantFoe x1017001_5), (sv_S_impl_PlantPlace x1017002_5), (sv_S_impl_PlantValve x1017003_5)])] [] rn)
    (h2 : ∀ (k0 : Nat) (x12 : Int) (x1000000_4 : List Int) (x1000001_4 : Int) (x1017000_5 : List ByteArray) (x1017001_5 : List S_impl_PlantFoe) (x1017002_5 : List S_impl_PlantPlace) (x1017003_5 : List S_impl_PlantValve), k0 < k + 1 → spec_l2Draw.l5 k0 x12 x1000000_4 x1000001_4 x1017000_5 x1017001_5 x1017002_5 x1017003_5 = some r → headN σ hv [0, 17] [(12, .int .i64 x12)] [(0, .box [(sv_u8 x1000000_4), .int .i64 x1000001_4]), (17, .box [(sv_str x1017000_5), (sv_S_impl_PlantFoe x1017001_5), (sv_S_impl_PlantPlace x1017002_5), (sv_S_impl_PlantValve x1017003_5)])] [] (F (fun e σ' => match e with | .normal => ∃ (y : Nat × Int × (List Int) × Int × (List ByteArray) × (List S_impl_PlantFoe) × (List S_impl_PlantPlace) × (List S_impl_PlantValve)) (rn : List (Option Nat)), (spec_l2Draw.l5 y.1 y.2.1 y.2.2.1 y.2.2.2.1 y.2.2.2.2.1 y.2.2.2.2.2.1 y.2.2.2.2.2.2.1 y.2.2.2.2.2.2.2 = some r ∧ y.1 < k + 1) ∧ y.1 < k0 ∧ Fits σ σ' [0, 17] [(12, .int .i64 y.2.1)] [(0, .box [(sv_u8 y.2.2.1), .int .i64 y.2.2.2.1]), (17, .box [(sv_str y.2.2.2.2.1), (sv_S_impl_PlantFoe y.2.2.2.2.2.1), (sv_S_impl_PlantPlace y.2.2.2.2.2.2.1), (sv_S_impl_PlantValve y.2.2.2.2.2.2.2)])] [] rn | e => Q e σ'))) : Lp F hv Q σ := by
  unfold Lp
  refine ⟨Nat × Int × (List Int) × Int × (List ByteArray) × (List S_impl_PlantFoe) × (List S_impl_PlantPlace) × (List S_impl_PlantValve), fun x => spec_l2Draw.l5 x.1 x.2.1 x.2.2.1 x.2.2.2.1 x.2.2.2.2.1 x.2.2.2.2.2.1 x.2.2.2.2.2.2.1 x.2.2.2.2.2.2.2 = some r ∧ x.1 < k + 1, fun x => x.1, [0, 17], fun x => [(12, .int .i64 x.2.1)], fun x => [(0, .box [(sv_u8 x.2.2.1), .int .i64 x.2.2.2.1]), (17, .box [(sv_str x.2.2.2.2.1), (sv_S_impl_PlantFoe x.2.2.2.2.2.1), (sv_S_impl_PlantPlace x.2.2.2.2.2.2.1), (sv_S_impl_PlantValve x.2.2.2.2.2.2.2)])], fun x => [], ⟨(k, x12, x1000000_4, x1000001_4, x1017000_5, x1017001_5, x1017002_5, x1017003_5), rn, ⟨H, Nat.lt_succ_self _⟩, h1⟩, ?_⟩
  rintro ⟨k, x12, x1000000_4, x1000001_4, x1017000_5, x1017001_5, x1017002_5, x1017003_5⟩ ⟨H, hk⟩
  exact h2 k x12 x1000000_4 x1000001_4 x1017000_5 x1017001_5 x1017002_5 x1017003_5 hk H
theorem spec_l2Draw.l4_lp {F : (Exit → St → Prop) → St → Prop} {hv : List Tmp} {Q : Exit → St → Prop} {σ : St} {r : (List ByteArray) × (List S_impl_PlantFoe) × (List S_impl_PlantPlace) × (List S_impl_PlantValve) × (List Int) × Int} {k : Nat} {t8376 : Int × (List Int) × Int} {x11 : Int} {x1017000_4 : List ByteArray} {x1017001_4 : List S_impl_PlantFoe} {x1017002_4 : List S_impl_PlantPlace} {x1017003_4 : List S_impl_PlantValve} (H : spec_l2Draw.l4 k x11 t8376 x1017000_4 x1017001_4 x1017002_4 x1017003_4 = some r) (rn : List (Option Nat)) (h1 : Fits σ σ [17] [(11, .int .i64 x11)] [(17, .box [(sv_str x1017000_4), (sv_S_impl_PlantFoe x1017001_4), (sv_S_impl_PlantPlace x1017002_4), (sv_S_impl_PlantValve x1017003_4)])] [] rn)
    (h2 : ∀ (k0 : Nat) (x11 : Int) (x1017000_4 : List ByteArray) (x1017001_4 : List S_impl_PlantFoe) (x1017002_4 : List S_impl_PlantPlace) (x1017003_4 : List S_impl_PlantValve), k0 < k + 1 → spec_l2Draw.l4 k0 x11 t8376 x1017000_4 x1017001_4 x1017002_4 x1017003_4 = some r → headN σ hv [17] [(11, .int .i64 x11)] [(17, .box [(sv_str x1017000_4), (sv_S_impl_PlantFoe x1017001_4), (sv_S_impl_PlantPlace x1017002_4), (sv_S_impl_PlantValve x1017003_4)])] [] (F (fun e σ' => match e with | .normal => ∃ (y : Nat × Int × (List ByteArray) × (List S_impl_PlantFoe) × (List S_impl_PlantPlace) × (List S_impl_PlantValve)) (rn : List (Option Nat)), (spec_l2Draw.l4 y.1 y.2.1 t8376 y.2.2.1 y.2.2.2.1 y.2.2.2.2.1 y.2.2.2.2.2 = some r ∧ y.1 < k + 1) ∧ y.1 < k0 ∧ Fits σ σ' [17] [(11, .int .i64 y.2.1)] [(17, .box [(sv_str y.2.2.1), (sv_S_impl_PlantFoe y.2.2.2.1), (sv_S_impl_PlantPlace y.2.2.2.2.1), (sv_S_impl_PlantValve y.2.2.2.2.2)])] [] rn | e => Q e σ'))) : Lp F hv Q σ := by
  unfold Lp
  refine ⟨Nat × Int × (List ByteArray) × (List S_impl_PlantFoe) × (List S_impl_PlantPlace) × (List S_impl_PlantValve), fun x => spec_l2Draw.l4 x.1 x.2.1 t8376 x.2.2.1 x.2.2.2.1 x.2.2.2.2.1 x.2.2.2.2.2 = some r ∧ x.1 < k + 1, fun x => x.1, [17], fun x => [(11, .int .i64 x.2.1)], fun x => [(17, .box [(sv_str x.2.2.1), (sv_S_impl_PlantFoe x.2.2.2.1), (sv_S_impl_PlantPlace x.2.2.2.2.1), (sv_S_impl_PlantValve x.2.2.2.2.2)])], fun x => [], ⟨(k, x11, x1017000_4, x1017001_4, x1017002_4, x1017003_4), rn, ⟨H, Nat.lt_succ_self _⟩, h1⟩, ?_⟩
  rintro ⟨k, x11, x1017000_4, x1017001_4, x1017002_4, x1017003_4⟩ ⟨H, hk⟩
  exact h2 k x11 x1017000_4 x1017001_4 x1017002_4 x1017003_4 hk H
theorem spec_l2Draw.l7_lp {F : (Exit → St → Prop) → St → Prop} {hv : List Tmp} {Q : Exit → St → Prop} {σ : St} {r : (List ByteArray) × (List S_impl_PlantFoe) × (List S_impl_PlantPlace) × (List S_impl_PlantValve) × (List Int) × Int} {k : Nat} {x12_1 : Int} {x1000000_5 : List Int} {x1000001_5 : Int} {x1017000_7 : List ByteArray} {x1017001_7 : List S_impl_PlantFoe} {x1017002_7 : List S_impl_PlantPlace} {x1017003_7 : List S_impl_PlantValve} (H : spec_l2Draw.l7 k x12_1 x1000000_5 x1000001_5 x1017000_7 x1017001_7 x1017002_7 x1017003_7 = some r) (rn : List (Option Nat)) (h1 : Fits σ σ [0, 17] [(12, .int .i64 x12_1)] [(0, .box [(sv_u8 x1000000_5), .int .i64 x1000001_5]), (17, .box [(sv_str x1017000_7), (sv_S_impl_PlantFoe x1017001_7), (sv_S_impl_PlantPlace x1017002_7), (sv_S_impl_PlantValve x1017003_7)])] [] rn)
    (h2 : ∀ (k0 : Nat) (x12_1 : Int) (x1000000_5 : List Int) (x1000001_5 : Int) (x1017000_7 : List ByteArray) (x1017001_7 : List S_impl_PlantFoe) (x1017002_7 : List S_impl_PlantPlace) (x1017003_7 : List S_impl_PlantValve), k0 < k + 1 → spec_l2Draw.l7 k0 x12_1 x1000000_5 x1000001_5 x1017000_7 x1017001_7 x1017002_7 x1017003_7 = some r → headN σ hv [0, 17] [(12, .int .i64 x12_1)] [(0, .box [(sv_u8 x1000000_5), .int .i64 x1000001_5]), (17, .box [(sv_str x1017000_7), (sv_S_impl_PlantFoe x1017001_7), (sv_S_impl_PlantPlace x1017002_7), (sv_S_impl_PlantValve x1017003_7)])] [] (F (fun e σ' => match e with | .normal => ∃ (y : Nat × Int × (List Int) × Int × (List ByteArray) × (List S_impl_PlantFoe) × (List S_impl_PlantPlace) × (List S_impl_PlantValve)) (rn : List (Option Nat)), (spec_l2Draw.l7 y.1 y.2.1 y.2.2.1 y.2.2.2.1 y.2.2.2.2.1 y.2.2.2.2.2.1 y.2.2.2.2.2.2.1 y.2.2.2.2.2.2.2 = some r ∧ y.1 < k + 1) ∧ y.1 < k0 ∧ Fits σ σ' [0, 17] [(12, .int .i64 y.2.1)] [(0, .box [(sv_u8 y.2.2.1), .int .i64 y.2.2.2.1]), (17, .box [(sv_str y.2.2.2.2.1), (sv_S_impl_PlantFoe y.2.2.2.2.2.1), (sv_S_impl_PlantPlace y.2.2.2.2.2.2.1), (sv_S_impl_PlantValve y.2.2.2.2.2.2.2)])] [] rn | e => Q e σ'))) : Lp F hv Q σ := by
  unfold Lp
  refine ⟨Nat × Int × (List Int) × Int × (List ByteArray) × (List S_impl_PlantFoe) × (List S_impl_PlantPlace) × (List S_impl_PlantValve), fun x => spec_l2Draw.l7 x.1 x.2.1 x.2.2.1 x.2.2.2.1 x.2.2.2.2.1 x.2.2.2.2.2.1 x.2.2.2.2.2.2.1 x.2.2.2.2.2.2.2 = some r ∧ x.1 < k + 1, fun x => x.1, [0, 17], fun x => [(12, .int .i64 x.2.1)], fun x => [(0, .box [(sv_u8 x.2.2.1), .int .i64 x.2.2.2.1]), (17, .box [(sv_str x.2.2.2.2.1), (sv_S_impl_PlantFoe x.2.2.2.2.2.1), (sv_S_impl_PlantPlace x.2.2.2.2.2.2.1), (sv_S_impl_PlantValve x.2.2.2.2.2.2.2)])], fun x => [], ⟨(k, x12_1, x1000000_5, x1000001_5, x1017000_7, x1017001_7, x1017002_7, x1017003_7), rn, ⟨H, Nat.lt_succ_self _⟩, h1⟩, ?_⟩
  rintro ⟨k, x12_1, x1000000_5, x1000001_5, x1017000_7, x1017001_7, x1017002_7, x1017003_7⟩ ⟨H, hk⟩
  exact h2 k x12_1 x1000000_5 x1000001_5 x1017000_7 x1017001_7 x1017002_7 x1017003_7 hk H
theorem spec_l2Draw.l6_lp {F : (Exit → St → Prop) → St → Prop} {hv : List Tmp} {Q : Exit → St → Prop} {σ : St} {r : (List ByteArray) × (List S_impl_PlantFoe) × (List S_impl_PlantPlace) × (List S_impl_PlantValve) × (List Int) × Int} {k : Nat} {t8395 : Int × (List Int) × Int} {x11_1 : Int} {x1017000_6 : List ByteArray} {x1017001_6 : List S_impl_PlantFoe} {x1017002_6 : List S_impl_PlantPlace} {x1017003_6 : List S_impl_PlantValve} (H : spec_l2Draw.l6 k x11_1 t8395 x1017000_6 x1017001_6 x1017002_6 x1017003_6 = some r) (rn : List (Option Nat)) (h1 : Fits σ σ [17] [(11, .int .i64 x11_1)] [(17, .box [(sv_str x1017000_6), (sv_S_impl_PlantFoe x1017001_6), (sv_S_impl_PlantPlace x1017002_6), (sv_S_impl_PlantValve x1017003_6)])] [] rn)
    (h2 : ∀ (k0 : Nat) (x11_1 : Int) (x1017000_6 : List ByteArray) (x1017001_6 : List S_impl_PlantFoe) (x1017002_6 : List S_impl_PlantPlace) (x1017003_6 : List S_impl_PlantValve), k0 < k + 1 → spec_l2Draw.l6 k0 x11_1 t8395 x1017000_6 x1017001_6 x1017002_6 x1017003_6 = some r → headN σ hv [17] [(11, .int .i64 x11_1)] [(17, .box [(sv_str x1017000_6), (sv_S_impl_PlantFoe x1017001_6), (sv_S_impl_PlantPlace x1017002_6), (sv_S_impl_PlantValve x1017003_6)])] [] (F (fun e σ' => match e with | .normal => ∃ (y : Nat × Int × (List ByteArray) × (List S_impl_PlantFoe) × (List S_impl_PlantPlace) × (List S_impl_PlantValve)) (rn : List (Option Nat)), (spec_l2Draw.l6 y.1 y.2.1 t8395 y.2.2.1 y.2.2.2.1 y.2.2.2.2.1 y.2.2.2.2.2 = some r ∧ y.1 < k + 1) ∧ y.1 < k0 ∧ Fits σ σ' [17] [(11, .int .i64 y.2.1)] [(17, .box [(sv_str y.2.2.1), (sv_S_impl_PlantFoe y.2.2.2.1), (sv_S_impl_PlantPlace y.2.2.2.2.1), (sv_S_impl_PlantValve y.2.2.2.2.2)])] [] rn | e => Q e σ'))) : Lp F hv Q σ := by
  unfold Lp
  refine ⟨Nat × Int × (List ByteArray) × (List S_impl_PlantFoe) × (List S_impl_PlantPlace) × (List S_impl_PlantValve), fun x => spec_l2Draw.l6 x.1 x.2.1 t8395 x.2.2.1 x.2.2.2.1 x.2.2.2.2.1 x.2.2.2.2.2 = some r ∧ x.1 < k + 1, fun x => x.1, [17], fun x => [(11, .int .i64 x.2.1)], fun x => [(17, .box [(sv_str x.2.2.1), (sv_S_impl_PlantFoe x.2.2.2.1), (sv_S_impl_PlantPlace x.2.2.2.2.1), (sv_S_impl_PlantValve x.2.2.2.2.2)])], fun x => [], ⟨(k, x11_1, x1017000_6, x1017001_6, x1017002_6, x1017003_6), rn, ⟨H, Nat.lt_succ_self _⟩, h1⟩, ?_⟩
  rintro ⟨k, x11_1, x1017000_6, x1017001_6, x1017002_6, x1017003_6⟩ ⟨H, hk⟩
  exact h2 k x11_1 x1017000_6 x1017001_6 x1017002_6 x1017003_6 hk H
theorem spec_l2Draw.l3_lp {F : (Exit → St → Prop) → St → Prop} {hv : List Tmp} {Q : Exit → St → Prop} {σ : St} {r : (List ByteArray) × (List S_impl_PlantFoe) × (List S_impl_PlantPlace) × (List S_impl_PlantValve) × (List Int) × Int} {k : Nat} {x10 : Int} {x1000000_3 : List Int} {x1000001_3 : Int} {x1017000_3 : List ByteArray} {x1017001_3 : List S_impl_PlantFoe} {x1017002_3 : List S_impl_PlantPlace} {x1017003_3 : List S_impl_PlantValve} (H : spec_l2Draw.l3 k x10 x1000000_3 x1000001_3 x1017000_3 x1017001_3 x1017002_3 x1017003_3 = some r) (rn : List (Option Nat)) (h1 : Fits σ σ [0, 17, 182] [(10, .int .i64 x10)] [(0, .box [(sv_u8 x1000000_3), .int .i64 x1000001_3]), (17, .box [(sv_str x1017000_3), (sv_S_impl_PlantFoe x1017001_3), (sv_S_impl_PlantPlace x1017002_3), (sv_S_impl_PlantValve x1017003_3)])] [] rn)
    (h2 : ∀ (k0 : Nat) (x10 : Int) (x1000000_3 : List Int) (x1000001_3 : Int) (x1017000_3 : List ByteArray) (x1017001_3 : List S_impl_PlantFoe) (x1017002_3 : List S_impl_PlantPlace) (x1017003_3 : List S_impl_PlantValve), k0 < k + 1 → spec_l2Draw.l3 k0 x10 x1000000_3 x1000001_3 x1017000_3 x1017001_3 x1017002_3 x1017003_3 = some r → headN σ hv [0, 17, 182] [(10, .int .i64 x10)] [(0, .box [(sv_u8 x1000000_3), .int .i64 x1000001_3]), (17, .box [(sv_str x1017000_3), (sv_S_impl_PlantFoe x1017001_3), (sv_S_impl_PlantPlace x1017002_3), (sv_S_impl_PlantValve x1017003_3)])] [] (F (fun e σ' => match e with | .normal => ∃ (y : Nat × Int × (List Int) × Int × (List ByteArray) × (List S_impl_PlantFoe) × (List S_impl_PlantPlace) × (List S_impl_PlantValve)) (rn : List (Option Nat)), (spec_l2Draw.l3 y.1 y.2.1 y.2.2.1 y.2.2.2.1 y.2.2.2.2.1 y.2.2.2.2.2.1 y.2.2.2.2.2.2.1 y.2.2.2.2.2.2.2 = some r ∧ y.1 < k + 1) ∧ y.1 < k0 ∧ Fits σ σ' [0, 17, 182] [(10, .int .i64 y.2.1)] [(0, .box [(sv_u8 y.2.2.1), .int .i64 y.2.2.2.1]), (17, .box [(sv_str y.2.2.2.2.1), (sv_S_impl_PlantFoe y.2.2.2.2.2.1), (sv_S_impl_PlantPlace y.2.2.2.2.2.2.1), (sv_S_impl_PlantValve y.2.2.2.2.2.2.2)])] [] rn | e => Q e σ'))) : Lp F hv Q σ := by
  unfold Lp
  refine ⟨Nat × Int × (List Int) × Int × (List ByteArray) × (List S_impl_PlantFoe) × (List S_impl_PlantPlace) × (List S_impl_PlantValve), fun x => spec_l2Draw.l3 x.1 x.2.1 x.2.2.1 x.2.2.2.1 x.2.2.2.2.1 x.2.2.2.2.2.1 x.2.2.2.2.2.2.1 x.2.2.2.2.2.2.2 = some r ∧ x.1 < k + 1, fun x => x.1, [0, 17, 182], fun x => [(10, .int .i64 x.2.1)], fun x => [(0, .box [(sv_u8 x.2.2.1), .int .i64 x.2.2.2.1]), (17, .box [(sv_str x.2.2.2.2.1), (sv_S_impl_PlantFoe x.2.2.2.2.2.1), (sv_S_impl_PlantPlace x.2.2.2.2.2.2.1), (sv_S_impl_PlantValve x.2.2.2.2.2.2.2)])], fun x => [], ⟨(k, x10, x1000000_3, x1000001_3, x1017000_3, x1017001_3, x1017002_3, x1017003_3), rn, ⟨H, Nat.lt_succ_self _⟩, h1⟩, ?_⟩
  rintro ⟨k, x10, x1000000_3, x1000001_3, x1017000_3, x1017001_3, x1017002_3, x1017003_3⟩ ⟨H, hk⟩
  exact h2 k x10 x1000000_3 x1000001_3 x1017000_3 x1017001_3 x1017002_3 x1017003_3 hk H
theorem spec_l2Draw.l2_lp {F : (Exit → St → Prop) → St → Prop} {hv : List Tmp} {Q : Exit → St → Prop} {σ : St} {r : (List ByteArray) × (List S_impl_PlantFoe) × (List S_impl_PlantPlace) × (List S_impl_PlantValve) × (List Int) × Int} {k : Nat} {x8 : Int} {x1000000_2 : List Int} {x1000001_2 : Int} {x1017000_2 : List ByteArray} {x1017001_2 : List S_impl_PlantFoe} {x1017002_2 : List S_impl_PlantPlace} {x1017003_2 : List S_impl_PlantValve} (H : spec_l2Draw.l2 k x8 x1000000_2 x1000001_2 x1017000_2 x1017001_2 x1017002_2 x1017003_2 = some r) (rn : List (Option Nat)) (h1 : Fits σ σ [0, 17] [(8, .int .i64 x8)] [(0, .box [(sv_u8 x1000000_2), .int .i64 x1000001_2]), (17, .box [(sv_str x1017000_2), (sv_S_impl_PlantFoe x1017001_2), (sv_S_impl_PlantPlace x1017002_2), (sv_S_impl_PlantValve x1017003_2)])] [] rn)
    (h2 : ∀ (k0 : Nat) (x8 : Int) (x1000000_2 : List Int) (x1000001_2 : Int) (x1017000_2 : List ByteArray) (x1017001_2 : List S_impl_PlantFoe) (x1017002_2 : List S_impl_PlantPlace) (x1017003_2 : List S_impl_PlantValve), k0 < k + 1 → spec_l2Draw.l2 k0 x8 x1000000_2 x1000001_2 x1017000_2 x1017001_2 x1017002_2 x1017003_2 = some r → headN σ hv [0, 17] [(8, .int .i64 x8)] [(0, .box [(sv_u8 x1000000_2), .int .i64 x1000001_2]), (17, .box [(sv_str x1017000_2), (sv_S_impl_PlantFoe x1017001_2), (sv_S_impl_PlantPlace x1017002_2), (sv_S_impl_PlantValve x1017003_2)])] [] (F (fun e σ' => match e with | .normal => ∃ (y : Nat × Int × (List Int) × Int × (List ByteArray) × (List S_impl_PlantFoe) × (List S_impl_PlantPlace) × (List S_impl_PlantValve)) (rn : List (Option Nat)), (spec_l2Draw.l2 y.1 y.2.1 y.2.2.1 y.2.2.2.1 y.2.2.2.2.1 y.2.2.2.2.2.1 y.2.2.2.2.2.2.1 y.2.2.2.2.2.2.2 = some r ∧ y.1 < k + 1) ∧ y.1 < k0 ∧ Fits σ σ' [0, 17] [(8, .int .i64 y.2.1)] [(0, .box [(sv_u8 y.2.2.1), .int .i64 y.2.2.2.1]), (17, .box [(sv_str y.2.2.2.2.1), (sv_S_impl_PlantFoe y.2.2.2.2.2.1), (sv_S_impl_PlantPlace y.2.2.2.2.2.2.1), (sv_S_impl_PlantValve y.2.2.2.2.2.2.2)])] [] rn | e => Q e σ'))) : Lp F hv Q σ := by
  unfold Lp
  refine ⟨Nat × Int × (List Int) × Int × (List ByteArray) × (List S_impl_PlantFoe) × (List S_impl_PlantPlace) × (List S_impl_PlantValve), fun x => spec_l2Draw.l2 x.1 x.2.1 x.2.2.1 x.2.2.2.1 x.2.2.2.2.1 x.2.2.2.2.2.1 x.2.2.2.2.2.2.1 x.2.2.2.2.2.2.2 = some r ∧ x.1 < k + 1, fun x => x.1, [0, 17], fun x => [(8, .int .i64 x.2.1)], fun x => [(0, .box [(sv_u8 x.2.2.1), .int .i64 x.2.2.2.1]), (17, .box [(sv_str x.2.2.2.2.1), (sv_S_impl_PlantFoe x.2.2.2.2.2.1), (sv_S_impl_PlantPlace x.2.2.2.2.2.2.1), (sv_S_impl_PlantValve x.2.2.2.2.2.2.2)])], fun x => [], ⟨(k, x8, x1000000_2, x1000001_2, x1017000_2, x1017001_2, x1017002_2, x1017003_2), rn, ⟨H, Nat.lt_succ_self _⟩, h1⟩, ?_⟩
  rintro ⟨k, x8, x1000000_2, x1000001_2, x1017000_2, x1017001_2, x1017002_2, x1017003_2⟩ ⟨H, hk⟩
  exact h2 k x8 x1000000_2 x1000001_2 x1017000_2 x1017001_2 x1017002_2 x1017003_2 hk H
theorem spec_l2Draw.j1_sq {F : (Exit → St → Prop) → St → Prop} {hv : List Tmp} {K : St → Prop} {Q : Exit → St → Prop} {σ : St} {r : (List ByteArray) × (List S_impl_PlantFoe) × (List S_impl_PlantPlace) × (List S_impl_PlantValve) × (List Int) × Int} {KK : Nat} {x8_1 : Int} {x1017000_8 : List ByteArray} {x1017001_8 : List S_impl_PlantFoe} {x1017002_8 : List S_impl_PlantPlace} {x1017003_8 : List S_impl_PlantValve} {t8419 : ByteArray × (List Int) × Int}
    (h1 : F (fun e σ' => match e with | .normal => ∃ (y : Nat × Bool) (rn : List (Option Nat)), (spec_l2Draw.j1 y.1 x8_1 y.2 t8419 x1017000_8 x1017001_8 x1017002_8 x1017003_8 = some r ∧ y.1 < KK) ∧ Fits σ σ' [] [(74, .bool y.2)] [] [] rn | e => Q e σ') σ)
    (h2 : ∀ (k : Nat) (x74_1 : Bool), k < KK → spec_l2Draw.j1 k x8_1 x74_1 t8419 x1017000_8 x1017001_8 x1017002_8 x1017003_8 = some r → headN σ hv [] [(74, .bool x74_1)] [] [] K) : Sq F hv K Q σ := by
  unfold Sq
  refine ⟨Nat × Bool, fun x => spec_l2Draw.j1 x.1 x8_1 x.2 t8419 x1017000_8 x1017001_8 x1017002_8 x1017003_8 = some r ∧ x.1 < KK, [], fun x => [(74, .bool x.2)], fun x => [], fun x => [], h1, ?_⟩
  rintro ⟨k, x74_1⟩ ⟨H, hk⟩
  exact h2 k x74_1 hk H
theorem spec_l2Draw.l11_lp {F : (Exit → St → Prop) → St → Prop} {hv : List Tmp} {Q : Exit → St → Prop} {σ : St} {r : (List ByteArray) × (List S_impl_PlantFoe) × (List S_impl_PlantPlace) × (List S_impl_PlantValve) × (List Int) × Int} {k : Nat} {x12_2 : Int} {x1000000_8 : List Int} {x1000001_8 : Int} {x1017000_11 : List ByteArray} {x1017001_11 : List S_impl_PlantFoe} {x1017002_11 : List S_impl_PlantPlace} {x1017003_11 : List S_impl_PlantValve} (H : spec_l2Draw.l11 k x12_2 x1000000_8 x1000001_8 x1017000_11 x1017001_11 x1017002_11 x1017003_11 = some r) (rn : List (Option Nat)) (h1 : Fits σ σ [0, 17] [(12, .int .i64 x12_2)] [(0, .box [(sv_u8 x1000000_8), .int .i64 x1000001_8]), (17, .box [(sv_str x1017000_11), (sv_S_impl_PlantFoe x1017001_11), (sv_S_impl_PlantPlace x1017002_11), (sv_S_impl_PlantValve x1017003_11)])] [] rn)
    (h2 : ∀ (k0 : Nat) (x12_2 : Int) (x1000000_8 : List Int) (x1000001_8 : Int) (x1017000_11 : List ByteArray) (x1017001_11 : List S_impl_PlantFoe) (x1017002_11 : List S_impl_PlantPlace) (x1017003_11 : List S_impl_PlantValve), k0 < k + 1 → spec_l2Draw.l11 k0 x12_2 x1000000_8 x1000001_8 x1017000_11 x1017001_11 x1017002_11 x1017003_11 = some r → headN σ hv [0, 17] [(12, .int .i64 x12_2)] [(0, .box [(sv_u8 x1000000_8), .int .i64 x1000001_8]), (17, .box [(sv_str x1017000_11), (sv_S_impl_PlantFoe x1017001_11), (sv_S_impl_PlantPlace x1017002_11), (sv_S_impl_PlantValve x1017003_11)])] [] (F (fun e σ' => match e with | .normal => ∃ (y : Nat × Int × (List Int) × Int × (List ByteArray) × (List S_impl_PlantFoe) × (List S_impl_PlantPlace) × (List S_impl_PlantValve)) (rn : List (Option Nat)), (spec_l2Draw.l11 y.1 y.2.1 y.2.2.1 y.2.2.2.1 y.2.2.2.2.1 y.2.2.2.2.2.1 y.2.2.2.2.2.2.1 y.2.2.2.2.2.2.2 = some r ∧ y.1 < k + 1) ∧ y.1 < k0 ∧ Fits σ σ' [0, 17] [(12, .int .i64 y.2.1)] [(0, .box [(sv_u8 y.2.2.1), .int .i64 y.2.2.2.1]), (17, .box [(sv_str y.2.2.2.2.1), (sv_S_impl_PlantFoe y.2.2.2.2.2.1), (sv_S_impl_PlantPlace y.2.2.2.2.2.2.1), (sv_S_impl_PlantValve y.2.2.2.2.2.2.2)])] [] rn | e => Q e σ'))) : Lp F hv Q σ := by
  unfold Lp
  refine ⟨Nat × Int × (List Int) × Int × (List ByteArray) × (List S_impl_PlantFoe) × (List S_impl_PlantPlace) × (List S_impl_PlantValve), fun x => spec_l2Draw.l11 x.1 x.2.1 x.2.2.1 x.2.2.2.1 x.2.2.2.2.1 x.2.2.2.2.2.1 x.2.2.2.2.2.2.1 x.2.2.2.2.2.2.2 = some r ∧ x.1 < k + 1, fun x => x.1, [0, 17], fun x => [(12, .int .i64 x.2.1)], fun x => [(0, .box [(sv_u8 x.2.2.1), .int .i64 x.2.2.2.1]), (17, .box [(sv_str x.2.2.2.2.1), (sv_S_impl_PlantFoe x.2.2.2.2.2.1), (sv_S_impl_PlantPlace x.2.2.2.2.2.2.1), (sv_S_impl_PlantValve x.2.2.2.2.2.2.2)])], fun x => [], ⟨(k, x12_2, x1000000_8, x1000001_8, x1017000_11, x1017001_11, x1017002_11, x1017003_11), rn, ⟨H, Nat.lt_succ_self _⟩, h1⟩, ?_⟩
  rintro ⟨k, x12_2, x1000000_8, x1000001_8, x1017000_11, x1017001_11, x1017002_11, x1017003_11⟩ ⟨H, hk⟩
  exact h2 k x12_2 x1000000_8 x1000001_8 x1017000_11 x1017001_11 x1017002_11 x1017003_11 hk H
theorem spec_l2Draw.l10_lp {F : (Exit → St → Prop) → St → Prop} {hv : List Tmp} {Q : Exit → St → Prop} {σ : St} {r : (List ByteArray) × (List S_impl_PlantFoe) × (List S_impl_PlantPlace) × (List S_impl_PlantValve) × (List Int) × Int} {k : Nat} {t8449 : Int × (List Int) × Int} {x11_2 : Int} {x1017000_10 : List ByteArray} {x1017001_10 : List S_impl_PlantFoe} {x1017002_10 : List S_impl_PlantPlace} {x1017003_10 : List S_impl_PlantValve} (H : spec_l2Draw.l10 k x11_2 t8449 x1017000_10 x1017001_10 x1017002_10 x1017003_10 = some r) (rn : List (Option Nat)) (h1 : Fits σ σ [17] [(11, .int .i64 x11_2)] [(17, .box [(sv_str x1017000_10), (sv_S_impl_PlantFoe x1017001_10), (sv_S_impl_PlantPlace x1017002_10), (sv_S_impl_PlantValve x1017003_10)])] [] rn)
    (h2 : ∀ (k0 : Nat) (x11_2 : Int) (x1017000_10 : List ByteArray) (x1017001_10 : List S_impl_PlantFoe) (x1017002_10 : List S_impl_PlantPlace) (x1017003_10 : List S_impl_PlantValve), k0 < k + 1 → spec_l2Draw.l10 k0 x11_2 t8449 x1017000_10 x1017001_10 x1017002_10 x1017003_10 = some r → headN σ hv [17] [(11, .int .i64 x11_2)] [(17, .box [(sv_str x1017000_10), (sv_S_impl_PlantFoe x1017001_10), (sv_S_impl_PlantPlace x1017002_10), (sv_S_impl_PlantValve x1017003_10)])] [] (F (fun e σ' => match e with | .normal => ∃ (y : Nat × Int × (List ByteArray) × (List S_impl_PlantFoe) × (List S_impl_PlantPlace) × (List S_impl_PlantValve)) (rn : List (Option Nat)), (spec_l2Draw.l10 y.1 y.2.1 t8449 y.2.2.1 y.2.2.2.1 y.2.2.2.2.1 y.2.2.2.2.2 = some r ∧ y.1 < k + 1) ∧ y.1 < k0 ∧ Fits σ σ' [17] [(11, .int .i64 y.2.1)] [(17, .box [(sv_str y.2.2.1), (sv_S_impl_PlantFoe y.2.2.2.1), (sv_S_impl_PlantPlace y.2.2.2.2.1), (sv_S_impl_PlantValve y.2.2.2.2.2)])] [] rn | e => Q e σ'))) : Lp F hv Q σ := by
  unfold Lp
  refine ⟨Nat × Int × (List ByteArray) × (List S_impl_PlantFoe) × (List S_impl_PlantPlace) × (List S_impl_PlantValve), fun x => spec_l2Draw.l10 x.1 x.2.1 t8449 x.2.2.1 x.2.2.2.1 x.2.2.2.2.1 x.2.2.2.2.2 = some r ∧ x.1 < k + 1, fun x => x.1, [17], fun x => [(11, .int .i64 x.2.1)], fun x => [(17, .box [(sv_str x.2.2.1), (sv_S_impl_PlantFoe x.2.2.2.1), (sv_S_impl_PlantPlace x.2.2.2.2.1), (sv_S_impl_PlantValve x.2.2.2.2.2)])], fun x => [], ⟨(k, x11_2, x1017000_10, x1017001_10, x1017002_10, x1017003_10), rn, ⟨H, Nat.lt_succ_self _⟩, h1⟩, ?_⟩
  rintro ⟨k, x11_2, x1017000_10, x1017001_10, x1017002_10, x1017003_10⟩ ⟨H, hk⟩
  exact h2 k x11_2 x1017000_10 x1017001_10 x1017002_10 x1017003_10 hk H
theorem spec_l2Draw.l13_lp {F : (Exit → St → Prop) → St → Prop} {hv : List Tmp} {Q : Exit → St → Prop} {σ : St} {r : (List ByteArray) × (List S_impl_PlantFoe) × (List S_impl_PlantPlace) × (List S_impl_PlantValve) × (List Int) × Int} {k : Nat} {x12_3 : Int} {x1000000_9 : List Int} {x1000001_9 : Int} {x1017000_13 : List ByteArray} {x1017001_13 : List S_impl_PlantFoe} {x1017002_13 : List S_impl_PlantPlace} {x1017003_13 : List S_impl_PlantValve} (H : spec_l2Draw.l13 k x12_3 x1000000_9 x1000001_9 x1017000_13 x1017001_13 x1017002_13 x1017003_13 = some r) (rn : List (Option Nat)) (h1 : Fits σ σ [0, 17] [(12, .int .i64 x12_3)] [(0, .box [(sv_u8 x1000000_9), .int .i64 x1000001_9]), (17, .box [(sv_str x1017000_13), (sv_S_impl_PlantFoe x1017001_13), (sv_S_impl_PlantPlace x1017002_13), (sv_S_impl_PlantValve x1017003_13)])] [] rn)
    (h2 : ∀ (k0 : Nat) (x12_3 : Int) (x1000000_9 : List Int) (x1000001_9 : Int) (x1017000_13 : List ByteArray) (x1017001_13 : List S_impl_PlantFoe) (x1017002_13 : List S_impl_PlantPlace) (x1017003_13 : List S_impl_PlantValve), k0 < k + 1 → spec_l2Draw.l13 k0 x12_3 x1000000_9 x1000001_9 x1017000_13 x1017001_13 x1017002_13 x1017003_13 = some r → headN σ hv [0, 17] [(12, .int .i64 x12_3)] [(0, .box [(sv_u8 x1000000_9), .int .i64 x1000001_9]), (17, .box [(sv_str x1017000_13), (sv_S_impl_PlantFoe x1017001_13), (sv_S_impl_PlantPlace x1017002_13), (sv_S_impl_PlantValve x1017003_13)])] [] (F (fun e σ' => match e with | .normal => ∃ (y : Nat × Int × (List Int) × Int × (List ByteArray) × (List S_impl_PlantFoe) × (List S_impl_PlantPlace) × (List S_impl_PlantValve)) (rn : List (Option Nat)), (spec_l2Draw.l13 y.1 y.2.1 y.2.2.1 y.2.2.2.1 y.2.2.2.2.1 y.2.2.2.2.2.1 y.2.2.2.2.2.2.1 y.2.2.2.2.2.2.2 = some r ∧ y.1 < k + 1) ∧ y.1 < k0 ∧ Fits σ σ' [0, 17] [(12, .int .i64 y.2.1)] [(0, .box [(sv_u8 y.2.2.1), .int .i64 y.2.2.2.1]), (17, .box [(sv_str y.2.2.2.2.1), (sv_S_impl_PlantFoe y.2.2.2.2.2.1), (sv_S_impl_PlantPlace y.2.2.2.2.2.2.1), (sv_S_impl_PlantValve y.2.2.2.2.2.2.2)])] [] rn | e => Q e σ'))) : Lp F hv Q σ := by
  unfold Lp
  refine ⟨Nat × Int × (List Int) × Int × (List ByteArray) × (List S_impl_PlantFoe) × (List S_impl_PlantPlace) × (List S_impl_PlantValve), fun x => spec_l2Draw.l13 x.1 x.2.1 x.2.2.1 x.2.2.2.1 x.2.2.2.2.1 x.2.2.2.2.2.1 x.2.2.2.2.2.2.1 x.2.2.2.2.2.2.2 = some r ∧ x.1 < k + 1, fun x => x.1, [0, 17], fun x => [(12, .int .i64 x.2.1)], fun x => [(0, .box [(sv_u8 x.2.2.1), .int .i64 x.2.2.2.1]), (17, .box [(sv_str x.2.2.2.2.1), (sv_S_impl_PlantFoe x.2.2.2.2.2.1), (sv_S_impl_PlantPlace x.2.2.2.2.2.2.1), (sv_S_impl_PlantValve x.2.2.2.2.2.2.2)])], fun x => [], ⟨(k, x12_3, x1000000_9, x1000001_9, x1017000_13, x1017001_13, x1017002_13, x1017003_13), rn, ⟨H, Nat.lt_succ_self _⟩, h1⟩, ?_⟩
  rintro ⟨k, x12_3, x1000000_9, x1000001_9, x1017000_13, x1017001_13, x1017002_13, x1017003_13⟩ ⟨H, hk⟩
  exact h2 k x12_3 x1000000_9 x1000001_9 x1017000_13 x1017001_13 x1017002_13 x1017003_13 hk H
theorem spec_l2Draw.l12_lp {F : (Exit → St → Prop) → St → Prop} {hv : List Tmp} {Q : Exit → St → Prop} {σ : St} {r : (List ByteArray) × (List S_impl_PlantFoe) × (List S_impl_PlantPlace) × (List S_impl_PlantValve) × (List Int) × Int} {k : Nat} {t8468 : Int × (List Int) × Int} {x11_3 : Int} {x1017000_12 : List ByteArray} {x1017001_12 : List S_impl_PlantFoe} {x1017002_12 : List S_impl_PlantPlace} {x1017003_12 : List S_impl_PlantValve} (H : spec_l2Draw.l12 k x11_3 t8468 x1017000_12 x1017001_12 x1017002_12 x1017003_12 = some r) (rn : List (Option Nat)) (h1 : Fits σ σ [17] [(11, .int .i64 x11_3)] [(17, .box [(sv_str x1017000_12), (sv_S_impl_PlantFoe x1017001_12), (sv_S_impl_PlantPlace x1017002_12), (sv_S_impl_PlantValve x1017003_12)])] [] rn)
    (h2 : ∀ (k0 : Nat) (x11_3 : Int) (x1017000_12 : List ByteArray) (x1017001_12 : List S_impl_PlantFoe) (x1017002_12 : List S_impl_PlantPlace) (x1017003_12 : List S_impl_PlantValve), k0 < k + 1 → spec_l2Draw.l12 k0 x11_3 t8468 x1017000_12 x1017001_12 x1017002_12 x1017003_12 = some r → headN σ hv [17] [(11, .int .i64 x11_3)] [(17, .box [(sv_str x1017000_12), (sv_S_impl_PlantFoe x1017001_12), (sv_S_impl_PlantPlace x1017002_12), (sv_S_impl_PlantValve x1017003_12)])] [] (F (fun e σ' => match e with | .normal => ∃ (y : Nat × Int × (List ByteArray) × (List S_impl_PlantFoe) × (List S_impl_PlantPlace) × (List S_impl_PlantValve)) (rn : List (Option Nat)), (spec_l2Draw.l12 y.1 y.2.1 t8468 y.2.2.1 y.2.2.2.1 y.2.2.2.2.1 y.2.2.2.2.2 = some r ∧ y.1 < k + 1) ∧ y.1 < k0 ∧ Fits σ σ' [17] [(11, .int .i64 y.2.1)] [(17, .box [(sv_str y.2.2.1), (sv_S_impl_PlantFoe y.2.2.2.1), (sv_S_impl_PlantPlace y.2.2.2.2.1), (sv_S_impl_PlantValve y.2.2.2.2.2)])] [] rn | e => Q e σ'))) : Lp F hv Q σ := by
  unfold Lp
  refine ⟨Nat × Int × (List ByteArray) × (List S_impl_PlantFoe) × (List S_impl_PlantPlace) × (List S_impl_PlantValve), fun x => spec_l2Draw.l12 x.1 x.2.1 t8468 x.2.2.1 x.2.2.2.1 x.2.2.2.2.1 x.2.2.2.2.2 = some r ∧ x.1 < k + 1, fun x => x.1, [17], fun x => [(11, .int .i64 x.2.1)], fun x => [(17, .box [(sv_str x.2.2.1), (sv_S_impl_PlantFoe x.2.2.2.1), (sv_S_impl_PlantPlace x.2.2.2.2.1), (sv_S_impl_PlantValve x.2.2.2.2.2)])], fun x => [], ⟨(k, x11_3, x1017000_12, x1017001_12, x1017002_12, x1017003_12), rn, ⟨H, Nat.lt_succ_self _⟩, h1⟩, ?_⟩
  rintro ⟨k, x11_3, x1017000_12, x1017001_12, x1017002_12, x1017003_12⟩ ⟨H, hk⟩
  exact h2 k x11_3 x1017000_12 x1017001_12 x1017002_12 x1017003_12 hk H
theorem spec_l2Draw.l9_lp {F : (Exit → St → Prop) → St → Prop} {hv : List Tmp} {Q : Exit → St → Prop} {σ : St} {r : (List ByteArray) × (List S_impl_PlantFoe) × (List S_impl_PlantPlace) × (List S_impl_PlantValve) × (List Int) × Int} {k : Nat} {x10_1 : Int} {x1000000_7 : List Int} {x1000001_7 : Int} {x1017000_9 : List ByteArray} {x1017001_9 : List S_impl_PlantFoe} {x1017002_9 : List S_impl_PlantPlace} {x1017003_9 : List S_impl_PlantValve} (H : spec_l2Draw.l9 k x10_1 x1000000_7 x1000001_7 x1017000_9 x1017001_9 x1017002_9 x1017003_9 = some r) (rn : List (Option Nat)) (h1 : Fits σ σ [0, 17, 182] [(10, .int .i64 x10_1)] [(0, .box [(sv_u8 x1000000_7), .int .i64 x1000001_7]), (17, .box [(sv_str x1017000_9), (sv_S_impl_PlantFoe x1017001_9), (sv_S_impl_PlantPlace x1017002_9), (sv_S_impl_PlantValve x1017003_9)])] [] rn)
    (h2 : ∀ (k0 : Nat) (x10_1 : Int) (x1000000_7 : List Int) (x1000001_7 : Int) (x1017000_9 : List ByteArray) (x1017001_9 : List S_impl_PlantFoe) (x1017002_9 : List S_impl_PlantPlace) (x1017003_9 : List S_impl_PlantValve), k0 < k + 1 → spec_l2Draw.l9 k0 x10_1 x1000000_7 x1000001_7 x1017000_9 x1017001_9 x1017002_9 x1017003_9 = some r → headN σ hv [0, 17, 182] [(10, .int .i64 x10_1)] [(0, .box [(sv_u8 x1000000_7), .int .i64 x1000001_7]), (17, .box [(sv_str x1017000_9), (sv_S_impl_PlantFoe x1017001_9), (sv_S_impl_PlantPlace x1017002_9), (sv_S_impl_PlantValve x1017003_9)])] [] (F (fun e σ' => match e with | .normal => ∃ (y : Nat × Int × (List Int) × Int × (List ByteArray) × (List S_impl_PlantFoe) × (List S_impl_PlantPlace) × (List S_impl_PlantValve)) (rn : List (Option Nat)), (spec_l2Draw.l9 y.1 y.2.1 y.2.2.1 y.2.2.2.1 y.2.2.2.2.1 y.2.2.2.2.2.1 y.2.2.2.2.2.2.1 y.2.2.2.2.2.2.2 = some r ∧ y.1 < k + 1) ∧ y.1 < k0 ∧ Fits σ σ' [0, 17, 182] [(10, .int .i64 y.2.1)] [(0, .box [(sv_u8 y.2.2.1), .int .i64 y.2.2.2.1]), (17, .box [(sv_str y.2.2.2.2.1), (sv_S_impl_PlantFoe y.2.2.2.2.2.1), (sv_S_impl_PlantPlace y.2.2.2.2.2.2.1), (sv_S_impl_PlantValve y.2.2.2.2.2.2.2)])] [] rn | e => Q e σ'))) : Lp F hv Q σ := by
  unfold Lp
  refine ⟨Nat × Int × (List Int) × Int × (List ByteArray) × (List S_impl_PlantFoe) × (List S_impl_PlantPlace) × (List S_impl_PlantValve), fun x => spec_l2Draw.l9 x.1 x.2.1 x.2.2.1 x.2.2.2.1 x.2.2.2.2.1 x.2.2.2.2.2.1 x.2.2.2.2.2.2.1 x.2.2.2.2.2.2.2 = some r ∧ x.1 < k + 1, fun x => x.1, [0, 17, 182], fun x => [(10, .int .i64 x.2.1)], fun x => [(0, .box [(sv_u8 x.2.2.1), .int .i64 x.2.2.2.1]), (17, .box [(sv_str x.2.2.2.2.1), (sv_S_impl_PlantFoe x.2.2.2.2.2.1), (sv_S_impl_PlantPlace x.2.2.2.2.2.2.1), (sv_S_impl_PlantValve x.2.2.2.2.2.2.2)])], fun x => [], ⟨(k, x10_1, x1000000_7, x1000001_7, x1017000_9, x1017001_9, x1017002_9, x1017003_9), rn, ⟨H, Nat.lt_succ_self _⟩, h1⟩, ?_⟩
  rintro ⟨k, x10_1, x1000000_7, x1000001_7, x1017000_9, x1017001_9, x1017002_9, x1017003_9⟩ ⟨H, hk⟩
  exact h2 k x10_1 x1000000_7 x1000001_7 x1017000_9 x1017001_9 x1017002_9 x1017003_9 hk H
theorem spec_l2Draw.l8_lp {F : (Exit → St → Prop) → St → Prop} {hv : List Tmp} {Q : Exit → St → Prop} {σ : St} {r : (List ByteArray) × (List S_impl_PlantFoe) × (List S_impl_PlantPlace) × (List S_impl_PlantValve) × (List Int) × Int} {k : Nat} {x8_1 : Int} {x1000000_6 : List Int} {x1000001_6 : Int} {x1017000_8 : List ByteArray} {x1017001_8 : List S_impl_PlantFoe} {x1017002_8 : List S_impl_PlantPlace} {x1017003_8 : List S_impl_PlantValve} (H : spec_l2Draw.l8 k x8_1 x1000000_6 x1000001_6 x1017000_8 x1017001_8 x1017002_8 x1017003_8 = some r) (rn : List (Option Nat)) (h1 : Fits σ σ [0, 17] [(8, .int .i64 x8_1)] [(0, .box [(sv_u8 x1000000_6), .int .i64 x1000001_6]), (17, .box [(sv_str x1017000_8), (sv_S_impl_PlantFoe x1017001_8), (sv_S_impl_PlantPlace x1017002_8), (sv_S_impl_PlantValve x1017003_8)])] [] rn)
    (h2 : ∀ (k0 : Nat) (x8_1 : Int) (x1000000_6 : List Int) (x1000001_6 : Int) (x1017000_8 : List ByteArray) (x1017001_8 : List S_impl_PlantFoe) (x1017002_8 : List S_impl_PlantPlace) (x1017003_8 : List S_impl_PlantValve), k0 < k + 1 → spec_l2Draw.l8 k0 x8_1 x1000000_6 x1000001_6 x1017000_8 x1017001_8 x1017002_8 x1017003_8 = some r → headN σ hv [0, 17] [(8, .int .i64 x8_1)] [(0, .box [(sv_u8 x1000000_6), .int .i64 x1000001_6]), (17, .box [(sv_str x1017000_8), (sv_S_impl_PlantFoe x1017001_8), (sv_S_impl_PlantPlace x1017002_8), (sv_S_impl_PlantValve x1017003_8)])] [] (F (fun e σ' => match e with | .normal => ∃ (y : Nat × Int × (List Int) × Int × (List ByteArray) × (List S_impl_PlantFoe) × (List S_impl_PlantPlace) × (List S_impl_PlantValve)) (rn : List (Option Nat)), (spec_l2Draw.l8 y.1 y.2.1 y.2.2.1 y.2.2.2.1 y.2.2.2.2.1 y.2.2.2.2.2.1 y.2.2.2.2.2.2.1 y.2.2.2.2.2.2.2 = some r ∧ y.1 < k + 1) ∧ y.1 < k0 ∧ Fits σ σ' [0, 17] [(8, .int .i64 y.2.1)] [(0, .box [(sv_u8 y.2.2.1), .int .i64 y.2.2.2.1]), (17, .box [(sv_str y.2.2.2.2.1), (sv_S_impl_PlantFoe y.2.2.2.2.2.1), (sv_S_impl_PlantPlace y.2.2.2.2.2.2.1), (sv_S_impl_PlantValve y.2.2.2.2.2.2.2)])] [] rn | e => Q e σ'))) : Lp F hv Q σ := by
  unfold Lp
  refine ⟨Nat × Int × (List Int) × Int × (List ByteArray) × (List S_impl_PlantFoe) × (List S_impl_PlantPlace) × (List S_impl_PlantValve), fun x => spec_l2Draw.l8 x.1 x.2.1 x.2.2.1 x.2.2.2.1 x.2.2.2.2.1 x.2.2.2.2.2.1 x.2.2.2.2.2.2.1 x.2.2.2.2.2.2.2 = some r ∧ x.1 < k + 1, fun x => x.1, [0, 17], fun x => [(8, .int .i64 x.2.1)], fun x => [(0, .box [(sv_u8 x.2.2.1), .int .i64 x.2.2.2.1]), (17, .box [(sv_str x.2.2.2.2.1), (sv_S_impl_PlantFoe x.2.2.2.2.2.1), (sv_S_impl_PlantPlace x.2.2.2.2.2.2.1), (sv_S_impl_PlantValve x.2.2.2.2.2.2.2)])], fun x => [], ⟨(k, x8_1, x1000000_6, x1000001_6, x1017000_8, x1017001_8, x1017002_8, x1017003_8), rn, ⟨H, Nat.lt_succ_self _⟩, h1⟩, ?_⟩
  rintro ⟨k, x8_1, x1000000_6, x1000001_6, x1017000_8, x1017001_8, x1017002_8, x1017003_8⟩ ⟨H, hk⟩
  exact h2 k x8_1 x1000000_6 x1000001_6 x1017000_8 x1017001_8 x1017002_8 x1017003_8 hk H
theorem spec_l2Draw.l1_lp {F : (Exit → St → Prop) → St → Prop} {hv : List Tmp} {Q : Exit → St → Prop} {σ : St} {r : (List ByteArray) × (List S_impl_PlantFoe) × (List S_impl_PlantPlace) × (List S_impl_PlantValve) × (List Int) × Int} {k : Nat} {x6 : Int} {x1000000_1 : List Int} {x1000001_1 : Int} {x1017000_1 : List ByteArray} {x1017001_1 : List S_impl_PlantFoe} {x1017002_1 : List S_impl_PlantPlace} {x1017003_1 : List S_impl_PlantValve} (H : spec_l2Draw.l1 k x6 x1000000_1 x1000001_1 x1017000_1 x1017001_1 x1017002_1 x1017003_1 = some r) (rn : List (Option Nat)) (h1 : Fits σ σ [0, 17] [(6, .int .i64 x6)] [(0, .box [(sv_u8 x1000000_1), .int .i64 x1000001_1]), (17, .box [(sv_str x1017000_1), (sv_S_impl_PlantFoe x1017001_1), (sv_S_impl_PlantPlace x1017002_1), (sv_S_impl_PlantValve x1017003_1)])] [] rn)
    (h2 : ∀ (k0 : Nat) (x6 : Int) (x1000000_1 : List Int) (x1000001_1 : Int) (x1017000_1 : List ByteArray) (x1017001_1 : List S_impl_PlantFoe) (x1017002_1 : List S_impl_PlantPlace) (x1017003_1 : List S_impl_PlantValve), k0 < k + 1 → spec_l2Draw.l1 k0 x6 x1000000_1 x1000001_1 x1017000_1 x1017001_1 x1017002_1 x1017003_1 = some r → headN σ hv [0, 17] [(6, .int .i64 x6)] [(0, .box [(sv_u8 x1000000_1), .int .i64 x1000001_1]), (17, .box [(sv_str x1017000_1), (sv_S_impl_PlantFoe x1017001_1), (sv_S_impl_PlantPlace x1017002_1), (sv_S_impl_PlantValve x1017003_1)])] [] (F (fun e σ' => match e with | .normal => ∃ (y : Nat × Int × (List Int) × Int × (List ByteArray) × (List S_impl_PlantFoe) × (List S_impl_PlantPlace) × (List S_impl_PlantValve)) (rn : List (Option Nat)), (spec_l2Draw.l1 y.1 y.2.1 y.2.2.1 y.2.2.2.1 y.2.2.2.2.1 y.2.2.2.2.2.1 y.2.2.2.2.2.2.1 y.2.2.2.2.2.2.2 = some r ∧ y.1 < k + 1) ∧ y.1 < k0 ∧ Fits σ σ' [0, 17] [(6, .int .i64 y.2.1)] [(0, .box [(sv_u8 y.2.2.1), .int .i64 y.2.2.2.1]), (17, .box [(sv_str y.2.2.2.2.1), (sv_S_impl_PlantFoe y.2.2.2.2.2.1), (sv_S_impl_PlantPlace y.2.2.2.2.2.2.1), (sv_S_impl_PlantValve y.2.2.2.2.2.2.2)])] [] rn | e => Q e σ'))) : Lp F hv Q σ := by
  unfold Lp
  refine ⟨Nat × Int × (List Int) × Int × (List ByteArray) × (List S_impl_PlantFoe) × (List S_impl_PlantPlace) × (List S_impl_PlantValve), fun x => spec_l2Draw.l1 x.1 x.2.1 x.2.2.1 x.2.2.2.1 x.2.2.2.2.1 x.2.2.2.2.2.1 x.2.2.2.2.2.2.1 x.2.2.2.2.2.2.2 = some r ∧ x.1 < k + 1, fun x => x.1, [0, 17], fun x => [(6, .int .i64 x.2.1)], fun x => [(0, .box [(sv_u8 x.2.2.1), .int .i64 x.2.2.2.1]), (17, .box [(sv_str x.2.2.2.2.1), (sv_S_impl_PlantFoe x.2.2.2.2.2.1), (sv_S_impl_PlantPlace x.2.2.2.2.2.2.1), (sv_S_impl_PlantValve x.2.2.2.2.2.2.2)])], fun x => [], ⟨(k, x6, x1000000_1, x1000001_1, x1017000_1, x1017001_1, x1017002_1, x1017003_1), rn, ⟨H, Nat.lt_succ_self _⟩, h1⟩, ?_⟩
  rintro ⟨k, x6, x1000000_1, x1000001_1, x1017000_1, x1017001_1, x1017002_1, x1017003_1⟩ ⟨H, hk⟩
  exact h2 k x6 x1000000_1 x1000001_1 x1017000_1 x1017001_1 x1017002_1 x1017003_1 hk H
theorem spec_l2Draw.l0_lp {F : (Exit → St → Prop) → St → Prop} {hv : List Tmp} {Q : Exit → St → Prop} {σ : St} {r : (List ByteArray) × (List S_impl_PlantFoe) × (List S_impl_PlantPlace) × (List S_impl_PlantValve) × (List Int) × Int} {k : Nat} {x4 : List ByteArray} {x5 : Int} {x1000000 : List Int} {x1000001 : Int} {x1017000 : List ByteArray} {x1017001 : List S_impl_PlantFoe} {x1017002 : List S_impl_PlantPlace} {x1017003 : List S_impl_PlantValve} (H : spec_l2Draw.l0 k x4 x5 x1000000 x1000001 x1017000 x1017001 x1017002 x1017003 = some r) (rn : List (Option Nat)) (h1 : Fits σ σ [0, 17, 33] [(4, .own 0 x4.length), (5, .int .i64 x5)] [(0, .box [(sv_u8 x1000000), .int .i64 x1000001]), (17, .box [.own 1 x1017000.length, .own 2 x1017001.length, .own 3 x1017002.length, .own 4 x1017003.length])] [.arr 9 1 (x4.map en_str), .arr 9 1 (x1017000.map en_str), .arr 168 2 (x1017001.map en_S_impl_PlantFoe), .arr 109 3 (x1017002.map en_S_impl_PlantPlace), .arr 135 4 (x1017003.map en_S_impl_PlantValve)] rn)
    (h2 : ∀ (k0 : Nat) (x4 : List ByteArray) (x5 : Int) (x1000000 : List Int) (x1000001 : Int) (x1017000 : List ByteArray) (x1017001 : List S_impl_PlantFoe) (x1017002 : List S_impl_PlantPlace) (x1017003 : List S_impl_PlantValve), k0 < k + 1 → spec_l2Draw.l0 k0 x4 x5 x1000000 x1000001 x1017000 x1017001 x1017002 x1017003 = some r → headN σ hv [0, 17, 33] [(4, .own 0 x4.length), (5, .int .i64 x5)] [(0, .box [(sv_u8 x1000000), .int .i64 x1000001]), (17, .box [.own 1 x1017000.length, .own 2 x1017001.length, .own 3 x1017002.length, .own 4 x1017003.length])] [.arr 9 1 (x4.map en_str), .arr 9 1 (x1017000.map en_str), .arr 168 2 (x1017001.map en_S_impl_PlantFoe), .arr 109 3 (x1017002.map en_S_impl_PlantPlace), .arr 135 4 (x1017003.map en_S_impl_PlantValve)] (F (fun e σ' => match e with | .normal => ∃ (y : Nat × (List ByteArray) × Int × (List Int) × Int × (List ByteArray) × (List S_impl_PlantFoe) × (List S_impl_PlantPlace) × (List S_impl_PlantValve)) (rn : List (Option Nat)), (spec_l2Draw.l0 y.1 y.2.1 y.2.2.1 y.2.2.2.1 y.2.2.2.2.1 y.2.2.2.2.2.1 y.2.2.2.2.2.2.1 y.2.2.2.2.2.2.2.1 y.2.2.2.2.2.2.2.2 = some r ∧ y.1 < k + 1) ∧ y.1 < k0 ∧ Fits σ σ' [0, 17, 33] [(4, .own 0 y.2.1.length), (5, .int .i64 y.2.2.1)] [(0, .box [(sv_u8 y.2.2.2.1), .int .i64 y.2.2.2.2.1]), (17, .box [.own 1 y.2.2.2.2.2.1.length, .own 2 y.2.2.2.2.2.2.1.length, .own 3 y.2.2.2.2.2.2.2.1.length, .own 4 y.2.2.2.2.2.2.2.2.length])] [.arr 9 1 (y.2.1.map en_str), .arr 9 1 (y.2.2.2.2.2.1.map en_str), .arr 168 2 (y.2.2.2.2.2.2.1.map en_S_impl_PlantFoe), .arr 109 3 (y.2.2.2.2.2.2.2.1.map en_S_impl_PlantPlace), .arr 135 4 (y.2.2.2.2.2.2.2.2.map en_S_impl_PlantValve)] rn | e => Q e σ'))) : Lp F hv Q σ := by
  unfold Lp
  refine ⟨Nat × (List ByteArray) × Int × (List Int) × Int × (List ByteArray) × (List S_impl_PlantFoe) × (List S_impl_PlantPlace) × (List S_impl_PlantValve), fun x => spec_l2Draw.l0 x.1 x.2.1 x.2.2.1 x.2.2.2.1 x.2.2.2.2.1 x.2.2.2.2.2.1 x.2.2.2.2.2.2.1 x.2.2.2.2.2.2.2.1 x.2.2.2.2.2.2.2.2 = some r ∧ x.1 < k + 1, fun x => x.1, [0, 17, 33], fun x => [(4, .own 0 x.2.1.length), (5, .int .i64 x.2.2.1)], fun x => [(0, .box [(sv_u8 x.2.2.2.1), .int .i64 x.2.2.2.2.1]), (17, .box [.own 1 x.2.2.2.2.2.1.length, .own 2 x.2.2.2.2.2.2.1.length, .own 3 x.2.2.2.2.2.2.2.1.length, .own 4 x.2.2.2.2.2.2.2.2.length])], fun x => [.arr 9 1 (x.2.1.map en_str), .arr 9 1 (x.2.2.2.2.2.1.map en_str), .arr 168 2 (x.2.2.2.2.2.2.1.map en_S_impl_PlantFoe), .arr 109 3 (x.2.2.2.2.2.2.2.1.map en_S_impl_PlantPlace), .arr 135 4 (x.2.2.2.2.2.2.2.2.map en_S_impl_PlantValve)], ⟨(k, x4, x5, x1000000, x1000001, x1017000, x1017001, x1017002, x1017003), rn, ⟨H, Nat.lt_succ_self _⟩, h1⟩, ?_⟩
  rintro ⟨k, x4, x5, x1000000, x1000001, x1017000, x1017001, x1017002, x1017003⟩ ⟨H, hk⟩
  exact h2 k x4 x5 x1000000 x1000001 x1017000 x1017001 x1017002 x1017003 hk H
theorem spec_l2Draw.ac {k : Nat} {a0_0 : List Int} {a0_1 : Int} {r : (List ByteArray) × (List S_impl_PlantFoe) × (List S_impl_PlantPlace) × (List S_impl_PlantValve) × (List Int) × Int} (H : spec_l2Draw.f k a0_0 a0_1 = some r) : ACalls Try.prog G 177 [.box [(sv_u8 a0_0), .int .i64 a0_1]] [.bp 0 0] [.box [(sv_u8 r.2.2.2.2.1), .int .i64 r.2.2.2.2.2]] (.agg [(sv_str r.1), (sv_S_impl_PlantFoe r.2.1), (sv_S_impl_PlantPlace r.2.2.1), (sv_S_impl_PlantValve r.2.2.2.1)]) := by
  refine acalls_of tok hP Try.func177 rfl (by kernel_rfl) [.cell 2 44] rfl (by kernel_rfl) (Nat.le_of_ble_eq_true rfl) (.l .n (.l .n (.l .n (.l (.l .n (.l (.c .n .n) (.c .n .n))) (.l (.f 1 .n (.l .n (.c .n .n))) (.c .n (.l (.l .n (.l .n (.l (.l .n (.c .n (.j .n .n))) .n))) (.l (.l .n (.l (.c .n .n) (.c .n .n))) (.l (.l .n (.l (.l (.l .n (.l .n (.c .n .n))) (.l .n (.l .n (.c .n .n)))) .n)) (.c .n .n)))))))))) rfl ?_
  unfold spec_l2Draw.f at H
  conv => whnf
  refine Or.inl ?_
  conv => whnf
  refine spec_l2Draw.l0_lp (k := k) H [some 33, none, none, none, none] (fits_of ⟨mt_own lm_, ⟨.inl ⟨rfl, rfl⟩, trivial⟩⟩ ⟨fm_, ⟨⟨_, _, rfl⟩, ⟨⟨_, _, rfl⟩, ⟨⟨_, _, rfl⟩, ⟨⟨_, _, rfl⟩, trivial⟩⟩⟩⟩⟩ fi_ ⟨⟨_, rfl⟩, ⟨_, rfl, ⟨.inl ⟨rfl, rfl⟩, ⟨.inl ⟨rfl, rfl⟩, trivial⟩⟩⟩, ⟨⟨_, rfl⟩, ⟨_, rfl, ⟨⟨rfl, rfl⟩, ⟨⟨rfl, rfl⟩, ⟨⟨rfl, rfl⟩, ⟨⟨rfl, rfl⟩, trivial⟩⟩⟩⟩⟩, trivial⟩⟩ rfl) ?_
  intro k x4 x5 x1000000 x1000001 x1017000 x1017001 x1017002 x1017003 hk H; rcases k with _ | k; exact none_elim H; rw [spec_l2Draw.l0] at H; conv => whnf
  refine cut_ 94 [(0, .bp 0 0), (2, .bp 1 0), (3, .bp 17 0), (4, .own 57 x4.length), (5, .int .i64 x5), (18, .bool (decide (x5 < (x4.length : Int))))] [(0, .box [(sv_u8 x1000000), .int .i64 x1000001]), (1, .box [.nil, .nil, .nil, .nil]), (17, .box [.own 58 x1017000.length, .own 59 x1017001.length, .own 60 x1017002.length, .own 61 x1017003.length]), (57, .arr 9 1 (x4.map en_str)), (58, .arr 9 1 (x1017000.map en_str)), (59, .arr 168 2 (x1017001.map en_S_impl_PlantFoe)), (60, .arr 109 3 (x1017002.map en_S_impl_PlantPlace)), (61, .arr 135 4 (x1017003.map en_S_impl_PlantValve))] rfl ⟨.inl rfl, ⟨.inl rfl, ⟨.inl rfl, ⟨.inl rfl, ⟨.inl rfl, ⟨.inl rfl, trivial⟩⟩⟩⟩⟩⟩ ⟨rfl, ⟨rfl, ⟨rfl, ⟨rfl, ⟨rfl, ⟨rfl, ⟨rfl, ⟨rfl, trivial⟩⟩⟩⟩⟩⟩⟩⟩ ?_
  conv => whnf
  refine br_d H (fun c H => ?_) (fun c H => ?_)
  conv => whnf
  revert H; refine bind_elim (fun t8135 A H => ?_)
  refine call_mk2 [0] (spec_l1Rd_pick.ac A) ⟨rfl, trivial⟩ rfl rfl rfl rfl rfl rfl rfl rfl ?_
  conv => whnf
  refine br_d H (fun c H => ?_) (fun c H => ?_)
  conv => whnf
  refine nd_ H (fun c H => ?_)
  conv => whnf
  refine Nd.mk nf_ ?_
  conv => whnf
  refine El.mk (rdm_en_str _ _ nf_ nf_) ?_
  conv => whnf
  refine Or.inl ?_
  conv => whnf
  refine nd_ H (fun c H => ?_)
  conv => whnf
  refine cut_ 198 [(0, .bp 0 0), (2, .bp 1 0), (3, .bp 17 0), (4, .own 57 x4.length), (5, .int .i64 x5)] [(0, .box [(sv_u8 t8135.2.1), .int .i64 t8135.2.2]), (1, .box [.nil, .nil, .nil, .nil]), (17, .box [.own 174 (x1017000.length + 1), .own 59 x1017001.length, .own 60 x1017002.length, .own 61 x1017003.length]), (57, .arr 9 1 (x4.map en_str)), (59, .arr 168 2 (x1017001.map en_S_impl_PlantFoe)), (60, .arr 109 3 (x1017002.map en_S_impl_PlantPlace)), (61, .arr 135 4 (x1017003.map en_S_impl_PlantValve)), (174, .arr 9 1 ((x1017000 ++ ([rdOf ByteArray.empty x4 x5] : List ByteArray)).map en_str))] rfl ⟨.inl rfl, ⟨.inl rfl, ⟨.inl rfl, ⟨.inl rfl, ⟨.inl rfl, trivial⟩⟩⟩⟩⟩ ⟨rfl, ⟨rfl, ⟨rfl, ⟨rfl, ⟨rfl, ⟨rfl, ⟨rfl, ⟨fm_, trivial⟩⟩⟩⟩⟩⟩⟩⟩ ?_
  conv => whnf
  exact ⟨(k, x4, wrap64 (x5 + 1), t8135.2.1, t8135.2.2, (x1017000 ++ ([rdOf ByteArray.empty x4 x5] : List ByteArray)), x1017001, x1017002, x1017003), [some 57, some 174, some 59, some 60, some 61], ⟨H, lt_⟩, lt_, (fits_of ⟨rfl, ⟨.inl ⟨rfl, rfl⟩, trivial⟩⟩ ⟨rfl, ⟨rfl, ⟨rfl, ⟨rfl, ⟨rfl, trivial⟩⟩⟩⟩⟩ fi_ ⟨⟨_, rfl⟩, ⟨_, rfl, ⟨.inl ⟨rfl, rfl⟩, ⟨.inl ⟨rfl, rfl⟩, trivial⟩⟩⟩, ⟨⟨_, rfl⟩, ⟨_, rfl, ⟨mt_own lm_, ⟨rfl, ⟨rfl, ⟨rfl, trivial⟩⟩⟩⟩⟩, trivial⟩⟩ rfl)⟩
  conv => whnf
  refine cut_ 118 [(0, .bp 0 0), (2, .bp 1 0), (3, .bp 17 0), (4, .own 57 x4.length), (5, .int .i64 x5)] [(0, .box [(sv_u8 t8135.2.1), .int .i64 t8135.2.2]), (1, .box [.nil, .nil, .nil, .nil]), (17, .box [.own 58 x1017000.length, .own 59 x1017001.length, .own 60 x1017002.length, .own 61 x1017003.length]), (57, .arr 9 1 (x4.map en_str)), (58, .arr 9 1 (x1017000.map en_str)), (59, .arr 168 2 (x1017001.map en_S_impl_PlantFoe)), (60, .arr 109 3 (x1017002.map en_S_impl_PlantPlace)), (61, .arr 135 4 (x1017003.map en_S_impl_PlantValve))] rfl ⟨.inl rfl, ⟨.inl rfl, ⟨.inl rfl, ⟨.inl rfl, ⟨.inl rfl, trivial⟩⟩⟩⟩⟩ ⟨rfl, ⟨rfl, ⟨rfl, ⟨rfl, ⟨rfl, ⟨rfl, ⟨rfl, ⟨rfl, trivial⟩⟩⟩⟩⟩⟩⟩⟩ ?_
  conv => whnf
  exact ⟨(k, x4, wrap64 (x5 + 1), t8135.2.1, t8135.2.2, x1017000, x1017001, x1017002, x1017003), [some 57, some 58, some 59, some 60, some 61], ⟨H, lt_⟩, lt_, (fits_of ⟨rfl, ⟨.inl ⟨rfl, rfl⟩, trivial⟩⟩ ⟨rfl, ⟨rfl, ⟨rfl, ⟨rfl, ⟨rfl, trivial⟩⟩⟩⟩⟩ fi_ ⟨⟨_, rfl⟩, ⟨_, rfl, ⟨.inl ⟨rfl, rfl⟩, ⟨.inl ⟨rfl, rfl⟩, trivial⟩⟩⟩, ⟨⟨_, rfl⟩, ⟨_, rfl, ⟨rfl, ⟨rfl, ⟨rfl, ⟨rfl, trivial⟩⟩⟩⟩⟩, trivial⟩⟩ rfl)⟩
  conv => whnf
  revert H; refine bind_elim (fun t8331 A H => ?_)
  refine call_mk2 [0] (spec_l1Rd_pick.ac A) ⟨rfl, trivial⟩ rfl rfl rfl rfl rfl rfl rfl rfl ?_
  conv => whnf
  refine cutF_ 118 [58, 59, 60, 61] [(0, .bp 0 0), (2, .bp 1 0), (3, .bp 17 0), (6, .int .i64 t8331.1)] [(0, .box [(sv_u8 t8331.2.1), .int .i64 t8331.2.2]), (1, .box [.nil, .nil, .nil, .nil]), (17, .box [(sv_str x1017000), (sv_S_impl_PlantFoe x1017001), (sv_S_impl_PlantPlace x1017002), (sv_S_impl_PlantValve x1017003)])] rfl rfl ⟨.inl (.inl rfl), ⟨.inl (.inl rfl), ⟨.inl (.inl rfl), ⟨.inl (.inl rfl), trivial⟩⟩⟩⟩ ⟨.inl (rfl), ⟨.inl (rfl), ⟨.inr ⟨_, rfl, ⟨fz_own rfl rfl (.inr lm_) lm_, ⟨fz_own rfl rfl (.inr lm_) lm_, ⟨fz_own rfl rfl (.inr lm_) lm_, ⟨fz_own rfl rfl (.inr lm_) lm_, trivial⟩⟩⟩⟩⟩, trivial⟩⟩⟩ ?_
  conv => whnf
  refine spec_l2Draw.l1_lp (k := k) H [] (fits_of ⟨.inl ⟨rfl, rfl⟩, trivial⟩ trivial fi_ ⟨⟨_, rfl⟩, ⟨_, rfl, ⟨.inl ⟨rfl, rfl⟩, ⟨.inl ⟨rfl, rfl⟩, trivial⟩⟩⟩, ⟨⟨_, rfl⟩, ⟨_, rfl, ⟨.inl ⟨rfl, rfl⟩, ⟨.inl ⟨rfl, rfl⟩, ⟨.inl ⟨rfl, rfl⟩, ⟨.inl ⟨rfl, rfl⟩, trivial⟩⟩⟩⟩⟩, trivial⟩⟩ rfl) ?_
  intro k x6 x1000000_1 x1000001_1 x1017000_1 x1017001_1 x1017002_1 x1017003_1 hk H; rcases k with _ | k; exact none_elim H; rw [spec_l2Draw.l1] at H; conv => whnf
  refine br_d H (fun c H => ?_) (fun c H => ?_)
  conv => whnf
  refine Br.t ft_ ?_
  conv => whnf
  refine Br.t ft_ ?_
  conv => whnf
  refine Br.t ft_ ?_
  conv => whnf
  refine Br.t ft_ ?_
  conv => whnf
  refine br_d H (fun c H => ?_) (fun c H => ?_)
  conv => whnf
  revert H; refine bind_elim (fun t8338 A H => ?_)
  refine call_mk2 [0] (spec_l1Rd_of.ac A) ⟨rfl, trivial⟩ rfl rfl rfl rfl rfl rfl rfl rfl ?_
  conv => whnf
  revert H; refine bind_elim (fun t8339 A H => ?_)
  refine call_mk2 [0] (spec_l1Rd_of.ac A) ⟨rfl, trivial⟩ rfl rfl rfl rfl rfl rfl rfl rfl ?_
  conv => whnf
  refine Or.inr ?_
  conv => whnf
  revert H; refine bind_elim (fun t8340 A H => ?_)
  refine call_mk (spec_l2Try.ac A) (avAL_cons (avA_agg (avL_cons (av_shut' rfl) (avL_cons (av_shut' rfl) (avL_cons (av_shut' rfl) (avL_cons (av_shut' rfl) (avL_nil)))))) (avAL_cons (avA_slD lm_ lm_) (avAL_nil))) (Or.inl rfl) rfl rfl (Nat.le_of_ble_eq_true rfl) ?_
  conv => whnf
  refine cut_ 278 [(0, .bp 0 0), (2, .bp 1 0), (3, .bp 17 0), (6, .int .i64 x6)] [(0, .box [(sv_u8 t8339.2.1), .int .i64 t8339.2.2]), (1, .box [.nil, .nil, .nil, .nil]), (17, .box [(sv_str t8340.1), (sv_S_impl_PlantFoe t8340.2.1), (sv_S_impl_PlantPlace t8340.2.2.1), (sv_S_impl_PlantValve t8340.2.2.2)])] rfl ⟨.inl rfl, ⟨.inl rfl, ⟨.inl rfl, ⟨.inl rfl, trivial⟩⟩⟩⟩ ⟨rfl, ⟨rfl, ⟨rfl, trivial⟩⟩⟩ ?_
  conv => whnf
  exact ⟨(k, wrap64 (x6 - 1), t8339.2.1, t8339.2.2, t8340.1, t8340.2.1, t8340.2.2.1, t8340.2.2.2), [], ⟨H, lt_⟩, lt_, (fits_of ⟨.inl ⟨rfl, rfl⟩, trivial⟩ trivial fi_ ⟨⟨_, rfl⟩, ⟨_, rfl, ⟨.inl ⟨rfl, rfl⟩, ⟨.inl ⟨rfl, rfl⟩, trivial⟩⟩⟩, ⟨⟨_, rfl⟩, ⟨_, rfl, ⟨.inl ⟨rfl, rfl⟩, ⟨.inl ⟨rfl, rfl⟩, ⟨.inl ⟨rfl, rfl⟩, ⟨.inl ⟨rfl, rfl⟩, trivial⟩⟩⟩⟩⟩, trivial⟩⟩ rfl)⟩
  conv => whnf
  refine Or.inl ?_
  conv => whnf
  refine cut_ 198 [(0, .bp 0 0), (2, .bp 1 0), (3, .bp 17 0), (7, .own 182 9)] [(0, .box [(sv_u8 x1000000_1), .int .i64 x1000001_1]), (1, .box [.nil, .nil, .nil, .nil]), (17, .box [(sv_str x1017000_1), (sv_S_impl_PlantFoe x1017001_1), (sv_S_impl_PlantPlace x1017002_1), (sv_S_impl_PlantValve x1017003_1)]), (182, .arr 9 1 (([(⟨#[97]⟩ : ByteArray), (⟨#[98]⟩ : ByteArray), (⟨#[106, 49]⟩ : ByteArray), (⟨#[106, 50]⟩ : ByteArray), (⟨#[106, 51]⟩ : ByteArray), (⟨#[107, 45, 107]⟩ : ByteArray), (⟨#[118, 49]⟩ : ByteArray), (⟨#[118, 50]⟩ : ByteArray), (⟨#[122]⟩ : ByteArray)] : List ByteArray).map en_str))] rfl ⟨.inl rfl, ⟨.inl rfl, ⟨.inl rfl, ⟨.inl rfl, trivial⟩⟩⟩⟩ ⟨rfl, ⟨rfl, ⟨rfl, ⟨fm_, trivial⟩⟩⟩⟩ ?_
  conv => whnf
  refine spec_l2Draw.l2_lp (k := k) H [] (fits_of ⟨.inl ⟨rfl, rfl⟩, trivial⟩ trivial fi_ ⟨⟨_, rfl⟩, ⟨_, rfl, ⟨.inl ⟨rfl, rfl⟩, ⟨.inl ⟨rfl, rfl⟩, trivial⟩⟩⟩, ⟨⟨_, rfl⟩, ⟨_, rfl, ⟨.inl ⟨rfl, rfl⟩, ⟨.inl ⟨rfl, rfl⟩, ⟨.inl ⟨rfl, rfl⟩, ⟨.inl ⟨rfl, rfl⟩, trivial⟩⟩⟩⟩⟩, trivial⟩⟩ rfl) ?_
  intro k x8 x1000000_2 x1000001_2 x1017000_2 x1017001_2 x1017002_2 x1017003_2 hk H; rcases k with _ | k; exact none_elim H; rw [spec_l2Draw.l2] at H; conv => whnf
  refine br_d H (fun c H => ?_) (fun c H => ?_)
  conv => whnf
  revert H; refine bind_elim (fun t8345 A H => ?_)
  refine call_mk2 [0] (spec_l1Rd_pick.ac A) ⟨rfl, trivial⟩ rfl rfl rfl rfl rfl rfl rfl rfl ?_
  conv => whnf
  refine br_d H (fun c H => ?_) (fun c H => ?_)
  conv => whnf
  exact ⟨(k, wrap64 (x8 + 1), t8345.2.1, t8345.2.2, _, _, _, _), [], ⟨H, lt_⟩, lt_, (fits_of ⟨.inl ⟨rfl, rfl⟩, trivial⟩ trivial fi_ ⟨⟨_, rfl⟩, ⟨_, rfl, ⟨.inl ⟨rfl, rfl⟩, ⟨.inl ⟨rfl, rfl⟩, trivial⟩⟩⟩, ⟨⟨_, rfl⟩, ⟨_, rfl, ⟨.inl ⟨rfl, rfl⟩, ⟨.inl ⟨rfl, rfl⟩, ⟨.inl ⟨rfl, rfl⟩, ⟨.inl ⟨rfl, rfl⟩, trivial⟩⟩⟩⟩⟩, trivial⟩⟩ rfl)⟩
  conv => whnf
  refine Or.inr ?_
  conv => whnf
  revert H; refine bind_elim (fun t8346 A H => ?_)
  refine call_mk2 [0] (spec_l1Rd_of.ac A) ⟨rfl, trivial⟩ rfl rfl rfl rfl rfl (le_eq ⟨rfl, ⟨sl_e rfl lm_ lm_, trivial⟩⟩) rfl rfl ?_
  conv => whnf
  refine cut_ 294 [(0, .bp 0 0), (2, .bp 1 0), (3, .bp 17 0), (7, .own 182 9), (8, .int .i64 x8), (9, .str t8346.1)] [(0, .box [(sv_u8 t8346.2.1), .int .i64 t8346.2.2]), (1, .box [.nil, .nil, .nil, .nil]), (17, .box [(sv_str x1017000_2), (sv_S_impl_PlantFoe x1017001_2), (sv_S_impl_PlantPlace x1017002_2), (sv_S_impl_PlantValve x1017003_2)]), (182, .arr 9 1 (([(⟨#[97]⟩ : ByteArray), (⟨#[98]⟩ : ByteArray), (⟨#[106, 49]⟩ : ByteArray), (⟨#[106, 50]⟩ : ByteArray), (⟨#[106, 51]⟩ : ByteArray), (⟨#[107, 45, 107]⟩ : ByteArray), (⟨#[118, 49]⟩ : ByteArray), (⟨#[118, 50]⟩ : ByteArray), (⟨#[122]⟩ : ByteArray)] : List ByteArray).map en_str))] rfl ⟨.inl rfl, ⟨.inl rfl, ⟨.inl rfl, ⟨.inl rfl, ⟨.inl rfl, ⟨.inl rfl, trivial⟩⟩⟩⟩⟩⟩ ⟨rfl, ⟨rfl, ⟨rfl, ⟨rfl, trivial⟩⟩⟩⟩ ?_
  conv => whnf
  refine spec_l2Draw.j0_sq (x8 := x8) (x1017000_2 := x1017000_2) (x1017001_2 := x1017001_2) (x1017002_2 := x1017002_2) (x1017003_2 := x1017003_2) (t8346 := t8346) (KK := k + 1) (r := r) ?_ ?_
  conv => whnf
  refine br_d H (fun c H => ?_) (fun c H => ?_)
  conv => whnf
  refine Br.t ft_ ?_
  conv => whnf
  refine Br.t ft_ ?_
  conv => whnf
  exact ⟨(k, decide (x8 < 6)), [], ⟨H, lt_⟩, (fits_of ⟨.inl ⟨rfl, rfl⟩, trivial⟩ trivial fi_ trivial rfl)⟩
  conv => whnf
  refine Br.f ff_ ?_
  conv => whnf
  refine Br.f ff_ ?_
  conv => whnf
  exact ⟨(k, false), [], ⟨H, lt_⟩, (fits_of ⟨.inl ⟨rfl, rfl⟩, trivial⟩ trivial fi_ trivial rfl)⟩
  intro k x74 hk H; rcases k with _ | k; exact none_elim H; rw [spec_l2Draw.j0] at H; conv => whnf
  refine br_t H (fun c H => ?_) (fun c H => ?_)
  conv => whnf
  refine nd_ H (fun c H => ?_)
  conv => whnf
  refine nd_ H (fun c H => ?_)
  conv => whnf
  refine El.mk (rdm_en_str _ _ nf_ nf_) ?_
  conv => whnf
  refine Or.inr ?_
  conv => whnf
  revert H; refine bind_elim (fun t8347 A H => ?_)
  refine call_mk (spec_l2Try.ac A) (avAL_cons (avA_agg (avL_cons (av_shut' rfl) (avL_cons (av_shut' rfl) (avL_cons (av_shut' rfl) (avL_cons (av_shut' rfl) (avL_nil)))))) (avAL_cons (avA_slD lm_ lm_) (avAL_nil))) (Or.inl rfl) rfl rfl (Nat.le_of_ble_eq_true rfl) ?_
  conv => whnf
  exact ⟨(k, wrap64 (x8 + 1), t8346.2.1, t8346.2.2, t8347.1, t8347.2.1, t8347.2.2.1, t8347.2.2.2), [], ⟨H, lt_⟩, lt_, (fits_of ⟨.inl ⟨rfl, rfl⟩, trivial⟩ trivial fi_ ⟨⟨_, rfl⟩, ⟨_, rfl, ⟨.inl ⟨rfl, rfl⟩, ⟨.inl ⟨rfl, rfl⟩, trivial⟩⟩⟩, ⟨⟨_, rfl⟩, ⟨_, rfl, ⟨.inl ⟨rfl, rfl⟩, ⟨.inl ⟨rfl, rfl⟩, ⟨.inl ⟨rfl, rfl⟩, ⟨.inl ⟨rfl, rfl⟩, trivial⟩⟩⟩⟩⟩, trivial⟩⟩ rfl)⟩
  conv => whnf
  refine nd_ H (fun c H => ?_)
  conv => whnf
  refine nd_ H (fun c H => ?_)
  conv => whnf
  refine El.mk (rdm_en_str _ _ nf_ nf_) ?_
  conv => whnf
  revert H; refine bind_elim (fun t8348 A H => ?_)
  refine call_mk2 [0] (spec_l1Rd_pick.ac A) ⟨rfl, trivial⟩ rfl rfl rfl rfl rfl rfl rfl rfl ?_
  conv => whnf
  revert H; refine bind_elim (fun t8349 A H => ?_)
  refine call_mk (spec_l3Dec.ac A) (avAL_cons (avA_shut' rfl) (avAL_nil)) (Or.inl rfl) rfl rfl (Nat.le_of_ble_eq_true rfl) ?_
  conv => whnf
  refine Or.inr ?_
  conv => whnf
  revert H; refine bind_elim (fun t8350 A H => ?_)
  refine call_mk (spec_l2Try.ac A) (avAL_cons (avA_agg (avL_cons (av_shut' rfl) (avL_cons (av_shut' rfl) (avL_cons (av_shut' rfl) (avL_cons (av_shut' rfl) (avL_nil)))))) (avAL_cons (avA_slD lm_ lm_) (avAL_nil))) (Or.inl rfl) rfl rfl (Nat.le_of_ble_eq_true rfl) ?_
  conv => whnf
  exact ⟨(k, wrap64 (x8 + 1), t8348.2.1, t8348.2.2, t8350.1, t8350.2.1, t8350.2.2.1, t8350.2.2.2), [], ⟨H, lt_⟩, lt_, (fits_of ⟨.inl ⟨rfl, rfl⟩, trivial⟩ trivial fi_ ⟨⟨_, rfl⟩, ⟨_, rfl, ⟨.inl ⟨rfl, rfl⟩, ⟨.inl ⟨rfl, rfl⟩, trivial⟩⟩⟩, ⟨⟨_, rfl⟩, ⟨_, rfl, ⟨.inl ⟨rfl, rfl⟩, ⟨.inl ⟨rfl, rfl⟩, ⟨.inl ⟨rfl, rfl⟩, ⟨.inl ⟨rfl, rfl⟩, trivial⟩⟩⟩⟩⟩, trivial⟩⟩ rfl)⟩
  conv => whnf
  revert H; refine bind_elim (fun t8351 A H => ?_)
  refine call_mk2 [0] (spec_l1Rd_pick.ac A) ⟨rfl, trivial⟩ rfl rfl rfl rfl rfl rfl rfl rfl ?_
  conv => whnf
  refine spec_l2Draw.l3_lp (k := k) H [] (fits_of ⟨.inl ⟨rfl, rfl⟩, trivial⟩ trivial fi_ ⟨⟨_, rfl⟩, ⟨_, rfl, ⟨.inl ⟨rfl, rfl⟩, ⟨.inl ⟨rfl, rfl⟩, trivial⟩⟩⟩, ⟨⟨_, rfl⟩, ⟨_, rfl, ⟨.inl ⟨rfl, rfl⟩, ⟨.inl ⟨rfl, rfl⟩, ⟨.inl ⟨rfl, rfl⟩, ⟨.inl ⟨rfl, rfl⟩, trivial⟩⟩⟩⟩⟩, trivial⟩⟩ rfl) ?_
  intro k x10 x1000000_3 x1000001_3 x1017000_3 x1017001_3 x1017002_3 x1017003_3 hk H; rcases k with _ | k; exact none_elim H; rw [spec_l2Draw.l3] at H; conv => whnf
  refine br_d H (fun c H => ?_) (fun c H => ?_)
  conv => whnf
  refine Br.t ft_ ?_
  conv => whnf
  refine Br.t ft_ ?_
  conv => whnf
  refine Br.t ft_ ?_
  conv => whnf
  refine Br.t ft_ ?_
  conv => whnf
  refine cut_ 326 [(0, .bp 0 0), (2, .bp 1 0), (3, .bp 17 0), (10, .int .i64 x10), (104, .bool (decide ((x1017002_3.length : Int) > 1)))] [(0, .box [(sv_u8 x1000000_3), .int .i64 x1000001_3]), (1, .box [.nil, .nil, .nil, .nil]), (17, .box [(sv_str x1017000_3), (sv_S_impl_PlantFoe x1017001_3), (sv_S_impl_PlantPlace x1017002_3), (sv_S_impl_PlantValve x1017003_3)])] rfl ⟨.inl rfl, ⟨.inl rfl, ⟨.inl rfl, ⟨.inl rfl, ⟨.inl rfl, trivial⟩⟩⟩⟩⟩ ⟨rfl, ⟨rfl, ⟨rfl, trivial⟩⟩⟩ ?_
  conv => whnf
  refine br_d H (fun c H => ?_) (fun c H => ?_)
  conv => whnf
  revert H; refine bind_elim (fun t8370 A H => ?_)
  refine call_mk2 [0] (spec_l1Rd_pick.ac A) ⟨rfl, trivial⟩ rfl rfl rfl rfl rfl rfl rfl rfl ?_
  conv => whnf
  revert H; refine bind_elim (fun t8371 A H => ?_)
  refine call_mk (spec_l3Dec.ac A) (avAL_cons (avA_shut' rfl) (avAL_nil)) (Or.inl rfl) rfl rfl (Nat.le_of_ble_eq_true rfl) ?_
  conv => whnf
  refine nd_ H (fun c H => ?_)
  conv => whnf
  revert H; refine bind_elim (fun t8372 A H => ?_)
  refine call_mk2 [0] (spec_l1Rd_pick.ac A) ⟨rfl, trivial⟩ rfl rfl rfl rfl rfl rfl rfl rfl ?_
  conv => whnf
  refine nd_ H (fun c H => ?_)
  conv => whnf
  refine nd_ H (fun c H => ?_)
  conv => whnf
  refine El.mk (rdm_en_S_impl_PlantPlace _ _ nf_ nf_) ?_
  conv => whnf
  revert H; refine bind_elim (fun t8373 A H => ?_)
  refine call_mk2 [0] (spec_l1Rd_pick.ac A) ⟨rfl, trivial⟩ rfl rfl rfl rfl rfl rfl rfl rfl ?_
  conv => whnf
  refine nd_ H (fun c H => ?_)
  conv => whnf
  refine nd_ H (fun c H => ?_)
  conv => whnf
  refine El.mk (rdm_en_S_impl_PlantPlace _ _ nf_ nf_) ?_
  conv => whnf
  refine Or.inr ?_
  conv => whnf
  revert H; refine bind_elim (fun t8374 A H => ?_)
  refine call_mk2 [0] (spec_l1Rd_of.ac A) ⟨rfl, trivial⟩ rfl rfl rfl rfl rfl (le_eq ⟨rfl, ⟨sl_e rfl lm_ lm_, trivial⟩⟩) rfl rfl ?_
  conv => whnf
  refine Or.inr ?_
  conv => whnf
  revert H; refine bind_elim (fun t8375 A H => ?_)
  refine call_mk (spec_l2Try.ac A) (avAL_cons (avA_agg (avL_cons (av_shut' rfl) (avL_cons (av_shut' rfl) (avL_cons (av_shut' rfl) (avL_cons (av_shut' rfl) (avL_nil)))))) (avAL_cons (avA_slD lm_ lm_) (avAL_nil))) (Or.inl rfl) rfl rfl (Nat.le_of_ble_eq_true rfl) ?_
  conv => whnf
  refine cut_ 574 [(0, .bp 0 0), (2, .bp 1 0), (3, .bp 17 0), (10, .int .i64 x10)] [(0, .box [(sv_u8 t8374.2.1), .int .i64 t8374.2.2]), (1, .box [.nil, .nil, .nil, .nil]), (17, .box [(sv_str t8375.1), (sv_S_impl_PlantFoe t8375.2.1), (sv_S_impl_PlantPlace t8375.2.2.1), (sv_S_impl_PlantValve t8375.2.2.2)])] rfl ⟨.inl rfl, ⟨.inl rfl, ⟨.inl rfl, ⟨.inl rfl, trivial⟩⟩⟩⟩ ⟨rfl, ⟨rfl, ⟨rfl, trivial⟩⟩⟩ ?_
  conv => whnf
  exact ⟨(k, wrap64 (x10 - 1), t8374.2.1, t8374.2.2, t8375.1, t8375.2.1, t8375.2.2.1, t8375.2.2.2), [], ⟨H, lt_⟩, lt_, (fits_of ⟨.inl ⟨rfl, rfl⟩, trivial⟩ trivial fi_ ⟨⟨_, rfl⟩, ⟨_, rfl, ⟨.inl ⟨rfl, rfl⟩, ⟨.inl ⟨rfl, rfl⟩, trivial⟩⟩⟩, ⟨⟨_, rfl⟩, ⟨_, rfl, ⟨.inl ⟨rfl, rfl⟩, ⟨.inl ⟨rfl, rfl⟩, ⟨.inl ⟨rfl, rfl⟩, ⟨.inl ⟨rfl, rfl⟩, trivial⟩⟩⟩⟩⟩, trivial⟩⟩ rfl)⟩
  conv => whnf
  revert H; refine bind_elim (fun t8376 A H => ?_)
  refine call_mk2 [0] (spec_l1Rd_pick.ac A) ⟨rfl, trivial⟩ rfl rfl rfl rfl rfl rfl rfl rfl ?_
  conv => whnf
  refine br_d H (fun c H => ?_) (fun c H => ?_)
  conv => whnf
  refine spec_l2Draw.l4_lp (t8376 := t8376) (k := k) H [] (fits_of ⟨.inl ⟨rfl, rfl⟩, trivial⟩ trivial fi_ ⟨⟨_, rfl⟩, ⟨_, rfl, ⟨.inl ⟨rfl, rfl⟩, ⟨.inl ⟨rfl, rfl⟩, ⟨.inl ⟨rfl, rfl⟩, ⟨.inl ⟨rfl, rfl⟩, trivial⟩⟩⟩⟩⟩, trivial⟩ rfl) ?_
  intro k x11 x1017000_4 x1017001_4 x1017002_4 x1017003_4 hk H; rcases k with _ | k; exact none_elim H; rw [spec_l2Draw.l4] at H; conv => whnf
  refine br_d H (fun c H => ?_) (fun c H => ?_)
  conv => whnf
  revert H; refine bind_elim (fun t8379 A H => ?_)
  refine call_mk (spec_l3Dec.ac A) (avAL_cons (avA_shut' rfl) (avAL_nil)) (Or.inl rfl) rfl rfl (Nat.le_of_ble_eq_true rfl) ?_
  conv => whnf
  refine nd_ H (fun c H => ?_)
  conv => whnf
  refine Or.inr ?_
  conv => whnf
  revert H; refine bind_elim (fun t8380 A H => ?_)
  refine call_mk (spec_l2Try.ac A) (avAL_cons (avA_agg (avL_cons (av_shut' rfl) (avL_cons (av_shut' rfl) (avL_cons (av_shut' rfl) (avL_cons (av_shut' rfl) (avL_nil)))))) (avAL_cons (avA_slD lm_ lm_) (avAL_nil))) (Or.inl rfl) rfl rfl (Nat.le_of_ble_eq_true rfl) ?_
  conv => whnf
  refine cut_ 430 [(0, .bp 0 0), (2, .bp 1 0), (3, .bp 17 0), (11, .int .i64 x11)] [(0, .box [(sv_u8 t8376.2.1), .int .i64 t8376.2.2]), (1, .box [.nil, .nil, .nil, .nil]), (17, .box [(sv_str t8380.1), (sv_S_impl_PlantFoe t8380.2.1), (sv_S_impl_PlantPlace t8380.2.2.1), (sv_S_impl_PlantValve t8380.2.2.2)])] rfl ⟨.inl rfl, ⟨.inl rfl, ⟨.inl rfl, ⟨.inl rfl, trivial⟩⟩⟩⟩ ⟨rfl, ⟨rfl, ⟨rfl, trivial⟩⟩⟩ ?_
  conv => whnf
  exact ⟨(k, wrap64 (x11 + 1), t8380.1, t8380.2.1, t8380.2.2.1, t8380.2.2.2), [], ⟨H, lt_⟩, lt_, (fits_of ⟨.inl ⟨rfl, rfl⟩, trivial⟩ trivial fi_ ⟨⟨_, rfl⟩, ⟨_, rfl, ⟨.inl ⟨rfl, rfl⟩, ⟨.inl ⟨rfl, rfl⟩, ⟨.inl ⟨rfl, rfl⟩, ⟨.inl ⟨rfl, rfl⟩, trivial⟩⟩⟩⟩⟩, trivial⟩ rfl)⟩
  conv => whnf
  refine spec_l2Draw.l5_lp (k := k) H [] (fits_of ⟨.inl ⟨rfl, rfl⟩, trivial⟩ trivial fi_ ⟨⟨_, rfl⟩, ⟨_, rfl, ⟨.inl ⟨rfl, rfl⟩, ⟨.inl ⟨rfl, rfl⟩, trivial⟩⟩⟩, ⟨⟨_, rfl⟩, ⟨_, rfl, ⟨.inl ⟨rfl, rfl⟩, ⟨.inl ⟨rfl, rfl⟩, ⟨.inl ⟨rfl, rfl⟩, ⟨.inl ⟨rfl, rfl⟩, trivial⟩⟩⟩⟩⟩, trivial⟩⟩ rfl) ?_
  intro k x12 x1000000_4 x1000001_4 x1017000_5 x1017001_5 x1017002_5 x1017003_5 hk H; rcases k with _ | k; exact none_elim H; rw [spec_l2Draw.l5] at H; conv => whnf
  refine br_d H (fun c H => ?_) (fun c H => ?_)
  conv => whnf
  revert H; refine bind_elim (fun t8389 A H => ?_)
  refine call_mk (spec_l3Dec.ac A) (avAL_cons (avA_shut' rfl) (avAL_nil)) (Or.inl rfl) rfl rfl (Nat.le_of_ble_eq_true rfl) ?_
  conv => whnf
  refine nd_ H (fun c H => ?_)
  conv => whnf
  refine Or.inr ?_
  conv => whnf
  revert H; refine bind_elim (fun t8390 A H => ?_)
  refine call_mk2 [0] (spec_l1Rd_of.ac A) ⟨rfl, trivial⟩ rfl rfl rfl rfl rfl (le_eq ⟨rfl, ⟨sl_e rfl lm_ lm_, trivial⟩⟩) rfl rfl ?_
  conv => whnf
  refine Or.inr ?_
  conv => whnf
  revert H; refine bind_elim (fun t8391 A H => ?_)
  refine call_mk2 [0] (spec_l1Rd_of.ac A) ⟨rfl, trivial⟩ rfl rfl rfl rfl rfl (le_eq ⟨rfl, ⟨sl_e rfl lm_ lm_, trivial⟩⟩) rfl rfl ?_
  conv => whnf
  refine Or.inr ?_
  conv => whnf
  revert H; refine bind_elim (fun t8392 A H => ?_)
  refine call_mk (spec_l2Try.ac A) (avAL_cons (avA_agg (avL_cons (av_shut' rfl) (avL_cons (av_shut' rfl) (avL_cons (av_shut' rfl) (avL_cons (av_shut' rfl) (avL_nil)))))) (avAL_cons (avA_slD lm_ lm_) (avAL_nil))) (Or.inl rfl) rfl rfl (Nat.le_of_ble_eq_true rfl) ?_
  conv => whnf
  refine cut_ 502 [(0, .bp 0 0), (2, .bp 1 0), (3, .bp 17 0), (12, .int .i64 x12)] [(0, .box [(sv_u8 t8391.2.1), .int .i64 t8391.2.2]), (1, .box [.nil, .nil, .nil, .nil]), (17, .box [(sv_str t8392.1), (sv_S_impl_PlantFoe t8392.2.1), (sv_S_impl_PlantPlace t8392.2.2.1), (sv_S_impl_PlantValve t8392.2.2.2)])] rfl ⟨.inl rfl, ⟨.inl rfl, ⟨.inl rfl, ⟨.inl rfl, trivial⟩⟩⟩⟩ ⟨rfl, ⟨rfl, ⟨rfl, trivial⟩⟩⟩ ?_
  conv => whnf
  exact ⟨(k, wrap64 (x12 + 1), t8391.2.1, t8391.2.2, t8392.1, t8392.2.1, t8392.2.2.1, t8392.2.2.2), [], ⟨H, lt_⟩, lt_, (fits_of ⟨.inl ⟨rfl, rfl⟩, trivial⟩ trivial fi_ ⟨⟨_, rfl⟩, ⟨_, rfl, ⟨.inl ⟨rfl, rfl⟩, ⟨.inl ⟨rfl, rfl⟩, trivial⟩⟩⟩, ⟨⟨_, rfl⟩, ⟨_, rfl, ⟨.inl ⟨rfl, rfl⟩, ⟨.inl ⟨rfl, rfl⟩, ⟨.inl ⟨rfl, rfl⟩, ⟨.inl ⟨rfl, rfl⟩, trivial⟩⟩⟩⟩⟩, trivial⟩⟩ rfl)⟩
  conv => whnf
  revert H; refine bind_elim (fun t8393 A H => ?_)
  refine call_mk (spec_l2Copy.ac A) (avAL_cons (avA_agg (avL_cons (av_shut' rfl) (avL_cons (av_shut' rfl) (avL_cons (av_shut' rfl) (avL_cons (av_shut' rfl) (avL_nil)))))) (avAL_nil)) (Or.inl rfl) rfl rfl (Nat.le_of_ble_eq_true rfl) ?_
  conv => whnf
  refine cut_ 422 [(2, .bp 1 0)] [(0, .box [(sv_u8 x1000000_4), .int .i64 x1000001_4]), (1, .box [(sv_str t8393.1), (sv_S_impl_PlantFoe t8393.2.1), (sv_S_impl_PlantPlace t8393.2.2.1), (sv_S_impl_PlantValve t8393.2.2.2)])] rfl ⟨.inl rfl, trivial⟩ ⟨rfl, ⟨rfl, trivial⟩⟩ ?_
  conv => whnf
  injection H with H; subst H
  exact ret_gen [some 0] [] ((rtA_agg (rtL_cons (rt_eq rfl) (rtL_cons (rt_eq rfl) (rtL_cons (rt_eq rfl) (rtL_cons (rt_eq rfl) (rtL_nil))))))) ⟨rfl, trivial⟩ rfl
  conv => whnf
  revert H; refine bind_elim (fun t8394 A H => ?_)
  refine call_mk (spec_l2Copy.ac A) (avAL_cons (avA_agg (avL_cons (av_shut' rfl) (avL_cons (av_shut' rfl) (avL_cons (av_shut' rfl) (avL_cons (av_shut' rfl) (avL_nil)))))) (avAL_nil)) (Or.inl rfl) rfl rfl (Nat.le_of_ble_eq_true rfl) ?_
  conv => whnf
  refine cut_ 374 [(2, .bp 1 0)] [(0, .box [(sv_u8 t8376.2.1), .int .i64 t8376.2.2]), (1, .box [(sv_str t8394.1), (sv_S_impl_PlantFoe t8394.2.1), (sv_S_impl_PlantPlace t8394.2.2.1), (sv_S_impl_PlantValve t8394.2.2.2)])] rfl ⟨.inl rfl, trivial⟩ ⟨rfl, ⟨rfl, trivial⟩⟩ ?_
  conv => whnf
  injection H with H; subst H
  exact ret_gen [some 0] [] ((rtA_agg (rtL_cons (rt_eq rfl) (rtL_cons (rt_eq rfl) (rtL_cons (rt_eq rfl) (rtL_cons (rt_eq rfl) (rtL_nil))))))) ⟨rfl, trivial⟩ rfl
  conv => whnf
  refine Br.f ff_ ?_
  conv => whnf
  refine Br.f ff_ ?_
  conv => whnf
  refine Br.f ff_ ?_
  conv => whnf
  refine Br.f ff_ ?_
  conv => whnf
  refine cut_ 326 [(0, .bp 0 0), (2, .bp 1 0), (3, .bp 17 0), (10, .int .i64 x10), (104, .bool false)] [(0, .box [(sv_u8 x1000000_3), .int .i64 x1000001_3]), (1, .box [.nil, .nil, .nil, .nil]), (17, .box [(sv_str x1017000_3), (sv_S_impl_PlantFoe x1017001_3), (sv_S_impl_PlantPlace x1017002_3), (sv_S_impl_PlantValve x1017003_3)])] rfl ⟨.inl rfl, ⟨.inl rfl, ⟨.inl rfl, ⟨.inl rfl, ⟨.inl rfl, trivial⟩⟩⟩⟩⟩ ⟨rfl, ⟨rfl, ⟨rfl, trivial⟩⟩⟩ ?_
  conv => whnf
  refine Br.f rfl ?_
  conv => whnf
  revert H; refine bind_elim (fun t8395 A H => ?_)
  refine call_mk2 [0] (spec_l1Rd_pick.ac A) ⟨rfl, trivial⟩ rfl rfl rfl rfl rfl rfl rfl rfl ?_
  conv => whnf
  refine br_d H (fun c H => ?_) (fun c H => ?_)
  conv => whnf
  refine spec_l2Draw.l6_lp (t8395 := t8395) (k := k) H [] (fits_of ⟨.inl ⟨rfl, rfl⟩, trivial⟩ trivial fi_ ⟨⟨_, rfl⟩, ⟨_, rfl, ⟨.inl ⟨rfl, rfl⟩, ⟨.inl ⟨rfl, rfl⟩, ⟨.inl ⟨rfl, rfl⟩, ⟨.inl ⟨rfl, rfl⟩, trivial⟩⟩⟩⟩⟩, trivial⟩ rfl) ?_
  intro k x11_1 x1017000_6 x1017001_6 x1017002_6 x1017003_6 hk H; rcases k with _ | k; exact none_elim H; rw [spec_l2Draw.l6] at H; conv => whnf
  refine br_d H (fun c H => ?_) (fun c H => ?_)
  conv => whnf
  revert H; refine bind_elim (fun t8398 A H => ?_)
  refine call_mk (spec_l3Dec.ac A) (avAL_cons (avA_shut' rfl) (avAL_nil)) (Or.inl rfl) rfl rfl (Nat.le_of_ble_eq_true rfl) ?_
  conv => whnf
  refine nd_ H (fun c H => ?_)
  conv => whnf
  refine Or.inr ?_
  conv => whnf
  revert H; refine bind_elim (fun t8399 A H => ?_)
  refine call_mk (spec_l2Try.ac A) (avAL_cons (avA_agg (avL_cons (av_shut' rfl) (avL_cons (av_shut' rfl) (avL_cons (av_shut' rfl) (avL_cons (av_shut' rfl) (avL_nil)))))) (avAL_cons (avA_slD lm_ lm_) (avAL_nil))) (Or.inl rfl) rfl rfl (Nat.le_of_ble_eq_true rfl) ?_
  conv => whnf
  refine cut_ 430 [(0, .bp 0 0), (2, .bp 1 0), (3, .bp 17 0), (11, .int .i64 x11_1)] [(0, .box [(sv_u8 t8395.2.1), .int .i64 t8395.2.2]), (1, .box [.nil, .nil, .nil, .nil]), (17, .box [(sv_str t8399.1), (sv_S_impl_PlantFoe t8399.2.1), (sv_S_impl_PlantPlace t8399.2.2.1), (sv_S_impl_PlantValve t8399.2.2.2)])] rfl ⟨.inl rfl, ⟨.inl rfl, ⟨.inl rfl, ⟨.inl rfl, trivial⟩⟩⟩⟩ ⟨rfl, ⟨rfl, ⟨rfl, trivial⟩⟩⟩ ?_
  conv => whnf
  exact ⟨(k, wrap64 (x11_1 + 1), t8399.1, t8399.2.1, t8399.2.2.1, t8399.2.2.2), [], ⟨H, lt_⟩, lt_, (fits_of ⟨.inl ⟨rfl, rfl⟩, trivial⟩ trivial fi_ ⟨⟨_, rfl⟩, ⟨_, rfl, ⟨.inl ⟨rfl, rfl⟩, ⟨.inl ⟨rfl, rfl⟩, ⟨.inl ⟨rfl, rfl⟩, ⟨.inl ⟨rfl, rfl⟩, trivial⟩⟩⟩⟩⟩, trivial⟩ rfl)⟩
  conv => whnf
  refine spec_l2Draw.l7_lp (k := k) H [] (fits_of ⟨.inl ⟨rfl, rfl⟩, trivial⟩ trivial fi_ ⟨⟨_, rfl⟩, ⟨_, rfl, ⟨.inl ⟨rfl, rfl⟩, ⟨.inl ⟨rfl, rfl⟩, trivial⟩⟩⟩, ⟨⟨_, rfl⟩, ⟨_, rfl, ⟨.inl ⟨rfl, rfl⟩, ⟨.inl ⟨rfl, rfl⟩, ⟨.inl ⟨rfl, rfl⟩, ⟨.inl ⟨rfl, rfl⟩, trivial⟩⟩⟩⟩⟩, trivial⟩⟩ rfl) ?_
  intro k x12_1 x1000000_5 x1000001_5 x1017000_7 x1017001_7 x1017002_7 x1017003_7 hk H; rcases k with _ | k; exact none_elim H; rw [spec_l2Draw.l7] at H; conv => whnf
  refine br_d H (fun c H => ?_) (fun c H => ?_)
  conv => whnf
  revert H; refine bind_elim (fun t8408 A H => ?_)
  refine call_mk (spec_l3Dec.ac A) (avAL_cons (avA_shut' rfl) (avAL_nil)) (Or.inl rfl) rfl rfl (Nat.le_of_ble_eq_true rfl) ?_
  conv => whnf
  refine nd_ H (fun c H => ?_)
  conv => whnf
  refine Or.inr ?_
  conv => whnf
  revert H; refine bind_elim (fun t8409 A H => ?_)
  refine call_mk2 [0] (spec_l1Rd_of.ac A) ⟨rfl, trivial⟩ rfl rfl rfl rfl rfl (le_eq ⟨rfl, ⟨sl_e rfl lm_ lm_, trivial⟩⟩) rfl rfl ?_
  conv => whnf
  refine Or.inr ?_
  conv => whnf
  revert H; refine bind_elim (fun t8410 A H => ?_)
  refine call_mk2 [0] (spec_l1Rd_of.ac A) ⟨rfl, trivial⟩ rfl rfl rfl rfl rfl (le_eq ⟨rfl, ⟨sl_e rfl lm_ lm_, trivial⟩⟩) rfl rfl ?_
  conv => whnf
  refine Or.inr ?_
  conv => whnf
  revert H; refine bind_elim (fun t8411 A H => ?_)
  refine call_mk (spec_l2Try.ac A) (avAL_cons (avA_agg (avL_cons (av_shut' rfl) (avL_cons (av_shut' rfl) (avL_cons (av_shut' rfl) (avL_cons (av_shut' rfl) (avL_nil)))))) (avAL_cons (avA_slD lm_ lm_) (avAL_nil))) (Or.inl rfl) rfl rfl (Nat.le_of_ble_eq_true rfl) ?_
  conv => whnf
  refine cut_ 502 [(0, .bp 0 0), (2, .bp 1 0), (3, .bp 17 0), (12, .int .i64 x12_1)] [(0, .box [(sv_u8 t8410.2.1), .int .i64 t8410.2.2]), (1, .box [.nil, .nil, .nil, .nil]), (17, .box [(sv_str t8411.1), (sv_S_impl_PlantFoe t8411.2.1), (sv_S_impl_PlantPlace t8411.2.2.1), (sv_S_impl_PlantValve t8411.2.2.2)])] rfl ⟨.inl rfl, ⟨.inl rfl, ⟨.inl rfl, ⟨.inl rfl, trivial⟩⟩⟩⟩ ⟨rfl, ⟨rfl, ⟨rfl, trivial⟩⟩⟩ ?_
  conv => whnf
  exact ⟨(k, wrap64 (x12_1 + 1), t8410.2.1, t8410.2.2, t8411.1, t8411.2.1, t8411.2.2.1, t8411.2.2.2), [], ⟨H, lt_⟩, lt_, (fits_of ⟨.inl ⟨rfl, rfl⟩, trivial⟩ trivial fi_ ⟨⟨_, rfl⟩, ⟨_, rfl, ⟨.inl ⟨rfl, rfl⟩, ⟨.inl ⟨rfl, rfl⟩, trivial⟩⟩⟩, ⟨⟨_, rfl⟩, ⟨_, rfl, ⟨.inl ⟨rfl, rfl⟩, ⟨.inl ⟨rfl, rfl⟩, ⟨.inl ⟨rfl, rfl⟩, ⟨.inl ⟨rfl, rfl⟩, trivial⟩⟩⟩⟩⟩, trivial⟩⟩ rfl)⟩
  conv => whnf
  revert H; refine bind_elim (fun t8412 A H => ?_)
  refine call_mk (spec_l2Copy.ac A) (avAL_cons (avA_agg (avL_cons (av_shut' rfl) (avL_cons (av_shut' rfl) (avL_cons (av_shut' rfl) (avL_cons (av_shut' rfl) (avL_nil)))))) (avAL_nil)) (Or.inl rfl) rfl rfl (Nat.le_of_ble_eq_true rfl) ?_
  conv => whnf
  refine cut_ 422 [(2, .bp 1 0)] [(0, .box [(sv_u8 x1000000_5), .int .i64 x1000001_5]), (1, .box [(sv_str t8412.1), (sv_S_impl_PlantFoe t8412.2.1), (sv_S_impl_PlantPlace t8412.2.2.1), (sv_S_impl_PlantValve t8412.2.2.2)])] rfl ⟨.inl rfl, trivial⟩ ⟨rfl, ⟨rfl, trivial⟩⟩ ?_
  conv => whnf
  injection H with H; subst H
  exact ret_gen [some 0] [] ((rtA_agg (rtL_cons (rt_eq rfl) (rtL_cons (rt_eq rfl) (rtL_cons (rt_eq rfl) (rtL_cons (rt_eq rfl) (rtL_nil))))))) ⟨rfl, trivial⟩ rfl
  conv => whnf
  revert H; refine bind_elim (fun t8413 A H => ?_)
  refine call_mk (spec_l2Copy.ac A) (avAL_cons (avA_agg (avL_cons (av_shut' rfl) (avL_cons (av_shut' rfl) (avL_cons (av_shut' rfl) (avL_cons (av_shut' rfl) (avL_nil)))))) (avAL_nil)) (Or.inl rfl) rfl rfl (Nat.le_of_ble_eq_true rfl) ?_
  conv => whnf
  refine cut_ 374 [(2, .bp 1 0)] [(0, .box [(sv_u8 t8395.2.1), .int .i64 t8395.2.2]), (1, .box [(sv_str t8413.1), (sv_S_impl_PlantFoe t8413.2.1), (sv_S_impl_PlantPlace t8413.2.2.1), (sv_S_impl_PlantValve t8413.2.2.2)])] rfl ⟨.inl rfl, trivial⟩ ⟨rfl, ⟨rfl, trivial⟩⟩ ?_
  conv => whnf
  injection H with H; subst H
  exact ret_gen [some 0] [] ((rtA_agg (rtL_cons (rt_eq rfl) (rtL_cons (rt_eq rfl) (rtL_cons (rt_eq rfl) (rtL_cons (rt_eq rfl) (rtL_nil))))))) ⟨rfl, trivial⟩ rfl
  conv => whnf
  refine Br.f ff_ ?_
  conv => whnf
  refine Br.f ff_ ?_
  conv => whnf
  refine Br.f ff_ ?_
  conv => whnf
  refine Br.f ff_ ?_
  conv => whnf
  refine Br.f rfl ?_
  conv => whnf
  refine Or.inl ?_
  conv => whnf
  refine cut_ 198 [(0, .bp 0 0), (2, .bp 1 0), (3, .bp 17 0), (7, .own 182 9)] [(0, .box [(sv_u8 x1000000_1), .int .i64 x1000001_1]), (1, .box [.nil, .nil, .nil, .nil]), (17, .box [(sv_str x1017000_1), (sv_S_impl_PlantFoe x1017001_1), (sv_S_impl_PlantPlace x1017002_1), (sv_S_impl_PlantValve x1017003_1)]), (182, .arr 9 1 (([(⟨#[97]⟩ : ByteArray), (⟨#[98]⟩ : ByteArray), (⟨#[106, 49]⟩ : ByteArray), (⟨#[106, 50]⟩ : ByteArray), (⟨#[106, 51]⟩ : ByteArray), (⟨#[107, 45, 107]⟩ : ByteArray), (⟨#[118, 49]⟩ : ByteArray), (⟨#[118, 50]⟩ : ByteArray), (⟨#[122]⟩ : ByteArray)] : List ByteArray).map en_str))] rfl ⟨.inl rfl, ⟨.inl rfl, ⟨.inl rfl, ⟨.inl rfl, trivial⟩⟩⟩⟩ ⟨rfl, ⟨rfl, ⟨rfl, ⟨fm_, trivial⟩⟩⟩⟩ ?_
  conv => whnf
  refine spec_l2Draw.l8_lp (k := k) H [] (fits_of ⟨.inl ⟨rfl, rfl⟩, trivial⟩ trivial fi_ ⟨⟨_, rfl⟩, ⟨_, rfl, ⟨.inl ⟨rfl, rfl⟩, ⟨.inl ⟨rfl, rfl⟩, trivial⟩⟩⟩, ⟨⟨_, rfl⟩, ⟨_, rfl, ⟨.inl ⟨rfl, rfl⟩, ⟨.inl ⟨rfl, rfl⟩, ⟨.inl ⟨rfl, rfl⟩, ⟨.inl ⟨rfl, rfl⟩, trivial⟩⟩⟩⟩⟩, trivial⟩⟩ rfl) ?_
  intro k x8_1 x1000000_6 x1000001_6 x1017000_8 x1017001_8 x1017002_8 x1017003_8 hk H; rcases k with _ | k; exact none_elim H; rw [spec_l2Draw.l8] at H; conv => whnf
  refine br_d H (fun c H => ?_) (fun c H => ?_)
  conv => whnf
  revert H; refine bind_elim (fun t8418 A H => ?_)
  refine call_mk2 [0] (spec_l1Rd_pick.ac A) ⟨rfl, trivial⟩ rfl rfl rfl rfl rfl rfl rfl rfl ?_
  conv => whnf
  refine br_d H (fun c H => ?_) (fun c H => ?_)
  conv => whnf
  exact ⟨(k, wrap64 (x8_1 + 1), t8418.2.1, t8418.2.2, _, _, _, _), [], ⟨H, lt_⟩, lt_, (fits_of ⟨.inl ⟨rfl, rfl⟩, trivial⟩ trivial fi_ ⟨⟨_, rfl⟩, ⟨_, rfl, ⟨.inl ⟨rfl, rfl⟩, ⟨.inl ⟨rfl, rfl⟩, trivial⟩⟩⟩, ⟨⟨_, rfl⟩, ⟨_, rfl, ⟨.inl ⟨rfl, rfl⟩, ⟨.inl ⟨rfl, rfl⟩, ⟨.inl ⟨rfl, rfl⟩, ⟨.inl ⟨rfl, rfl⟩, trivial⟩⟩⟩⟩⟩, trivial⟩⟩ rfl)⟩
  conv => whnf
  refine Or.inr ?_
  conv => whnf
  revert H; refine bind_elim (fun t8419 A H => ?_)
  refine call_mk2 [0] (spec_l1Rd_of.ac A) ⟨rfl, trivial⟩ rfl rfl rfl rfl rfl (le_eq ⟨rfl, ⟨sl_e rfl lm_ lm_, trivial⟩⟩) rfl rfl ?_
  conv => whnf
  refine cut_ 294 [(0, .bp 0 0), (2, .bp 1 0), (3, .bp 17 0), (7, .own 182 9), (8, .int .i64 x8_1), (9, .str t8419.1)] [(0, .box [(sv_u8 t8419.2.1), .int .i64 t8419.2.2]), (1, .box [.nil, .nil, .nil, .nil]), (17, .box [(sv_str x1017000_8), (sv_S_impl_PlantFoe x1017001_8), (sv_S_impl_PlantPlace x1017002_8), (sv_S_impl_PlantValve x1017003_8)]), (182, .arr 9 1 (([(⟨#[97]⟩ : ByteArray), (⟨#[98]⟩ : ByteArray), (⟨#[106, 49]⟩ : ByteArray), (⟨#[106, 50]⟩ : ByteArray), (⟨#[106, 51]⟩ : ByteArray), (⟨#[107, 45, 107]⟩ : ByteArray), (⟨#[118, 49]⟩ : ByteArray), (⟨#[118, 50]⟩ : ByteArray), (⟨#[122]⟩ : ByteArray)] : List ByteArray).map en_str))] rfl ⟨.inl rfl, ⟨.inl rfl, ⟨.inl rfl, ⟨.inl rfl, ⟨.inl rfl, ⟨.inl rfl, trivial⟩⟩⟩⟩⟩⟩ ⟨rfl, ⟨rfl, ⟨rfl, ⟨rfl, trivial⟩⟩⟩⟩ ?_
  conv => whnf
  refine spec_l2Draw.j1_sq (x8_1 := x8_1) (x1017000_8 := x1017000_8) (x1017001_8 := x1017001_8) (x1017002_8 := x1017002_8) (x1017003_8 := x1017003_8) (t8419 := t8419) (KK := k + 1) (r := r) ?_ ?_
  conv => whnf
  refine br_d H (fun c H => ?_) (fun c H => ?_)
  conv => whnf
  refine Br.t ft_ ?_
  conv => whnf
  refine Br.t ft_ ?_
  conv => whnf
  exact ⟨(k, decide (x8_1 < 6)), [], ⟨H, lt_⟩, (fits_of ⟨.inl ⟨rfl, rfl⟩, trivial⟩ trivial fi_ trivial rfl)⟩
  conv => whnf
  refine Br.f ff_ ?_
  conv => whnf
  refine Br.f ff_ ?_
  conv => whnf
  exact ⟨(k, false), [], ⟨H, lt_⟩, (fits_of ⟨.inl ⟨rfl, rfl⟩, trivial⟩ trivial fi_ trivial rfl)⟩
  intro k x74_1 hk H; rcases k with _ | k; exact none_elim H; rw [spec_l2Draw.j1] at H; conv => whnf
  refine br_t H (fun c H => ?_) (fun c H => ?_)
  conv => whnf
  refine nd_ H (fun c H => ?_)
  conv => whnf
  refine nd_ H (fun c H => ?_)
  conv => whnf
  refine El.mk (rdm_en_str _ _ nf_ nf_) ?_
  conv => whnf
  refine Or.inr ?_
  conv => whnf
  revert H; refine bind_elim (fun t8420 A H => ?_)
  refine call_mk (spec_l2Try.ac A) (avAL_cons (avA_agg (avL_cons (av_shut' rfl) (avL_cons (av_shut' rfl) (avL_cons (av_shut' rfl) (avL_cons (av_shut' rfl) (avL_nil)))))) (avAL_cons (avA_slD lm_ lm_) (avAL_nil))) (Or.inl rfl) rfl rfl (Nat.le_of_ble_eq_true rfl) ?_
  conv => whnf
  exact ⟨(k, wrap64 (x8_1 + 1), t8419.2.1, t8419.2.2, t8420.1, t8420.2.1, t8420.2.2.1, t8420.2.2.2), [], ⟨H, lt_⟩, lt_, (fits_of ⟨.inl ⟨rfl, rfl⟩, trivial⟩ trivial fi_ ⟨⟨_, rfl⟩, ⟨_, rfl, ⟨.inl ⟨rfl, rfl⟩, ⟨.inl ⟨rfl, rfl⟩, trivial⟩⟩⟩, ⟨⟨_, rfl⟩, ⟨_, rfl, ⟨.inl ⟨rfl, rfl⟩, ⟨.inl ⟨rfl, rfl⟩, ⟨.inl ⟨rfl, rfl⟩, ⟨.inl ⟨rfl, rfl⟩, trivial⟩⟩⟩⟩⟩, trivial⟩⟩ rfl)⟩
  conv => whnf
  refine nd_ H (fun c H => ?_)
  conv => whnf
  refine nd_ H (fun c H => ?_)
  conv => whnf
  refine El.mk (rdm_en_str _ _ nf_ nf_) ?_
  conv => whnf
  revert H; refine bind_elim (fun t8421 A H => ?_)
  refine call_mk2 [0] (spec_l1Rd_pick.ac A) ⟨rfl, trivial⟩ rfl rfl rfl rfl rfl rfl rfl rfl ?_
  conv => whnf
  revert H; refine bind_elim (fun t8422 A H => ?_)
  refine call_mk (spec_l3Dec.ac A) (avAL_cons (avA_shut' rfl) (avAL_nil)) (Or.inl rfl) rfl rfl (Nat.le_of_ble_eq_true rfl) ?_
  conv => whnf
  refine Or.inr ?_
  conv => whnf
  revert H; refine bind_elim (fun t8423 A H => ?_)
  refine call_mk (spec_l2Try.ac A) (avAL_cons (avA_agg (avL_cons (av_shut' rfl) (avL_cons (av_shut' rfl) (avL_cons (av_shut' rfl) (avL_cons (av_shut' rfl) (avL_nil)))))) (avAL_cons (avA_slD lm_ lm_) (avAL_nil))) (Or.inl rfl) rfl rfl (Nat.le_of_ble_eq_true rfl) ?_
  conv => whnf
  exact ⟨(k, wrap64 (x8_1 + 1), t8421.2.1, t8421.2.2, t8423.1, t8423.2.1, t8423.2.2.1, t8423.2.2.2), [], ⟨H, lt_⟩, lt_, (fits_of ⟨.inl ⟨rfl, rfl⟩, trivial⟩ trivial fi_ ⟨⟨_, rfl⟩, ⟨_, rfl, ⟨.inl ⟨rfl, rfl⟩, ⟨.inl ⟨rfl, rfl⟩, trivial⟩⟩⟩, ⟨⟨_, rfl⟩, ⟨_, rfl, ⟨.inl ⟨rfl, rfl⟩, ⟨.inl ⟨rfl, rfl⟩, ⟨.inl ⟨rfl, rfl⟩, ⟨.inl ⟨rfl, rfl⟩, trivial⟩⟩⟩⟩⟩, trivial⟩⟩ rfl)⟩
  conv => whnf
  revert H; refine bind_elim (fun t8424 A H => ?_)
  refine call_mk2 [0] (spec_l1Rd_pick.ac A) ⟨rfl, trivial⟩ rfl rfl rfl rfl rfl rfl rfl rfl ?_
  conv => whnf
  refine spec_l2Draw.l9_lp (k := k) H [] (fits_of ⟨.inl ⟨rfl, rfl⟩, trivial⟩ trivial fi_ ⟨⟨_, rfl⟩, ⟨_, rfl, ⟨.inl ⟨rfl, rfl⟩, ⟨.inl ⟨rfl, rfl⟩, trivial⟩⟩⟩, ⟨⟨_, rfl⟩, ⟨_, rfl, ⟨.inl ⟨rfl, rfl⟩, ⟨.inl ⟨rfl, rfl⟩, ⟨.inl ⟨rfl, rfl⟩, ⟨.inl ⟨rfl, rfl⟩, trivial⟩⟩⟩⟩⟩, trivial⟩⟩ rfl) ?_
  intro k x10_1 x1000000_7 x1000001_7 x1017000_9 x1017001_9 x1017002_9 x1017003_9 hk H; rcases k with _ | k; exact none_elim H; rw [spec_l2Draw.l9] at H; conv => whnf
  refine br_d H (fun c H => ?_) (fun c H => ?_)
  conv => whnf
  refine Br.t ft_ ?_
  conv => whnf
  refine Br.t ft_ ?_
  conv => whnf
  refine Br.t ft_ ?_
  conv => whnf
  refine Br.t ft_ ?_
  conv => whnf
  refine cut_ 326 [(0, .bp 0 0), (2, .bp 1 0), (3, .bp 17 0), (10, .int .i64 x10_1), (104, .bool (decide ((x1017002_9.length : Int) > 1)))] [(0, .box [(sv_u8 x1000000_7), .int .i64 x1000001_7]), (1, .box [.nil, .nil, .nil, .nil]), (17, .box [(sv_str x1017000_9), (sv_S_impl_PlantFoe x1017001_9), (sv_S_impl_PlantPlace x1017002_9), (sv_S_impl_PlantValve x1017003_9)])] rfl ⟨.inl rfl, ⟨.inl rfl, ⟨.inl rfl, ⟨.inl rfl, ⟨.inl rfl, trivial⟩⟩⟩⟩⟩ ⟨rfl, ⟨rfl, ⟨rfl, trivial⟩⟩⟩ ?_
  conv => whnf
  refine br_d H (fun c H => ?_) (fun c H => ?_)
  conv => whnf
  revert H; refine bind_elim (fun t8443 A H => ?_)
  refine call_mk2 [0] (spec_l1Rd_pick.ac A) ⟨rfl, trivial⟩ rfl rfl rfl rfl rfl rfl rfl rfl ?_
  conv => whnf
  revert H; refine bind_elim (fun t8444 A H => ?_)
  refine call_mk (spec_l3Dec.ac A) (avAL_cons (avA_shut' rfl) (avAL_nil)) (Or.inl rfl) rfl rfl (Nat.le_of_ble_eq_true rfl) ?_
  conv => whnf
  refine nd_ H (fun c H => ?_)
  conv => whnf
  revert H; refine bind_elim (fun t8445 A H => ?_)
  refine call_mk2 [0] (spec_l1Rd_pick.ac A) ⟨rfl, trivial⟩ rfl rfl rfl rfl rfl rfl rfl rfl ?_
  conv => whnf
  refine nd_ H (fun c H => ?_)
  conv => whnf
  refine nd_ H (fun c H => ?_)
  conv => whnf
  refine El.mk (rdm_en_S_impl_PlantPlace _ _ nf_ nf_) ?_
  conv => whnf
  revert H; refine bind_elim (fun t8446 A H => ?_)
  refine call_mk2 [0] (spec_l1Rd_pick.ac A) ⟨rfl, trivial⟩ rfl rfl rfl rfl rfl rfl rfl rfl ?_
  conv => whnf
  refine nd_ H (fun c H => ?_)
  conv => whnf
  refine nd_ H (fun c H => ?_)
  conv => whnf
  refine El.mk (rdm_en_S_impl_PlantPlace _ _ nf_ nf_) ?_
  conv => whnf
  refine Or.inr ?_
  conv => whnf
  revert H; refine bind_elim (fun t8447 A H => ?_)
  refine call_mk2 [0] (spec_l1Rd_of.ac A) ⟨rfl, trivial⟩ rfl rfl rfl rfl rfl (le_eq ⟨rfl, ⟨sl_e rfl lm_ lm_, trivial⟩⟩) rfl rfl ?_
  conv => whnf
  refine Or.inr ?_
  conv => whnf
  revert H; refine bind_elim (fun t8448 A H => ?_)
  refine call_mk (spec_l2Try.ac A) (avAL_cons (avA_agg (avL_cons (av_shut' rfl) (avL_cons (av_shut' rfl) (avL_cons (av_shut' rfl) (avL_cons (av_shut' rfl) (avL_nil)))))) (avAL_cons (avA_slD lm_ lm_) (avAL_nil))) (Or.inl rfl) rfl rfl (Nat.le_of_ble_eq_true rfl) ?_
  conv => whnf
  refine cut_ 574 [(0, .bp 0 0), (2, .bp 1 0), (3, .bp 17 0), (10, .int .i64 x10_1)] [(0, .box [(sv_u8 t8447.2.1), .int .i64 t8447.2.2]), (1, .box [.nil, .nil, .nil, .nil]), (17, .box [(sv_str t8448.1), (sv_S_impl_PlantFoe t8448.2.1), (sv_S_impl_PlantPlace t8448.2.2.1), (sv_S_impl_PlantValve t8448.2.2.2)])] rfl ⟨.inl rfl, ⟨.inl rfl, ⟨.inl rfl, ⟨.inl rfl, trivial⟩⟩⟩⟩ ⟨rfl, ⟨rfl, ⟨rfl, trivial⟩⟩⟩ ?_
  conv => whnf
  exact ⟨(k, wrap64 (x10_1 - 1), t8447.2.1, t8447.2.2, t8448.1, t8448.2.1, t8448.2.2.1, t8448.2.2.2), [], ⟨H, lt_⟩, lt_, (fits_of ⟨.inl ⟨rfl, rfl⟩, trivial⟩ trivial fi_ ⟨⟨_, rfl⟩, ⟨_, rfl, ⟨.inl ⟨rfl, rfl⟩, ⟨.inl ⟨rfl, rfl⟩, trivial⟩⟩⟩, ⟨⟨_, rfl⟩, ⟨_, rfl, ⟨.inl ⟨rfl, rfl⟩, ⟨.inl ⟨rfl, rfl⟩, ⟨.inl ⟨rfl, rfl⟩, ⟨.inl ⟨rfl, rfl⟩, trivial⟩⟩⟩⟩⟩, trivial⟩⟩ rfl)⟩
  conv => whnf
  revert H; refine bind_elim (fun t8449 A H => ?_)
  refine call_mk2 [0] (spec_l1Rd_pick.ac A) ⟨rfl, trivial⟩ rfl rfl rfl rfl rfl rfl rfl rfl ?_
  conv => whnf
  refine br_d H (fun c H => ?_) (fun c H => ?_)
  conv => whnf
  refine spec_l2Draw.l10_lp (t8449 := t8449) (k := k) H [] (fits_of ⟨.inl ⟨rfl, rfl⟩, trivial⟩ trivial fi_ ⟨⟨_, rfl⟩, ⟨_, rfl, ⟨.inl ⟨rfl, rfl⟩, ⟨.inl ⟨rfl, rfl⟩, ⟨.inl ⟨rfl, rfl⟩, ⟨.inl ⟨rfl, rfl⟩, trivial⟩⟩⟩⟩⟩, trivial⟩ rfl) ?_
  intro k x11_2 x1017000_10 x1017001_10 x1017002_10 x1017003_10 hk H; rcases k with _ | k; exact none_elim H; rw [spec_l2Draw.l10] at H; conv => whnf
  refine br_d H (fun c H => ?_) (fun c H => ?_)
  conv => whnf
  revert H; refine bind_elim (fun t8452 A H => ?_)
  refine call_mk (spec_l3Dec.ac A) (avAL_cons (avA_shut' rfl) (avAL_nil)) (Or.inl rfl) rfl rfl (Nat.le_of_ble_eq_true rfl) ?_
  conv => whnf
  refine nd_ H (fun c H => ?_)
  conv => whnf
  refine Or.inr ?_
  conv => whnf
  revert H; refine bind_elim (fun t8453 A H => ?_)
  refine call_mk (spec_l2Try.ac A) (avAL_cons (avA_agg (avL_cons (av_shut' rfl) (avL_cons (av_shut' rfl) (avL_cons (av_shut' rfl) (avL_cons (av_shut' rfl) (avL_nil)))))) (avAL_cons (avA_slD lm_ lm_) (avAL_nil))) (Or.inl rfl) rfl rfl (Nat.le_of_ble_eq_true rfl) ?_
  conv => whnf
  refine cut_ 430 [(0, .bp 0 0), (2, .bp 1 0), (3, .bp 17 0), (11, .int .i64 x11_2)] [(0, .box [(sv_u8 t8449.2.1), .int .i64 t8449.2.2]), (1, .box [.nil, .nil, .nil, .nil]), (17, .box [(sv_str t8453.1), (sv_S_impl_PlantFoe t8453.2.1), (sv_S_impl_PlantPlace t8453.2.2.1), (sv_S_impl_PlantValve t8453.2.2.2)])] rfl ⟨.inl rfl, ⟨.inl rfl, ⟨.inl rfl, ⟨.inl rfl, trivial⟩⟩⟩⟩ ⟨rfl, ⟨rfl, ⟨rfl, trivial⟩⟩⟩ ?_
  conv => whnf
  exact ⟨(k, wrap64 (x11_2 + 1), t8453.1, t8453.2.1, t8453.2.2.1, t8453.2.2.2), [], ⟨H, lt_⟩, lt_, (fits_of ⟨.inl ⟨rfl, rfl⟩, trivial⟩ trivial fi_ ⟨⟨_, rfl⟩, ⟨_, rfl, ⟨.inl ⟨rfl, rfl⟩, ⟨.inl ⟨rfl, rfl⟩, ⟨.inl ⟨rfl, rfl⟩, ⟨.inl ⟨rfl, rfl⟩, trivial⟩⟩⟩⟩⟩, trivial⟩ rfl)⟩
  conv => whnf
  refine spec_l2Draw.l11_lp (k := k) H [] (fits_of ⟨.inl ⟨rfl, rfl⟩, trivial⟩ trivial fi_ ⟨⟨_, rfl⟩, ⟨_, rfl, ⟨.inl ⟨rfl, rfl⟩, ⟨.inl ⟨rfl, rfl⟩, trivial⟩⟩⟩, ⟨⟨_, rfl⟩, ⟨_, rfl, ⟨.inl ⟨rfl, rfl⟩, ⟨.inl ⟨rfl, rfl⟩, ⟨.inl ⟨rfl, rfl⟩, ⟨.inl ⟨rfl, rfl⟩, trivial⟩⟩⟩⟩⟩, trivial⟩⟩ rfl) ?_
  intro k x12_2 x1000000_8 x1000001_8 x1017000_11 x1017001_11 x1017002_11 x1017003_11 hk H; rcases k with _ | k; exact none_elim H; rw [spec_l2Draw.l11] at H; conv => whnf
  refine br_d H (fun c H => ?_) (fun c H => ?_)
  conv => whnf
  revert H; refine bind_elim (fun t8462 A H => ?_)
  refine call_mk (spec_l3Dec.ac A) (avAL_cons (avA_shut' rfl) (avAL_nil)) (Or.inl rfl) rfl rfl (Nat.le_of_ble_eq_true rfl) ?_
  conv => whnf
  refine nd_ H (fun c H => ?_)
  conv => whnf
  refine Or.inr ?_
  conv => whnf
  revert H; refine bind_elim (fun t8463 A H => ?_)
  refine call_mk2 [0] (spec_l1Rd_of.ac A) ⟨rfl, trivial⟩ rfl rfl rfl rfl rfl (le_eq ⟨rfl, ⟨sl_e rfl lm_ lm_, trivial⟩⟩) rfl rfl ?_
  conv => whnf
  refine Or.inr ?_
  conv => whnf
  revert H; refine bind_elim (fun t8464 A H => ?_)
  refine call_mk2 [0] (spec_l1Rd_of.ac A) ⟨rfl, trivial⟩ rfl rfl rfl rfl rfl (le_eq ⟨rfl, ⟨sl_e rfl lm_ lm_, trivial⟩⟩) rfl rfl ?_
  conv => whnf
  refine Or.inr ?_
  conv => whnf
  revert H; refine bind_elim (fun t8465 A H => ?_)
  refine call_mk (spec_l2Try.ac A) (avAL_cons (avA_agg (avL_cons (av_shut' rfl) (avL_cons (av_shut' rfl) (avL_cons (av_shut' rfl) (avL_cons (av_shut' rfl) (avL_nil)))))) (avAL_cons (avA_slD lm_ lm_) (avAL_nil))) (Or.inl rfl) rfl rfl (Nat.le_of_ble_eq_true rfl) ?_
  conv => whnf
  refine cut_ 502 [(0, .bp 0 0), (2, .bp 1 0), (3, .bp 17 0), (12, .int .i64 x12_2)] [(0, .box [(sv_u8 t8464.2.1), .int .i64 t8464.2.2]), (1, .box [.nil, .nil, .nil, .nil]), (17, .box [(sv_str t8465.1), (sv_S_impl_PlantFoe t8465.2.1), (sv_S_impl_PlantPlace t8465.2.2.1), (sv_S_impl_PlantValve t8465.2.2.2)])] rfl ⟨.inl rfl, ⟨.inl rfl, ⟨.inl rfl, ⟨.inl rfl, trivial⟩⟩⟩⟩ ⟨rfl, ⟨rfl, ⟨rfl, trivial⟩⟩⟩ ?_
  conv => whnf
  exact ⟨(k, wrap64 (x12_2 + 1), t8464.2.1, t8464.2.2, t8465.1, t8465.2.1, t8465.2.2.1, t8465.2.2.2), [], ⟨H, lt_⟩, lt_, (fits_of ⟨.inl ⟨rfl, rfl⟩, trivial⟩ trivial fi_ ⟨⟨_, rfl⟩, ⟨_, rfl, ⟨.inl ⟨rfl, rfl⟩, ⟨.inl ⟨rfl, rfl⟩, trivial⟩⟩⟩, ⟨⟨_, rfl⟩, ⟨_, rfl, ⟨.inl ⟨rfl, rfl⟩, ⟨.inl ⟨rfl, rfl⟩, ⟨.inl ⟨rfl, rfl⟩, ⟨.inl ⟨rfl, rfl⟩, trivial⟩⟩⟩⟩⟩, trivial⟩⟩ rfl)⟩
  conv => whnf
  revert H; refine bind_elim (fun t8466 A H => ?_)
  refine call_mk (spec_l2Copy.ac A) (avAL_cons (avA_agg (avL_cons (av_shut' rfl) (avL_cons (av_shut' rfl) (avL_cons (av_shut' rfl) (avL_cons (av_shut' rfl) (avL_nil)))))) (avAL_nil)) (Or.inl rfl) rfl rfl (Nat.le_of_ble_eq_true rfl) ?_
  conv => whnf
  refine cut_ 422 [(2, .bp 1 0)] [(0, .box [(sv_u8 x1000000_8), .int .i64 x1000001_8]), (1, .box [(sv_str t8466.1), (sv_S_impl_PlantFoe t8466.2.1), (sv_S_impl_PlantPlace t8466.2.2.1), (sv_S_impl_PlantValve t8466.2.2.2)])] rfl ⟨.inl rfl, trivial⟩ ⟨rfl, ⟨rfl, trivial⟩⟩ ?_
  conv => whnf
  injection H with H; subst H
  exact ret_gen [some 0] [] ((rtA_agg (rtL_cons (rt_eq rfl) (rtL_cons (rt_eq rfl) (rtL_cons (rt_eq rfl) (rtL_cons (rt_eq rfl) (rtL_nil))))))) ⟨rfl, trivial⟩ rfl
  conv => whnf
  revert H; refine bind_elim (fun t8467 A H => ?_)
  refine call_mk (spec_l2Copy.ac A) (avAL_cons (avA_agg (avL_cons (av_shut' rfl) (avL_cons (av_shut' rfl) (avL_cons (av_shut' rfl) (avL_cons (av_shut' rfl) (avL_nil)))))) (avAL_nil)) (Or.inl rfl) rfl rfl (Nat.le_of_ble_eq_true rfl) ?_
  conv => whnf
  refine cut_ 374 [(2, .bp 1 0)] [(0, .box [(sv_u8 t8449.2.1), .int .i64 t8449.2.2]), (1, .box [(sv_str t8467.1), (sv_S_impl_PlantFoe t8467.2.1), (sv_S_impl_PlantPlace t8467.2.2.1), (sv_S_impl_PlantValve t8467.2.2.2)])] rfl ⟨.inl rfl, trivial⟩ ⟨rfl, ⟨rfl, trivial⟩⟩ ?_
  conv => whnf
  injection H with H; subst H
  exact ret_gen [some 0] [] ((rtA_agg (rtL_cons (rt_eq rfl) (rtL_cons (rt_eq rfl) (rtL_cons (rt_eq rfl) (rtL_cons (rt_eq rfl) (rtL_nil))))))) ⟨rfl, trivial⟩ rfl
  conv => whnf
  refine Br.f ff_ ?_
  conv => whnf
  refine Br.f ff_ ?_
  conv => whnf
  refine Br.f ff_ ?_
  conv => whnf
  refine Br.f ff_ ?_
  conv => whnf
  refine cut_ 326 [(0, .bp 0 0), (2, .bp 1 0), (3, .bp 17 0), (10, .int .i64 x10_1), (104, .bool false)] [(0, .box [(sv_u8 x1000000_7), .int .i64 x1000001_7]), (1, .box [.nil, .nil, .nil, .nil]), (17, .box [(sv_str x1017000_9), (sv_S_impl_PlantFoe x1017001_9), (sv_S_impl_PlantPlace x1017002_9), (sv_S_impl_PlantValve x1017003_9)])] rfl ⟨.inl rfl, ⟨.inl rfl, ⟨.inl rfl, ⟨.inl rfl, ⟨.inl rfl, trivial⟩⟩⟩⟩⟩ ⟨rfl, ⟨rfl, ⟨rfl, trivial⟩⟩⟩ ?_
  conv => whnf
  refine Br.f rfl ?_
  conv => whnf
  revert H; refine bind_elim (fun t8468 A H => ?_)
  refine call_mk2 [0] (spec_l1Rd_pick.ac A) ⟨rfl, trivial⟩ rfl rfl rfl rfl rfl rfl rfl rfl ?_
  conv => whnf
  refine br_d H (fun c H => ?_) (fun c H => ?_)
  conv => whnf
  refine spec_l2Draw.l12_lp (t8468 := t8468) (k := k) H [] (fits_of ⟨.inl ⟨rfl, rfl⟩, trivial⟩ trivial fi_ ⟨⟨_, rfl⟩, ⟨_, rfl, ⟨.inl ⟨rfl, rfl⟩, ⟨.inl ⟨rfl, rfl⟩, ⟨.inl ⟨rfl, rfl⟩, ⟨.inl ⟨rfl, rfl⟩, trivial⟩⟩⟩⟩⟩, trivial⟩ rfl) ?_
  intro k x11_3 x1017000_12 x1017001_12 x1017002_12 x1017003_12 hk H; rcases k with _ | k; exact none_elim H; rw [spec_l2Draw.l12] at H; conv => whnf
  refine br_d H (fun c H => ?_) (fun c H => ?_)
  conv => whnf
  revert H; refine bind_elim (fun t8471 A H => ?_)
  refine call_mk (spec_l3Dec.ac A) (avAL_cons (avA_shut' rfl) (avAL_nil)) (Or.inl rfl) rfl rfl (Nat.le_of_ble_eq_true rfl) ?_
  conv => whnf
  refine nd_ H (fun c H => ?_)
  conv => whnf
  refine Or.inr ?_
  conv => whnf
  revert H; refine bind_elim (fun t8472 A H => ?_)
  refine call_mk (spec_l2Try.ac A) (avAL_cons (avA_agg (avL_cons (av_shut' rfl) (avL_cons (av_shut' rfl) (avL_cons (av_shut' rfl) (avL_cons (av_shut' rfl) (avL_nil)))))) (avAL_cons (avA_slD lm_ lm_) (avAL_nil))) (Or.inl rfl) rfl rfl (Nat.le_of_ble_eq_true rfl) ?_
  conv => whnf
  refine cut_ 430 [(0, .bp 0 0), (2, .bp 1 0), (3, .bp 17 0), (11, .int .i64 x11_3)] [(0, .box [(sv_u8 t8468.2.1), .int .i64 t8468.2.2]), (1, .box [.nil, .nil, .nil, .nil]), (17, .box [(sv_str t8472.1), (sv_S_impl_PlantFoe t8472.2.1), (sv_S_impl_PlantPlace t8472.2.2.1), (sv_S_impl_PlantValve t8472.2.2.2)])] rfl ⟨.inl rfl, ⟨.inl rfl, ⟨.inl rfl, ⟨.inl rfl, trivial⟩⟩⟩⟩ ⟨rfl, ⟨rfl, ⟨rfl, trivial⟩⟩⟩ ?_
  conv => whnf
  exact ⟨(k, wrap64 (x11_3 + 1), t8472.1, t8472.2.1, t8472.2.2.1, t8472.2.2.2), [], ⟨H, lt_⟩, lt_, (fits_of ⟨.inl ⟨rfl, rfl⟩, trivial⟩ trivial fi_ ⟨⟨_, rfl⟩, ⟨_, rfl, ⟨.inl ⟨rfl, rfl⟩, ⟨.inl ⟨rfl, rfl⟩, ⟨.inl ⟨rfl, rfl⟩, ⟨.inl ⟨rfl, rfl⟩, trivial⟩⟩⟩⟩⟩, trivial⟩ rfl)⟩
  conv => whnf
  refine spec_l2Draw.l13_lp (k := k) H [] (fits_of ⟨.inl ⟨rfl, rfl⟩, trivial⟩ trivial fi_ ⟨⟨_, rfl⟩, ⟨_, rfl, ⟨.inl ⟨rfl, rfl⟩, ⟨.inl ⟨rfl, rfl⟩, trivial⟩⟩⟩, ⟨⟨_, rfl⟩, ⟨_, rfl, ⟨.inl ⟨rfl, rfl⟩, ⟨.inl ⟨rfl, rfl⟩, ⟨.inl ⟨rfl, rfl⟩, ⟨.inl ⟨rfl, rfl⟩, trivial⟩⟩⟩⟩⟩, trivial⟩⟩ rfl) ?_
  intro k x12_3 x1000000_9 x1000001_9 x1017000_13 x1017001_13 x1017002_13 x1017003_13 hk H; rcases k with _ | k; exact none_elim H; rw [spec_l2Draw.l13] at H; conv => whnf
  refine br_d H (fun c H => ?_) (fun c H => ?_)
  conv => whnf
  revert H; refine bind_elim (fun t8481 A H => ?_)
  refine call_mk (spec_l3Dec.ac A) (avAL_cons (avA_shut' rfl) (avAL_nil)) (Or.inl rfl) rfl rfl (Nat.le_of_ble_eq_true rfl) ?_
  conv => whnf
  refine nd_ H (fun c H => ?_)
  conv => whnf
  refine Or.inr ?_
  conv => whnf
  revert H; refine bind_elim (fun t8482 A H => ?_)
  refine call_mk2 [0] (spec_l1Rd_of.ac A) ⟨rfl, trivial⟩ rfl rfl rfl rfl rfl (le_eq ⟨rfl, ⟨sl_e rfl lm_ lm_, trivial⟩⟩) rfl rfl ?_
  conv => whnf
  refine Or.inr ?_
  conv => whnf
  revert H; refine bind_elim (fun t8483 A H => ?_)
  refine call_mk2 [0] (spec_l1Rd_of.ac A) ⟨rfl, trivial⟩ rfl rfl rfl rfl rfl (le_eq ⟨rfl, ⟨sl_e rfl lm_ lm_, trivial⟩⟩) rfl rfl ?_
  conv => whnf
  refine Or.inr ?_
  conv => whnf
  revert H; refine bind_elim (fun t8484 A H => ?_)
  refine call_mk (spec_l2Try.ac A) (avAL_cons (avA_agg (avL_cons (av_shut' rfl) (avL_cons (av_shut' rfl) (avL_cons (av_shut' rfl) (avL_cons (av_shut' rfl) (avL_nil)))))) (avAL_cons (avA_slD lm_ lm_) (avAL_nil))) (Or.inl rfl) rfl rfl (Nat.le_of_ble_eq_true rfl) ?_
  conv => whnf
  refine cut_ 502 [(0, .bp 0 0), (2, .bp 1 0), (3, .bp 17 0), (12, .int .i64 x12_3)] [(0, .box [(sv_u8 t8483.2.1), .int .i64 t8483.2.2]), (1, .box [.nil, .nil, .nil, .nil]), (17, .box [(sv_str t8484.1), (sv_S_impl_PlantFoe t8484.2.1), (sv_S_impl_PlantPlace t8484.2.2.1), (sv_S_impl_PlantValve t8484.2.2.2)])] rfl ⟨.inl rfl, ⟨.inl rfl, ⟨.inl rfl, ⟨.inl rfl, trivial⟩⟩⟩⟩ ⟨rfl, ⟨rfl, ⟨rfl, trivial⟩⟩⟩ ?_
  conv => whnf
  exact ⟨(k, wrap64 (x12_3 + 1), t8483.2.1, t8483.2.2, t8484.1, t8484.2.1, t8484.2.2.1, t8484.2.2.2), [], ⟨H, lt_⟩, lt_, (fits_of ⟨.inl ⟨rfl, rfl⟩, trivial⟩ trivial fi_ ⟨⟨_, rfl⟩, ⟨_, rfl, ⟨.inl ⟨rfl, rfl⟩, ⟨.inl ⟨rfl, rfl⟩, trivial⟩⟩⟩, ⟨⟨_, rfl⟩, ⟨_, rfl, ⟨.inl ⟨rfl, rfl⟩, ⟨.inl ⟨rfl, rfl⟩, ⟨.inl ⟨rfl, rfl⟩, ⟨.inl ⟨rfl, rfl⟩, trivial⟩⟩⟩⟩⟩, trivial⟩⟩ rfl)⟩
  conv => whnf
  revert H; refine bind_elim (fun t8485 A H => ?_)
  refine call_mk (spec_l2Copy.ac A) (avAL_cons (avA_agg (avL_cons (av_shut' rfl) (avL_cons (av_shut' rfl) (avL_cons (av_shut' rfl) (avL_cons (av_shut' rfl) (avL_nil)))))) (avAL_nil)) (Or.inl rfl) rfl rfl (Nat.le_of_ble_eq_true rfl) ?_
  conv => whnf
  refine cut_ 422 [(2, .bp 1 0)] [(0, .box [(sv_u8 x1000000_9), .int .i64 x1000001_9]), (1, .box [(sv_str t8485.1), (sv_S_impl_PlantFoe t8485.2.1), (sv_S_impl_PlantPlace t8485.2.2.1), (sv_S_impl_PlantValve t8485.2.2.2)])] rfl ⟨.inl rfl, trivial⟩ ⟨rfl, ⟨rfl, trivial⟩⟩ ?_
  conv => whnf
  injection H with H; subst H
  exact ret_gen [some 0] [] ((rtA_agg (rtL_cons (rt_eq rfl) (rtL_cons (rt_eq rfl) (rtL_cons (rt_eq rfl) (rtL_cons (rt_eq rfl) (rtL_nil))))))) ⟨rfl, trivial⟩ rfl
  conv => whnf
  revert H; refine bind_elim (fun t8486 A H => ?_)
  refine call_mk (spec_l2Copy.ac A) (avAL_cons (avA_agg (avL_cons (av_shut' rfl) (avL_cons (av_shut' rfl) (avL_cons (av_shut' rfl) (avL_cons (av_shut' rfl) (avL_nil)))))) (avAL_nil)) (Or.inl rfl) rfl rfl (Nat.le_of_ble_eq_true rfl) ?_
  conv => whnf
  refine cut_ 374 [(2, .bp 1 0)] [(0, .box [(sv_u8 t8468.2.1), .int .i64 t8468.2.2]), (1, .box [(sv_str t8486.1), (sv_S_impl_PlantFoe t8486.2.1), (sv_S_impl_PlantPlace t8486.2.2.1), (sv_S_impl_PlantValve t8486.2.2.2)])] rfl ⟨.inl rfl, trivial⟩ ⟨rfl, ⟨rfl, trivial⟩⟩ ?_
  conv => whnf
  injection H with H; subst H
  exact ret_gen [some 0] [] ((rtA_agg (rtL_cons (rt_eq rfl) (rtL_cons (rt_eq rfl) (rtL_cons (rt_eq rfl) (rtL_cons (rt_eq rfl) (rtL_nil))))))) ⟨rfl, trivial⟩ rfl
theorem spec_l2Spoil.j0_sq {F : (Exit → St → Prop) → St → Prop} {hv : List Tmp} {K : St → Prop} {Q : Exit → St → Prop} {σ : St} {r : (List ByteArray) × (List S_impl_PlantFoe) × (List S_impl_PlantPlace) × (List S_impl_PlantValve) × (List Int) × Int} {KK : Nat}
    (h1 : F (fun e σ' => match e with | .normal => ∃ (y : Nat × (List ByteArray) × (List S_impl_PlantFoe) × (List S_impl_PlantPlace) × (List S_impl_PlantValve) × (List Int) × Int) (rn : List (Option Nat)), (spec_l2Spoil.j0 y.1 y.2.2.2.2.2.1 y.2.2.2.2.2.2 y.2.1 y.2.2.1 y.2.2.2.1 y.2.2.2.2.1 = some r ∧ y.1 < KK) ∧ Fits σ σ' [33, 25, 26, 27, 28, 1, 0] [] [(33, .box [.own 0 y.2.1.length, .own 1 y.2.2.1.length, .own 2 y.2.2.2.1.length, .own 3 y.2.2.2.2.1.length]), (0, .box [(sv_u8 y.2.2.2.2.2.1), .int .i64 y.2.2.2.2.2.2])] [.arr 9 1 (y.2.1.map en_str), .arr 168 2 (y.2.2.1.map en_S_impl_PlantFoe), .arr 109 3 (y.2.2.2.1.map en_S_impl_PlantPlace), .arr 135 4 (y.2.2.2.2.1.map en_S_impl_PlantValve)] rn | e => Q e σ') σ)
    (h2 : ∀ (k : Nat) (x1033000 : List ByteArray) (x1033001 : List S_impl_PlantFoe) (x1033002 : List S_impl_PlantPlace) (x1033003 : List S_impl_PlantValve) (x1000000 : List Int) (x1000001 : Int), k < KK → spec_l2Spoil.j0 k x1000000 x1000001 x1033000 x1033001 x1033002 x1033003 = some r → headN σ hv [33, 25, 26, 27, 28, 1, 0] [] [(33, .box [.own 0 x1033000.length, .own 1 x1033001.length, .own 2 x1033002.length, .own 3 x1033003.length]), (0, .box [(sv_u8 x1000000), .int .i64 x1000001])] [.arr 9 1 (x1033000.map en_str), .arr 168 2 (x1033001.map en_S_impl_PlantFoe), .arr 109 3 (x1033002.map en_S_impl_PlantPlace), .arr 135 4 (x1033003.map en_S_impl_PlantValve)] K) : Sq F hv K Q σ := by
  unfold Sq
  refine ⟨Nat × (List ByteArray) × (List S_impl_PlantFoe) × (List S_impl_PlantPlace) × (List S_impl_PlantValve) × (List Int) × Int, fun x => spec_l2Spoil.j0 x.1 x.2.2.2.2.2.1 x.2.2.2.2.2.2 x.2.1 x.2.2.1 x.2.2.2.1 x.2.2.2.2.1 = some r ∧ x.1 < KK, [33, 25, 26, 27, 28, 1, 0], fun x => [], fun x => [(33, .box [.own 0 x.2.1.length, .own 1 x.2.2.1.length, .own 2 x.2.2.2.1.length, .own 3 x.2.2.2.2.1.length]), (0, .box [(sv_u8 x.2.2.2.2.2.1), .int .i64 x.2.2.2.2.2.2])], fun x => [.arr 9 1 (x.2.1.map en_str), .arr 168 2 (x.2.2.1.map en_S_impl_PlantFoe), .arr 109 3 (x.2.2.2.1.map en_S_impl_PlantPlace), .arr 135 4 (x.2.2.2.2.1.map en_S_impl_PlantValve)], h1, ?_⟩
  rintro ⟨k, x1033000, x1033001, x1033002, x1033003, x1000000, x1000001⟩ ⟨H, hk⟩
  exact h2 k x1033000 x1033001 x1033002 x1033003 x1000000 x1000001 hk H
theorem spec_l2Spoil.l0_lp {F : (Exit → St → Prop) → St → Prop} {hv : List Tmp} {Q : Exit → St → Prop} {σ : St} {r : (List ByteArray) × (List S_impl_PlantFoe) × (List S_impl_PlantPlace) × (List S_impl_PlantValve) × (List Int) × Int} {k : Nat} {t8666 : Int × (List Int) × Int} {x10 : Int} {x1033000_1 : List ByteArray} {x1033001_1 : List S_impl_PlantFoe} {x1033002_1 : List S_impl_PlantPlace} {x1033003_1 : List S_impl_PlantValve} (H : spec_l2Spoil.l0 k x10 t8666 x1033000_1 x1033001_1 x1033002_1 x1033003_1 = some r) (rn : List (Option Nat)) (h1 : Fits σ σ [25, 26, 27, 28, 33] [(10, .int .i64 x10)] [(33, .box [.own 0 x1033000_1.length, .own 1 x1033001_1.length, .own 2 x1033002_1.length, .own 3 x1033003_1.length])] [.arr 9 1 (x1033000_1.map en_str), .arr 168 2 (x1033001_1.map en_S_impl_PlantFoe), .arr 109 3 (x1033002_1.map en_S_impl_PlantPlace), .arr 135 4 (x1033003_1.map en_S_impl_PlantValve)] rn)
    (h2 : ∀ (k0 : Nat) (x10 : Int) (x1033000_1 : List ByteArray) (x1033001_1 : List S_impl_PlantFoe) (x1033002_1 : List S_impl_PlantPlace) (x1033003_1 : List S_impl_PlantValve), k0 < k + 1 → spec_l2Spoil.l0 k0 x10 t8666 x1033000_1 x1033001_1 x1033002_1 x1033003_1 = some r → headN σ hv [25, 26, 27, 28, 33] [(10, .int .i64 x10)] [(33, .box [.own 0 x1033000_1.length, .own 1 x1033001_1.length, .own 2 x1033002_1.length, .own 3 x1033003_1.length])] [.arr 9 1 (x1033000_1.map en_str), .arr 168 2 (x1033001_1.map en_S_impl_PlantFoe), .arr 109 3 (x1033002_1.map en_S_impl_PlantPlace), .arr 135 4 (x1033003_1.map en_S_impl_PlantValve)] (F (fun e σ' => match e with | .normal => ∃ (y : Nat × Int × (List ByteArray) × (List S_impl_PlantFoe) × (List S_impl_PlantPlace) × (List S_impl_PlantValve)) (rn : List (Option Nat)), (spec_l2Spoil.l0 y.1 y.2.1 t8666 y.2.2.1 y.2.2.2.1 y.2.2.2.2.1 y.2.2.2.2.2 = some r ∧ y.1 < k + 1) ∧ y.1 < k0 ∧ Fits σ σ' [25, 26, 27, 28, 33] [(10, .int .i64 y.2.1)] [(33, .box [.own 0 y.2.2.1.length, .own 1 y.2.2.2.1.length, .own 2 y.2.2.2.2.1.length, .own 3 y.2.2.2.2.2.length])] [.arr 9 1 (y.2.2.1.map en_str), .arr 168 2 (y.2.2.2.1.map en_S_impl_PlantFoe), .arr 109 3 (y.2.2.2.2.1.map en_S_impl_PlantPlace), .arr 135 4 (y.2.2.2.2.2.map en_S_impl_PlantValve)] rn | e => Q e σ'))) : Lp F hv Q σ := by
  unfold Lp
  refine ⟨Nat × Int × (List ByteArray) × (List S_impl_PlantFoe) × (List S_impl_PlantPlace) × (List S_impl_PlantValve), fun x => spec_l2Spoil.l0 x.1 x.2.1 t8666 x.2.2.1 x.2.2.2.1 x.2.2.2.2.1 x.2.2.2.2.2 = some r ∧ x.1 < k + 1, fun x => x.1, [25, 26, 27, 28, 33], fun x => [(10, .int .i64 x.2.1)], fun x => [(33, .box [.own 0 x.2.2.1.length, .own 1 x.2.2.2.1.length, .own 2 x.2.2.2.2.1.length, .own 3 x.2.2.2.2.2.length])], fun x => [.arr 9 1 (x.2.2.1.map en_str), .arr 168 2 (x.2.2.2.1.map en_S_impl_PlantFoe), .arr 109 3 (x.2.2.2.2.1.map en_S_impl_PlantPlace), .arr 135 4 (x.2.2.2.2.2.map en_S_impl_PlantValve)], ⟨(k, x10, x1033000_1, x1033001_1, x1033002_1, x1033003_1), rn, ⟨H, Nat.lt_succ_self _⟩, h1⟩, ?_⟩
  rintro ⟨k, x10, x1033000_1, x1033001_1, x1033002_1, x1033003_1⟩ ⟨H, hk⟩
  exact h2 k x10 x1033000_1 x1033001_1 x1033002_1 x1033003_1 hk H
theorem spec_l2Spoil.l1_lp {F : (Exit → St → Prop) → St → Prop} {hv : List Tmp} {Q : Exit → St → Prop} {σ : St} {r : (List ByteArray) × (List S_impl_PlantFoe) × (List S_impl_PlantPlace) × (List S_impl_PlantValve) × (List Int) × Int} {k : Nat} {t8669 : Int × (List Int) × Int} {x12 : Int} {x1033000_2 : List ByteArray} {x1033001_2 : List S_impl_PlantFoe} {x1033002_2 : List S_impl_PlantPlace} {x1033003_2 : List S_impl_PlantValve} (H : spec_l2Spoil.l1 k x12 t8669 x1033000_2 x1033001_2 x1033002_2 x1033003_2 = some r) (rn : List (Option Nat)) (h1 : Fits σ σ [25, 26, 27, 28, 33] [(12, .int .i64 x12)] [(33, .box [.own 0 x1033000_2.length, .own 1 x1033001_2.length, .own 2 x1033002_2.length, .own 3 x1033003_2.length])] [.arr 9 1 (x1033000_2.map en_str), .arr 168 2 (x1033001_2.map en_S_impl_PlantFoe), .arr 109 3 (x1033002_2.map en_S_impl_PlantPlace), .arr 135 4 (x1033003_2.map en_S_impl_PlantValve)] rn)
    (h2 : ∀ (k0 : Nat) (x12 : Int) (x1033000_2 : List ByteArray) (x1033001_2 : List S_impl_PlantFoe) (x1033002_2 : List S_impl_PlantPlace) (x1033003_2 : List S_impl_PlantValve), k0 < k + 1 → spec_l2Spoil.l1 k0 x12 t8669 x1033000_2 x1033001_2 x1033002_2 x1033003_2 = some r → headN σ hv [25, 26, 27, 28, 33] [(12, .int .i64 x12)] [(33, .box [.own 0 x1033000_2.length, .own 1 x1033001_2.length, .own 2 x1033002_2.length, .own 3 x1033003_2.length])] [.arr 9 1 (x1033000_2.map en_str), .arr 168 2 (x1033001_2.map en_S_impl_PlantFoe), .arr 109 3 (x1033002_2.map en_S_impl_PlantPlace), .arr 135 4 (x1033003_2.map en_S_impl_PlantValve)] (F (fun e σ' => match e with | .normal => ∃ (y : Nat × Int × (List ByteArray) × (List S_impl_PlantFoe) × (List S_impl_PlantPlace) × (List S_impl_PlantValve)) (rn : List (Option Nat)), (spec_l2Spoil.l1 y.1 y.2.1 t8669 y.2.2.1 y.2.2.2.1 y.2.2.2.2.1 y.2.2.2.2.2 = some r ∧ y.1 < k + 1) ∧ y.1 < k0 ∧ Fits σ σ' [25, 26, 27, 28, 33] [(12, .int .i64 y.2.1)] [(33, .box [.own 0 y.2.2.1.length, .own 1 y.2.2.2.1.length, .own 2 y.2.2.2.2.1.length, .own 3 y.2.2.2.2.2.length])] [.arr 9 1 (y.2.2.1.map en_str), .arr 168 2 (y.2.2.2.1.map en_S_impl_PlantFoe), .arr 109 3 (y.2.2.2.2.1.map en_S_impl_PlantPlace), .arr 135 4 (y.2.2.2.2.2.map en_S_impl_PlantValve)] rn | e => Q e σ'))) : Lp F hv Q σ := by
  unfold Lp
  refine ⟨Nat × Int × (List ByteArray) × (List S_impl_PlantFoe) × (List S_impl_PlantPlace) × (List S_impl_PlantValve), fun x => spec_l2Spoil.l1 x.1 x.2.1 t8669 x.2.2.1 x.2.2.2.1 x.2.2.2.2.1 x.2.2.2.2.2 = some r ∧ x.1 < k + 1, fun x => x.1, [25, 26, 27, 28, 33], fun x => [(12, .int .i64 x.2.1)], fun x => [(33, .box [.own 0 x.2.2.1.length, .own 1 x.2.2.2.1.length, .own 2 x.2.2.2.2.1.length, .own 3 x.2.2.2.2.2.length])], fun x => [.arr 9 1 (x.2.2.1.map en_str), .arr 168 2 (x.2.2.2.1.map en_S_impl_PlantFoe), .arr 109 3 (x.2.2.2.2.1.map en_S_impl_PlantPlace), .arr 135 4 (x.2.2.2.2.2.map en_S_impl_PlantValve)], ⟨(k, x12, x1033000_2, x1033001_2, x1033002_2, x1033003_2), rn, ⟨H, Nat.lt_succ_self _⟩, h1⟩, ?_⟩
  rintro ⟨k, x12, x1033000_2, x1033001_2, x1033002_2, x1033003_2⟩ ⟨H, hk⟩
  exact h2 k x12 x1033000_2 x1033001_2 x1033002_2 x1033003_2 hk H
theorem spec_l2Spoil.l2_lp {F : (Exit → St → Prop) → St → Prop} {hv : List Tmp} {Q : Exit → St → Prop} {σ : St} {r : (List ByteArray) × (List S_impl_PlantFoe) × (List S_impl_PlantPlace) × (List S_impl_PlantValve) × (List Int) × Int} {k : Nat} {t8672 : Int × (List Int) × Int} {x14 : Int} {x1033000_3 : List ByteArray} {x1033001_3 : List S_impl_PlantFoe} {x1033002_3 : List S_impl_PlantPlace} {x1033003_3 : List S_impl_PlantValve} (H : spec_l2Spoil.l2 k x14 t8672 x1033000_3 x1033001_3 x1033002_3 x1033003_3 = some r) (rn : List (Option Nat)) (h1 : Fits σ σ [25, 26, 27, 28, 33] [(14, .int .i64 x14)] [(33, .box [.own 0 x1033000_3.length, .own 1 x1033001_3.length, .own 2 x1033002_3.length, .own 3 x1033003_3.length])] [.arr 9 1 (x1033000_3.map en_str), .arr 168 2 (x1033001_3.map en_S_impl_PlantFoe), .arr 109 3 (x1033002_3.map en_S_impl_PlantPlace), .arr 135 4 (x1033003_3.map en_S_impl_PlantValve)] rn)
    (h2 : ∀ (k0 : Nat) (x14 : Int) (x1033000_3 : List ByteArray) (x1033001_3 : List S_impl_PlantFoe) (x1033002_3 : List S_impl_PlantPlace) (x1033003_3 : List S_impl_PlantValve), k0 < k + 1 → spec_l2Spoil.l2 k0 x14 t8672 x1033000_3 x1033001_3 x1033002_3 x1033003_3 = some r → headN σ hv [25, 26, 27, 28, 33] [(14, .int .i64 x14)] [(33, .box [.own 0 x1033000_3.length, .own 1 x1033001_3.length, .own 2 x1033002_3.length, .own 3 x1033003_3.length])] [.arr 9 1 (x1033000_3.map en_str), .arr 168 2 (x1033001_3.map en_S_impl_PlantFoe), .arr 109 3 (x1033002_3.map en_S_impl_PlantPlace), .arr 135 4 (x1033003_3.map en_S_impl_PlantValve)] (F (fun e σ' => match e with | .normal => ∃ (y : Nat × Int × (List ByteArray) × (List S_impl_PlantFoe) × (List S_impl_PlantPlace) × (List S_impl_PlantValve)) (rn : List (Option Nat)), (spec_l2Spoil.l2 y.1 y.2.1 t8672 y.2.2.1 y.2.2.2.1 y.2.2.2.2.1 y.2.2.2.2.2 = some r ∧ y.1 < k + 1) ∧ y.1 < k0 ∧ Fits σ σ' [25, 26, 27, 28, 33] [(14, .int .i64 y.2.1)] [(33, .box [.own 0 y.2.2.1.length, .own 1 y.2.2.2.1.length, .own 2 y.2.2.2.2.1.length, .own 3 y.2.2.2.2.2.length])] [.arr 9 1 (y.2.2.1.map en_str), .arr 168 2 (y.2.2.2.1.map en_S_impl_PlantFoe), .arr 109 3 (y.2.2.2.2.1.map en_S_impl_PlantPlace), .arr 135 4 (y.2.2.2.2.2.map en_S_impl_PlantValve)] rn | e => Q e σ'))) : Lp F hv Q σ := by
  unfold Lp
  refine ⟨Nat × Int × (List ByteArray) × (List S_impl_PlantFoe) × (List S_impl_PlantPlace) × (List S_impl_PlantValve), fun x => spec_l2Spoil.l2 x.1 x.2.1 t8672 x.2.2.1 x.2.2.2.1 x.2.2.2.2.1 x.2.2.2.2.2 = some r ∧ x.1 < k + 1, fun x => x.1, [25, 26, 27, 28, 33], fun x => [(14, .int .i64 x.2.1)], fun x => [(33, .box [.own 0 x.2.2.1.length, .own 1 x.2.2.2.1.length, .own 2 x.2.2.2.2.1.length, .own 3 x.2.2.2.2.2.length])], fun x => [.arr 9 1 (x.2.2.1.map en_str), .arr 168 2 (x.2.2.2.1.map en_S_impl_PlantFoe), .arr 109 3 (x.2.2.2.2.1.map en_S_impl_PlantPlace), .arr 135 4 (x.2.2.2.2.2.map en_S_impl_PlantValve)], ⟨(k, x14, x1033000_3, x1033001_3, x1033002_3, x1033003_3), rn, ⟨H, Nat.lt_succ_self _⟩, h1⟩, ?_⟩
  rintro ⟨k, x14, x1033000_3, x1033001_3, x1033002_3, x1033003_3⟩ ⟨H, hk⟩
  exact h2 k x14 x1033000_3 x1033001_3 x1033002_3 x1033003_3 hk H
theorem spec_l2Spoil.j1_sq {F : (Exit → St → Prop) → St → Prop} {hv : List Tmp} {K : St → Prop} {Q : Exit → St → Prop} {σ : St} {r : (List ByteArray) × (List S_impl_PlantFoe) × (List S_impl_PlantPlace) × (List S_impl_PlantValve) × (List Int) × Int} {KK : Nat} {t8586 : (List ByteArray) × (List S_impl_PlantFoe) × (List S_impl_PlantPlace) × (List S_impl_PlantValve)} {t8651 : Int × (List Int) × Int}
    (h1 : F (fun e σ' => match e with | .normal => ∃ (y : Nat × Bool) (rn : List (Option Nat)), (spec_l2Spoil.j1 y.1 y.2 t8586 t8651 = some r ∧ y.1 < KK) ∧ Fits σ σ' [] [(137, .bool y.2)] [] [] rn | e => Q e σ') σ)
    (h2 : ∀ (k : Nat) (x137 : Bool), k < KK → spec_l2Spoil.j1 k x137 t8586 t8651 = some r → headN σ hv [] [(137, .bool x137)] [] [] K) : Sq F hv K Q σ := by
  unfold Sq
  refine ⟨Nat × Bool, fun x => spec_l2Spoil.j1 x.1 x.2 t8586 t8651 = some r ∧ x.1 < KK, [], fun x => [(137, .bool x.2)], fun x => [], fun x => [], h1, ?_⟩
  rintro ⟨k, x137⟩ ⟨H, hk⟩
  exact h2 k x137 hk H

end Go.Proofs.Ytodeegjblililaa.QU

