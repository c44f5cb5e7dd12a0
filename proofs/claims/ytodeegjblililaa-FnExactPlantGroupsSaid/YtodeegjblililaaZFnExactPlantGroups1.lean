import Derived.Test.YtodeegjblililaaZFnExactPlantGroups0
import Derived.Shelf.Lay
import Derived.Shelf.Sort.AssemblyIn
import Derived.Ground.SoProg
import Derived.Test.YtodeegjblililaaProg
import Derived.KernelRfl
set_option linter.unusedVariables false
set_option linter.unusedSimpArgs false
namespace Go.Proofs.Ytodeegjblililaa.PS
open Go Go.Aw Go.RowKit Go.Proofs
set_option maxRecDepth 100000
set_option maxHeartbeats 40000000
variable {G : Nat → Option Obj}
def tab : List (TypeId × TI) := [(2, ⟨1, 8, false, 0, 0, [], [.int .i64 0], some .i64, false, false, false, [], [0], []⟩),
  (3, ⟨1, 8, false, 0, 0, [], [.int .i64 0], some .i64, false, false, false, [], [0], []⟩),
  (4, ⟨1, 1, false, 0, 0, [], [.bool false], none, false, false, true, [], [0], []⟩),
  (5, ⟨1, 1, false, 0, 0, [], [.int .u8 0], some .u8, false, false, false, [], [0], []⟩),
  (6, ⟨1, 1, false, 0, 0, [], [.int .u8 0], some .u8, false, false, false, [], [0], []⟩),
  (7, ⟨4, 24, true, 0, 0, [(0, 2), (1, 3), (2, 4), (3, 6)], [.int .i64 0, .int .i64 0, .bool false, .int .u8 0], none, false, false, false, [(0, 1), (1, 1), (2, 1), (3, 1)], [0, 0, 0, 0], []⟩),
  (8, ⟨4, 24, true, 0, 0, [(0, 2), (1, 3), (2, 4), (3, 6)], [.int .i64 0, .int .i64 0, .bool false, .int .u8 0], none, false, false, false, [(0, 1), (1, 1), (2, 1), (3, 1)], [0, 0, 0, 0], []⟩),
  (9, ⟨1, 16, false, 0, 0, [], [.str ⟨#[]⟩], none, true, false, false, [], [0], []⟩),
  (10, ⟨1, 16, false, 0, 0, [], [.str ⟨#[]⟩], none, true, false, false, [], [0], []⟩),
  (11, ⟨1, 16, false, 0, 0, [], [.str ⟨#[]⟩], none, true, false, false, [], [0], []⟩),
  (12, ⟨1, 8, false, 0, 0, [], [.int .u64 0], some .u64, false, false, false, [], [0], []⟩),
  (13, ⟨2, 24, true, 0, 0, [(0, 9), (1, 12)], [.str ⟨#[]⟩, .int .u64 0], none, false, false, false, [(0, 1), (1, 1)], [0, 0], []⟩),
  (14, ⟨2, 24, true, 0, 0, [(0, 9), (1, 12)], [.str ⟨#[]⟩, .int .u64 0], none, false, false, false, [(0, 1), (1, 1)], [0, 0], []⟩),
  (21, ⟨1, 4, false, 0, 0, [], [.int .i32 0], some .i32, false, false, false, [], [0], []⟩),
  (22, ⟨1, 24, false, 112, 0, [], [.nil], none, false, true, false, [], [8], []⟩),
  (24, ⟨1, 24, false, 9, 0, [], [.nil], none, false, true, false, [], [1], []⟩),
  (26, ⟨1, 24, false, 88, 0, [], [.nil], none, false, true, false, [], [8], []⟩),
  (33, ⟨1, 24, false, 176, 0, [], [.nil], none, false, true, false, [], [2], []⟩),
  (34, ⟨1, 24, false, 178, 0, [], [.nil], none, false, true, false, [], [3], []⟩),
  (35, ⟨1, 24, false, 180, 0, [], [.nil], none, false, true, false, [], [4], []⟩),
  (36, ⟨4, 96, true, 0, 0, [(0, 24), (1, 33), (2, 34), (3, 35)], [.nil, .nil, .nil, .nil], none, false, false, false, [(0, 1), (1, 1), (2, 1), (3, 1)], [1, 2, 3, 4], []⟩),
  (37, ⟨4, 96, true, 0, 0, [(0, 24), (1, 33), (2, 34), (3, 35)], [.nil, .nil, .nil, .nil], none, false, false, false, [(0, 1), (1, 1), (2, 1), (3, 1)], [1, 2, 3, 4], []⟩),
  (40, ⟨1, 24, false, 168, 0, [], [.nil], none, false, true, false, [], [2], []⟩),
  (41, ⟨1, 24, false, 109, 0, [], [.nil], none, false, true, false, [], [3], []⟩),
  (42, ⟨1, 24, false, 135, 0, [], [.nil], none, false, true, false, [], [4], []⟩),
  (43, ⟨4, 96, true, 0, 0, [(0, 24), (1, 40), (2, 41), (3, 42)], [.nil, .nil, .nil, .nil], none, false, false, false, [(0, 1), (1, 1), (2, 1), (3, 1)], [1, 2, 3, 4], []⟩),
  (44, ⟨4, 96, true, 0, 0, [(0, 24), (1, 40), (2, 41), (3, 42)], [.nil, .nil, .nil, .nil], none, false, false, false, [(0, 1), (1, 1), (2, 1), (3, 1)], [1, 2, 3, 4], []⟩),
  (50, ⟨1, 24, false, 107, 0, [], [.nil], none, false, true, false, [], [1], []⟩),
  (55, ⟨2, 48, true, 0, 0, [(0, 24), (1, 24)], [.nil, .nil], none, false, false, false, [(0, 1), (1, 1)], [1, 1], []⟩),
  (56, ⟨2, 48, true, 0, 0, [(0, 24), (1, 24)], [.nil, .nil], none, false, false, false, [(0, 1), (1, 1)], [1, 1], []⟩),
  (59, ⟨2, 48, true, 0, 0, [(0, 24), (1, 24)], [.nil, .nil], none, false, false, false, [(0, 1), (1, 1)], [1, 1], []⟩),
  (63, ⟨1, 24, false, 133, 0, [], [.nil], none, false, true, false, [], [2], []⟩),
  (64, ⟨2, 48, true, 0, 0, [(0, 24), (1, 63)], [.nil, .nil], none, false, false, false, [(0, 1), (1, 1)], [1, 2], []⟩),
  (65, ⟨2, 48, true, 0, 0, [(0, 24), (1, 63)], [.nil, .nil], none, false, false, false, [(0, 1), (1, 1)], [1, 2], []⟩),
  (69, ⟨1, 24, false, 193, 0, [], [.nil], none, false, true, false, [], [2], []⟩),
  (70, ⟨2, 48, true, 0, 0, [(0, 24), (1, 69)], [.nil, .nil], none, false, false, false, [(0, 1), (1, 1)], [1, 2], []⟩),
  (71, ⟨2, 48, true, 0, 0, [(0, 24), (1, 69)], [.nil, .nil], none, false, false, false, [(0, 1), (1, 1)], [1, 2], []⟩),
  (78, ⟨1, 24, false, 5, 0, [], [.nil], none, false, true, false, [], [1], []⟩),
  (79, ⟨3, 32, true, 0, 0, [(0, 9), (1, 3), (2, 3)], [.str ⟨#[]⟩, .int .i64 0, .int .i64 0], none, false, false, false, [(0, 1), (1, 1), (2, 1)], [0, 0, 0], []⟩),
  (80, ⟨3, 32, true, 0, 0, [(0, 9), (1, 3), (2, 3)], [.str ⟨#[]⟩, .int .i64 0, .int .i64 0], none, false, false, false, [(0, 1), (1, 1), (2, 1)], [0, 0, 0], [2, 1, 1]⟩),
  (81, ⟨2, 16, true, 0, 0, [(0, 3), (1, 4)], [.int .i64 0, .bool false], none, false, false, false, [(0, 1), (1, 1)], [0, 0], []⟩),
  (82, ⟨2, 16, true, 0, 0, [(0, 3), (1, 4)], [.int .i64 0, .bool false], none, false, false, false, [(0, 1), (1, 1)], [0, 0], [1, 3]⟩),
  (87, ⟨8, 104, true, 0, 0, [(0, 9), (1, 3), (2, 9), (3, 9), (4, 3), (5, 3), (6, 9), (7, 9)], [.str ⟨#[]⟩, .int .i64 0, .str ⟨#[]⟩, .str ⟨#[]⟩, .int .i64 0, .int .i64 0, .str ⟨#[]⟩, .str ⟨#[]⟩], none, false, false, false, [(0, 1), (1, 1), (2, 1), (3, 1), (4, 1), (5, 1), (6, 1), (7, 1)], [0, 0, 0, 0, 0, 0, 0, 0], []⟩),
  (88, ⟨8, 104, true, 0, 0, [(0, 9), (1, 3), (2, 9), (3, 9), (4, 3), (5, 3), (6, 9), (7, 9)], [.str ⟨#[]⟩, .int .i64 0, .str ⟨#[]⟩, .str ⟨#[]⟩, .int .i64 0, .int .i64 0, .str ⟨#[]⟩, .str ⟨#[]⟩], none, false, false, false, [(0, 1), (1, 1), (2, 1), (3, 1), (4, 1), (5, 1), (6, 1), (7, 1)], [0, 0, 0, 0, 0, 0, 0, 0], [2, 1, 2, 2, 1, 1, 2, 2]⟩),
  (101, ⟨1, 24, false, 4, 0, [], [.nil], none, false, true, false, [], [1], []⟩),
  (106, ⟨1, 24, true, 0, 0, [(0, 24)], [.nil], none, false, false, false, [(0, 1)], [1], []⟩),
  (107, ⟨1, 24, true, 0, 0, [(0, 24)], [.nil], none, false, false, false, [(0, 1)], [1], []⟩),
  (108, ⟨3, 40, true, 0, 0, [(0, 9), (1, 3), (2, 9)], [.str ⟨#[]⟩, .int .i64 0, .str ⟨#[]⟩], none, false, false, false, [(0, 1), (1, 1), (2, 1)], [0, 0, 0], []⟩),
  (109, ⟨3, 40, true, 0, 0, [(0, 9), (1, 3), (2, 9)], [.str ⟨#[]⟩, .int .i64 0, .str ⟨#[]⟩], none, false, false, false, [(0, 1), (1, 1), (2, 1)], [0, 0, 0], [2, 1, 2]⟩),
  (112, ⟨8, 104, true, 0, 0, [(0, 9), (1, 3), (2, 9), (3, 9), (4, 3), (5, 3), (6, 9), (7, 9)], [.str ⟨#[]⟩, .int .i64 0, .str ⟨#[]⟩, .str ⟨#[]⟩, .int .i64 0, .int .i64 0, .str ⟨#[]⟩, .str ⟨#[]⟩], none, false, false, false, [(0, 1), (1, 1), (2, 1), (3, 1), (4, 1), (5, 1), (6, 1), (7, 1)], [0, 0, 0, 0, 0, 0, 0, 0], [2, 1, 2, 2, 1, 1, 2, 2]⟩),
  (132, ⟨2, 32, true, 0, 0, [(0, 9), (1, 9)], [.str ⟨#[]⟩, .str ⟨#[]⟩], none, false, false, false, [(0, 1), (1, 1)], [0, 0], []⟩),
  (133, ⟨2, 32, true, 0, 0, [(0, 9), (1, 9)], [.str ⟨#[]⟩, .str ⟨#[]⟩], none, false, false, false, [(0, 1), (1, 1)], [0, 0], [2, 2]⟩),
  (134, ⟨4, 64, true, 0, 0, [(0, 9), (1, 9), (2, 9), (3, 9)], [.str ⟨#[]⟩, .str ⟨#[]⟩, .str ⟨#[]⟩, .str ⟨#[]⟩], none, false, false, false, [(0, 1), (1, 1), (2, 1), (3, 1)], [0, 0, 0, 0], []⟩),
  (135, ⟨4, 64, true, 0, 0, [(0, 9), (1, 9), (2, 9), (3, 9)], [.str ⟨#[]⟩, .str ⟨#[]⟩, .str ⟨#[]⟩, .str ⟨#[]⟩], none, false, false, false, [(0, 1), (1, 1), (2, 1), (3, 1)], [0, 0, 0, 0], [2, 2, 2, 2]⟩),
  (151, ⟨1, 24, false, 3, 0, [], [.nil], none, false, true, false, [], [1], []⟩),
  (165, ⟨1, 24, false, 204, 0, [], [.nil], none, false, true, false, [], [2], []⟩),
  (167, ⟨2, 32, true, 0, 0, [(0, 9), (1, 9)], [.str ⟨#[]⟩, .str ⟨#[]⟩], none, false, false, false, [(0, 1), (1, 1)], [0, 0], []⟩),
  (168, ⟨2, 32, true, 0, 0, [(0, 9), (1, 9)], [.str ⟨#[]⟩, .str ⟨#[]⟩], none, false, false, false, [(0, 1), (1, 1)], [0, 0], [2, 2]⟩),
  (176, ⟨2, 32, true, 0, 0, [(0, 9), (1, 9)], [.str ⟨#[]⟩, .str ⟨#[]⟩], none, false, false, false, [(0, 1), (1, 1)], [0, 0], [2, 2]⟩),
  (178, ⟨3, 40, true, 0, 0, [(0, 9), (1, 3), (2, 9)], [.str ⟨#[]⟩, .int .i64 0, .str ⟨#[]⟩], none, false, false, false, [(0, 1), (1, 1), (2, 1)], [0, 0, 0], [2, 1, 2]⟩),
  (180, ⟨4, 64, true, 0, 0, [(0, 9), (1, 9), (2, 9), (3, 9)], [.str ⟨#[]⟩, .str ⟨#[]⟩, .str ⟨#[]⟩, .str ⟨#[]⟩], none, false, false, false, [(0, 1), (1, 1), (2, 1), (3, 1)], [0, 0, 0, 0], [2, 2, 2, 2]⟩),
  (193, ⟨2, 32, true, 0, 0, [(0, 9), (1, 9)], [.str ⟨#[]⟩, .str ⟨#[]⟩], none, false, false, false, [(0, 1), (1, 1)], [0, 0], [2, 2]⟩),
  (195, ⟨2, 32, true, 0, 0, [(0, 78), (1, 3)], [.nil, .int .i64 0], none, false, false, false, [(0, 1), (1, 1)], [1, 0], []⟩),
  (196, ⟨2, 32, true, 0, 0, [(0, 78), (1, 3)], [.nil, .int .i64 0], none, false, false, false, [(0, 1), (1, 1)], [1, 0], []⟩),
  (200, ⟨2, 32, true, 0, 0, [(0, 78), (1, 3)], [.nil, .int .i64 0], none, false, false, false, [(0, 1), (1, 1)], [1, 0], []⟩),
  (202, ⟨1, 24, false, 59, 0, [], [.nil], none, false, true, false, [], [2], []⟩),
  (204, ⟨2, 32, true, 9, 2, [], [.str ⟨#[]⟩, .str ⟨#[]⟩], none, false, false, false, [(0, 1), (1, 1)], [0, 0], [2, 2]⟩),
  (214, ⟨1, 8, false, 0, 0, [], [.int .u64 0], some .u64, false, false, false, [], [0], []⟩),
  (219, ⟨1, 8, false, 0, 0, [], [.int .i64 0], some .i64, false, false, false, [], [0], []⟩),
  (228, ⟨1, 4, false, 0, 0, [], [.int .u32 0], some .u32, false, false, false, [], [0], []⟩),
  (230, ⟨1, 8, false, 0, 0, [], [.int .u64 0], some .u64, false, false, false, [], [0], []⟩),
  (231, ⟨1, 8, false, 0, 0, [], [.int .u64 0], some .u64, false, false, false, [], [0], []⟩),
  (249, ⟨1, 1, false, 0, 0, [], [.int .u8 0], some .u8, false, false, false, [], [0], []⟩),
  (250, ⟨1, 1, false, 0, 0, [], [.int .u8 0], some .u8, false, false, false, [], [0], []⟩),
  (253, ⟨1, 4, false, 0, 0, [], [.int .i32 0], some .i32, false, false, false, [], [0], []⟩),
  (254, ⟨1, 4, false, 0, 0, [], [.int .i32 0], some .i32, false, false, false, [], [0], []⟩)]
theorem tok : TOk Try.prog (lk tab) := tok_of tab (by kernel_rfl)
theorem hP : Try.prog.follows .mixedOrders = true := by kernel_rfl
def en_str (x : ByteArray) : List V := [.str x]
def sv_str (l : List ByteArray) : V := .sl 1 l.length (l.map en_str)
def ob_str (l : List ByteArray) : Ob := .arr 9 1 (l.map en_str)
theorem bare_en_str (x : ByteArray) : (en_str x).all V.bare = true := rfl
theorem rdm_en_str (l : List ByteArray) (i : Int) (h0 : 0 ≤ i) (h1 : i < (l.length : Int)) : (l.map en_str)[i.toNat]? = some (en_str (rdOf ByteArray.empty l i)) := by
  have : i.toNat < l.length := by omega
  simp [rdOf, this]
def en_S_laws_PlantFoe (x : S_laws_PlantFoe) : List V := [.str x.f0, .str x.f1]
def sv_S_laws_PlantFoe (l : List S_laws_PlantFoe) : V := .sl 2 l.length (l.map en_S_laws_PlantFoe)
def ob_S_laws_PlantFoe (l : List S_laws_PlantFoe) : Ob := .arr 176 2 (l.map en_S_laws_PlantFoe)
theorem bare_en_S_laws_PlantFoe (x : S_laws_PlantFoe) : (en_S_laws_PlantFoe x).all V.bare = true := rfl
theorem rdm_en_S_laws_PlantFoe (l : List S_laws_PlantFoe) (i : Int) (h0 : 0 ≤ i) (h1 : i < (l.length : Int)) : (l.map en_S_laws_PlantFoe)[i.toNat]? = some (en_S_laws_PlantFoe (rd_laws_PlantFoe l i)) := by
  have : i.toNat < l.length := by omega
  simp [rd_laws_PlantFoe, this]
def en_S_laws_PlantPlace (x : S_laws_PlantPlace) : List V := [.str x.f0, .int .i64 x.f1, .str x.f2]
def sv_S_laws_PlantPlace (l : List S_laws_PlantPlace) : V := .sl 3 l.length (l.map en_S_laws_PlantPlace)
def ob_S_laws_PlantPlace (l : List S_laws_PlantPlace) : Ob := .arr 178 3 (l.map en_S_laws_PlantPlace)
theorem bare_en_S_laws_PlantPlace (x : S_laws_PlantPlace) : (en_S_laws_PlantPlace x).all V.bare = true := rfl
theorem rdm_en_S_laws_PlantPlace (l : List S_laws_PlantPlace) (i : Int) (h0 : 0 ≤ i) (h1 : i < (l.length : Int)) : (l.map en_S_laws_PlantPlace)[i.toNat]? = some (en_S_laws_PlantPlace (rd_laws_PlantPlace l i)) := by
  have : i.toNat < l.length := by omega
  simp [rd_laws_PlantPlace, this]
def en_S_laws_PlantValve (x : S_laws_PlantValve) : List V := [.str x.f0, .str x.f1, .str x.f2, .str x.f3]
def sv_S_laws_PlantValve (l : List S_laws_PlantValve) : V := .sl 4 l.length (l.map en_S_laws_PlantValve)
def ob_S_laws_PlantValve (l : List S_laws_PlantValve) : Ob := .arr 180 4 (l.map en_S_laws_PlantValve)
theorem bare_en_S_laws_PlantValve (x : S_laws_PlantValve) : (en_S_laws_PlantValve x).all V.bare = true := rfl
theorem rdm_en_S_laws_PlantValve (l : List S_laws_PlantValve) (i : Int) (h0 : 0 ≤ i) (h1 : i < (l.length : Int)) : (l.map en_S_laws_PlantValve)[i.toNat]? = some (en_S_laws_PlantValve (rd_laws_PlantValve l i)) := by
  have : i.toNat < l.length := by omega
  simp [rd_laws_PlantValve, this]
def en_S_impl_PlantFoe (x : S_impl_PlantFoe) : List V := [.str x.f0, .str x.f1]
def sv_S_impl_PlantFoe (l : List S_impl_PlantFoe) : V := .sl 2 l.length (l.map en_S_impl_PlantFoe)
def ob_S_impl_PlantFoe (l : List S_impl_PlantFoe) : Ob := .arr 168 2 (l.map en_S_impl_PlantFoe)
theorem bare_en_S_impl_PlantFoe (x : S_impl_PlantFoe) : (en_S_impl_PlantFoe x).all V.bare = true := rfl
theorem rdm_en_S_impl_PlantFoe (l : List S_impl_PlantFoe) (i : Int) (h0 : 0 ≤ i) (h1 : i < (l.length : Int)) : (l.map en_S_impl_PlantFoe)[i.toNat]? = some (en_S_impl_PlantFoe (rd_impl_PlantFoe l i)) := by
  have : i.toNat < l.length := by omega
  simp [rd_impl_PlantFoe, this]
def en_S_impl_PlantPlace (x : S_impl_PlantPlace) : List V := [.str x.f0, .int .i64 x.f1, .str x.f2]
def sv_S_impl_PlantPlace (l : List S_impl_PlantPlace) : V := .sl 3 l.length (l.map en_S_impl_PlantPlace)
def ob_S_impl_PlantPlace (l : List S_impl_PlantPlace) : Ob := .arr 109 3 (l.map en_S_impl_PlantPlace)
theorem bare_en_S_impl_PlantPlace (x : S_impl_PlantPlace) : (en_S_impl_PlantPlace x).all V.bare = true := rfl
theorem rdm_en_S_impl_PlantPlace (l : List S_impl_PlantPlace) (i : Int) (h0 : 0 ≤ i) (h1 : i < (l.length : Int)) : (l.map en_S_impl_PlantPlace)[i.toNat]? = some (en_S_impl_PlantPlace (rd_impl_PlantPlace l i)) := by
  have : i.toNat < l.length := by omega
  simp [rd_impl_PlantPlace, this]
def en_S_impl_PlantValve (x : S_impl_PlantValve) : List V := [.str x.f0, .str x.f1, .str x.f2, .str x.f3]
def sv_S_impl_PlantValve (l : List S_impl_PlantValve) : V := .sl 4 l.length (l.map en_S_impl_PlantValve)
def ob_S_impl_PlantValve (l : List S_impl_PlantValve) : Ob := .arr 135 4 (l.map en_S_impl_PlantValve)
theorem bare_en_S_impl_PlantValve (x : S_impl_PlantValve) : (en_S_impl_PlantValve x).all V.bare = true := rfl
theorem rdm_en_S_impl_PlantValve (l : List S_impl_PlantValve) (i : Int) (h0 : 0 ≤ i) (h1 : i < (l.length : Int)) : (l.map en_S_impl_PlantValve)[i.toNat]? = some (en_S_impl_PlantValve (rd_impl_PlantValve l i)) := by
  have : i.toNat < l.length := by omega
  simp [rd_impl_PlantValve, this]
def en_S_impl_PlantSet (x : S_impl_PlantSet) : List V := [(sv_str x.f0)]
def sv_S_impl_PlantSet (l : List S_impl_PlantSet) : V := .sl 1 l.length (l.map en_S_impl_PlantSet)
def ob_S_impl_PlantSet (l : List S_impl_PlantSet) : Ob := .arr 107 1 (l.map en_S_impl_PlantSet)
theorem bareE_en_S_impl_PlantSet (x : S_impl_PlantSet) (h : (x.f0.isEmpty) = true) : (en_S_impl_PlantSet x).all V.bareE = true := by
  simp only [Bool.and_eq_true, List.isEmpty_iff] at h
  have h0 := h
  unfold en_S_impl_PlantSet
  rw [h0]
  rfl
theorem rdm_en_S_impl_PlantSet (l : List S_impl_PlantSet) (i : Int) (h0 : 0 ≤ i) (h1 : i < (l.length : Int)) : (l.map en_S_impl_PlantSet)[i.toNat]? = some (en_S_impl_PlantSet (rd_impl_PlantSet l i)) := by
  have : i.toNat < l.length := by omega
  simp [rd_impl_PlantSet, this]
def en_S_A2_string (x : S_A2_string) : List V := [.str x.f0, .str x.f1]
def sv_S_A2_string (l : List S_A2_string) : V := .sl 2 l.length (l.map en_S_A2_string)
def ob_S_A2_string (l : List S_A2_string) : Ob := .arr 204 2 (l.map en_S_A2_string)
theorem bare_en_S_A2_string (x : S_A2_string) : (en_S_A2_string x).all V.bare = true := rfl
theorem rdm_en_S_A2_string (l : List S_A2_string) (i : Int) (h0 : 0 ≤ i) (h1 : i < (l.length : Int)) : (l.map en_S_A2_string)[i.toNat]? = some (en_S_A2_string (rd_A2_string l i)) := by
  have : i.toNat < l.length := by omega
  simp [rd_A2_string, this]
def en_u8 (x : Int) : List V := [.int .u8 x]
def sv_u8 (l : List Int) : V := .sl 1 l.length (l.map en_u8)
def ob_u8 (l : List Int) : Ob := .arr 5 1 (l.map en_u8)
theorem bare_en_u8 (x : Int) : (en_u8 x).all V.bare = true := rfl
theorem rdm_en_u8 (l : List Int) (i : Int) (h0 : 0 ≤ i) (h1 : i < (l.length : Int)) : (l.map en_u8)[i.toNat]? = some (en_u8 (rd l i)) := by
  have : i.toNat < l.length := by omega
  simp [rd, this]
def en_L_str (x : List ByteArray) : List V := [(sv_str x)]
def sv_L_str (l : List (List ByteArray)) : V := .sl 1 l.length (l.map en_L_str)
def ob_L_str (l : List (List ByteArray)) : Ob := .arr 24 1 (l.map en_L_str)
theorem rdm_en_L_str (l : List (List ByteArray)) (i : Int) (h0 : 0 ≤ i) (h1 : i < (l.length : Int)) : (l.map en_L_str)[i.toNat]? = some (en_L_str (rdOf ([] : List ByteArray) l i)) := by
  have : i.toNat < l.length := by omega
  simp [rdOf, this]
def en_L_S_laws_PlantFoe (x : List S_laws_PlantFoe) : List V := [(sv_S_laws_PlantFoe x)]
def sv_L_S_laws_PlantFoe (l : List (List S_laws_PlantFoe)) : V := .sl 1 l.length (l.map en_L_S_laws_PlantFoe)
def ob_L_S_laws_PlantFoe (l : List (List S_laws_PlantFoe)) : Ob := .arr 33 1 (l.map en_L_S_laws_PlantFoe)
theorem rdm_en_L_S_laws_PlantFoe (l : List (List S_laws_PlantFoe)) (i : Int) (h0 : 0 ≤ i) (h1 : i < (l.length : Int)) : (l.map en_L_S_laws_PlantFoe)[i.toNat]? = some (en_L_S_laws_PlantFoe (rdOf ([] : List S_laws_PlantFoe) l i)) := by
  have : i.toNat < l.length := by omega
  simp [rdOf, this]
def en_i64 (x : Int) : List V := [.int .i64 x]
def sv_i64 (l : List Int) : V := .sl 1 l.length (l.map en_i64)
def ob_i64 (l : List Int) : Ob := .arr 3 1 (l.map en_i64)
theorem bare_en_i64 (x : Int) : (en_i64 x).all V.bare = true := rfl
theorem rdm_en_i64 (l : List Int) (i : Int) (h0 : 0 ≤ i) (h1 : i < (l.length : Int)) : (l.map en_i64)[i.toNat]? = some (en_i64 (rd l i)) := by
  have : i.toNat < l.length := by omega
  simp [rd, this]
def en_L_S_laws_PlantPlace (x : List S_laws_PlantPlace) : List V := [(sv_S_laws_PlantPlace x)]
def sv_L_S_laws_PlantPlace (l : List (List S_laws_PlantPlace)) : V := .sl 1 l.length (l.map en_L_S_laws_PlantPlace)
def ob_L_S_laws_PlantPlace (l : List (List S_laws_PlantPlace)) : Ob := .arr 34 1 (l.map en_L_S_laws_PlantPlace)
theorem rdm_en_L_S_laws_PlantPlace (l : List (List S_laws_PlantPlace)) (i : Int) (h0 : 0 ≤ i) (h1 : i < (l.length : Int)) : (l.map en_L_S_laws_PlantPlace)[i.toNat]? = some (en_L_S_laws_PlantPlace (rdOf ([] : List S_laws_PlantPlace) l i)) := by
  have : i.toNat < l.length := by omega
  simp [rdOf, this]
def en_L_S_laws_PlantValve (x : List S_laws_PlantValve) : List V := [(sv_S_laws_PlantValve x)]
def sv_L_S_laws_PlantValve (l : List (List S_laws_PlantValve)) : V := .sl 1 l.length (l.map en_L_S_laws_PlantValve)
def ob_L_S_laws_PlantValve (l : List (List S_laws_PlantValve)) : Ob := .arr 35 1 (l.map en_L_S_laws_PlantValve)
theorem rdm_en_L_S_laws_PlantValve (l : List (List S_laws_PlantValve)) (i : Int) (h0 : 0 ≤ i) (h1 : i < (l.length : Int)) : (l.map en_L_S_laws_PlantValve)[i.toNat]? = some (en_L_S_laws_PlantValve (rdOf ([] : List S_laws_PlantValve) l i)) := by
  have : i.toNat < l.length := by omega
  simp [rdOf, this]
def en_S_laws_Plant (x : S_laws_Plant) : List V := [(sv_str x.f0), (sv_S_laws_PlantFoe x.f1), (sv_S_laws_PlantPlace x.f2), (sv_S_laws_PlantValve x.f3)]
def sv_S_laws_Plant (l : List S_laws_Plant) : V := .sl 4 l.length (l.map en_S_laws_Plant)
def ob_S_laws_Plant (l : List S_laws_Plant) : Ob := .arr 37 4 (l.map en_S_laws_Plant)
theorem bareE_en_S_laws_Plant (x : S_laws_Plant) (h : (x.f0.isEmpty && x.f1.isEmpty && x.f2.isEmpty && x.f3.isEmpty) = true) : (en_S_laws_Plant x).all V.bareE = true := by
  simp only [Bool.and_eq_true, List.isEmpty_iff] at h
  obtain ⟨⟨⟨h0, h1⟩, h2⟩, h3⟩ := h
  unfold en_S_laws_Plant
  rw [h0, h1, h2, h3]
  rfl
theorem rdm_en_S_laws_Plant (l : List S_laws_Plant) (i : Int) (h0 : 0 ≤ i) (h1 : i < (l.length : Int)) : (l.map en_S_laws_Plant)[i.toNat]? = some (en_S_laws_Plant (rd_laws_Plant l i)) := by
  have : i.toNat < l.length := by omega
  simp [rd_laws_Plant, this]
attribute [local irreducible] callE Lp Sq Cut RetOk Fits

theorem laws_szStringS.l0_lp {F : (Exit → St → Prop) → St → Prop} {hv : List Tmp} {Q : Exit → St → Prop} {σ : St} {r : Int} {k : Nat} {l0 : List ByteArray} {x1 : Int} {x5 : Int} (H : laws_szStringS.l0 k l0 x1 x5 = some r) (rn : List (Option Nat)) (h1 : Fits σ σ [] [(1, .int .i64 x1), (5, .int .i64 x5)] [] [] rn)
    (h2 : ∀ (k0 : Nat) (x1 : Int) (x5 : Int), k0 < k + 1 → laws_szStringS.l0 k0 l0 x1 x5 = some r → headN σ hv [] [(1, .int .i64 x1), (5, .int .i64 x5)] [] [] (F (fun e σ' => match e with | .normal => ∃ (y : Nat × Int × Int) (rn : List (Option Nat)), (laws_szStringS.l0 y.1 l0 y.2.1 y.2.2 = some r ∧ y.1 < k + 1) ∧ y.1 < k0 ∧ Fits σ σ' [] [(1, .int .i64 y.2.1), (5, .int .i64 y.2.2)] [] [] rn | e => Q e σ'))) : Lp F hv Q σ := by
  unfold Lp
  refine ⟨Nat × Int × Int, fun x => laws_szStringS.l0 x.1 l0 x.2.1 x.2.2 = some r ∧ x.1 < k + 1, fun x => x.1, [], fun x => [(1, .int .i64 x.2.1), (5, .int .i64 x.2.2)], fun x => [], fun x => [], ⟨(k, x1, x5), rn, ⟨H, Nat.lt_succ_self _⟩, h1⟩, ?_⟩
  rintro ⟨k, x1, x5⟩ ⟨H, hk⟩
  exact h2 k x1 x5 hk H
theorem laws_szStringS.ac {k : Nat} {l0 : List ByteArray} {a1 : Int} {r : Int} (H : laws_szStringS.f k l0 a1 = some r) : ACalls Try.prog G 24 [] [(sv_str l0), .int .i64 a1] [] (.int .i64 r) := by
  refine acalls_of tok hP Try.func24 rfl (by kernel_rfl) [.tmp 4] rfl (by kernel_rfl) (Nat.le_of_ble_eq_true rfl) (.l .n (.l .n (.l .n (.l (.l .n (.l (.c .n .n) (.l (.l .n (.c .n .n)) .n))) .n)))) rfl ?_
  unfold laws_szStringS.f at H
  conv => whnf
  refine br_d H (fun c H => ?_) (fun c H => ?_)
  conv => whnf
  injection H with H; subst H
  exact ret_fz [] (rtA_eq rfl)
  conv => whnf
  refine laws_szStringS.l0_lp (l0 := l0) (k := k) H [] (fits_of ⟨.inl ⟨rfl, rfl⟩, ⟨.inl ⟨rfl, rfl⟩, trivial⟩⟩ trivial fi_ trivial rfl) ?_
  intro k x1 x5 hk H; rcases k with _ | k; exact none_elim H; rw [laws_szStringS.l0] at H; conv => whnf
  refine cut_ 104 [(0, (sv_str l0)), (1, .int .i64 x1), (5, .int .i64 x5), (15, .bool (decide (x5 < (l0.length : Int))))] [] rfl ⟨.inl rfl, ⟨.inl rfl, ⟨.inl rfl, ⟨.inl rfl, trivial⟩⟩⟩⟩ trivial ?_
  conv => whnf
  refine br_d H (fun c H => ?_) (fun c H => ?_)
  conv => whnf
  refine nd_ H (fun c H => ?_)
  conv => whnf
  refine Nd.mk nf_ ?_
  conv => whnf
  refine El.mk (rdm_en_str _ _ nf_ nf_) ?_
  conv => whnf
  refine cut_ 184 [(0, (sv_str l0)), (1, .int .i64 (wrap64 (x1 - ((rdOf ByteArray.empty l0 x5).size : Int)))), (5, .int .i64 x5), (26, .bool (decide ((wrap64 (x1 - ((rdOf ByteArray.empty l0 x5).size : Int))) < 0)))] [] rfl ⟨.inl rfl, ⟨.inl rfl, ⟨.inl rfl, ⟨.inl rfl, trivial⟩⟩⟩⟩ trivial ?_
  conv => whnf
  refine br_d H (fun c H => ?_) (fun c H => ?_)
  conv => whnf
  injection H with H; subst H
  exact ret_fz [] (rtA_eq rfl)
  conv => whnf
  exact ⟨(k, wrap64 (x1 - ((rdOf ByteArray.empty l0 x5).size : Int)), wrap64 (x5 + 1)), [], ⟨H, lt_⟩, lt_, (fits_of ⟨.inl ⟨rfl, rfl⟩, ⟨.inl ⟨rfl, rfl⟩, trivial⟩⟩ trivial fi_ trivial rfl)⟩
  conv => whnf
  injection H with H; subst H
  exact ret_fz [] (rtA_eq rfl)
theorem laws_szPlantFoe.ac {a0_0 : ByteArray} {a0_1 : ByteArray} {a1 : Int} {r : Int} (H : laws_szPlantFoe.f a0_0 a0_1 a1 = some r) : ACalls Try.prog G 153 [] [.agg [.str a0_0, .str a0_1], .int .i64 a1] [] (.int .i64 r) := by
  refine acalls_of tok hP Try.func153 rfl (by kernel_rfl) [.tmp 4] rfl (by kernel_rfl) (Nat.le_of_ble_eq_true rfl) (.l .n (.l .n (.l (.c .n .n) (.l .n (.l .n (.c .n .n)))))) rfl ?_
  unfold laws_szPlantFoe.f at H
  conv => whnf
  refine cut_ 80 [(1, .int .i64 (wrap64 (a1 - (a0_0.size : Int)))), (2, .bp 0 0), (11, .bool (decide ((wrap64 (a1 - (a0_0.size : Int))) < 0)))] [(0, .box [.str a0_0, .str a0_1])] rfl ⟨.inl rfl, ⟨.inl rfl, ⟨.inl rfl, trivial⟩⟩⟩ ⟨rfl, trivial⟩ ?_
  conv => whnf
  refine br_d H (fun c H => ?_) (fun c H => ?_)
  conv => whnf
  injection H with H; subst H
  exact ret_fz [] (rtA_eq rfl)
  conv => whnf
  refine br_d H (fun c H => ?_) (fun c H => ?_)
  conv => whnf
  injection H with H; subst H
  exact ret_fz [] (rtA_eq rfl)
  conv => whnf
  refine cut_ 160 [(4, .int .i64 (wrap64 ((wrap64 (a1 - (a0_0.size : Int))) - (a0_1.size : Int))))] [] rfl ⟨.inl rfl, trivial⟩ trivial ?_
  conv => whnf
  injection H with H; subst H
  exact ret_fz [] (rtA_eq rfl)
theorem laws_szPlantFoeS.l0_lp {F : (Exit → St → Prop) → St → Prop} {hv : List Tmp} {Q : Exit → St → Prop} {σ : St} {r : Int} {k : Nat} {l0 : List S_laws_PlantFoe} {x1 : Int} {x5 : Int} (H : laws_szPlantFoeS.l0 k l0 x1 x5 = some r) (rn : List (Option Nat)) (h1 : Fits σ σ [] [(1, .int .i64 x1), (5, .int .i64 x5)] [] [] rn)
    (h2 : ∀ (k0 : Nat) (x1 : Int) (x5 : Int), k0 < k + 1 → laws_szPlantFoeS.l0 k0 l0 x1 x5 = some r → headN σ hv [] [(1, .int .i64 x1), (5, .int .i64 x5)] [] [] (F (fun e σ' => match e with | .normal => ∃ (y : Nat × Int × Int) (rn : List (Option Nat)), (laws_szPlantFoeS.l0 y.1 l0 y.2.1 y.2.2 = some r ∧ y.1 < k + 1) ∧ y.1 < k0 ∧ Fits σ σ' [] [(1, .int .i64 y.2.1), (5, .int .i64 y.2.2)] [] [] rn | e => Q e σ'))) : Lp F hv Q σ := by
  unfold Lp
  refine ⟨Nat × Int × Int, fun x => laws_szPlantFoeS.l0 x.1 l0 x.2.1 x.2.2 = some r ∧ x.1 < k + 1, fun x => x.1, [], fun x => [(1, .int .i64 x.2.1), (5, .int .i64 x.2.2)], fun x => [], fun x => [], ⟨(k, x1, x5), rn, ⟨H, Nat.lt_succ_self _⟩, h1⟩, ?_⟩
  rintro ⟨k, x1, x5⟩ ⟨H, hk⟩
  exact h2 k x1 x5 hk H
theorem laws_szPlantFoeS.ac {k : Nat} {l0 : List S_laws_PlantFoe} {a1 : Int} {r : Int} (H : laws_szPlantFoeS.f k l0 a1 = some r) : ACalls Try.prog G 82 [] [(sv_S_laws_PlantFoe l0), .int .i64 a1] [] (.int .i64 r) := by
  refine acalls_of tok hP Try.func82 rfl (by kernel_rfl) [.tmp 4] rfl (by kernel_rfl) (Nat.le_of_ble_eq_true rfl) (.l .n (.l .n (.l .n (.l (.l .n (.l (.c .n .n) (.l (.l .n (.l .n (.l (.c .n .n) .n))) .n))) .n)))) rfl ?_
  unfold laws_szPlantFoeS.f at H
  conv => whnf
  refine br_d H (fun c H => ?_) (fun c H => ?_)
  conv => whnf
  injection H with H; subst H
  exact ret_fz [] (rtA_eq rfl)
  conv => whnf
  refine laws_szPlantFoeS.l0_lp (l0 := l0) (k := k) H [] (fits_of ⟨.inl ⟨rfl, rfl⟩, ⟨.inl ⟨rfl, rfl⟩, trivial⟩⟩ trivial fi_ trivial rfl) ?_
  intro k x1 x5 hk H; rcases k with _ | k; exact none_elim H; rw [laws_szPlantFoeS.l0] at H; conv => whnf
  refine cut_ 104 [(0, (sv_S_laws_PlantFoe l0)), (1, .int .i64 x1), (5, .int .i64 x5), (15, .bool (decide (x5 < (l0.length : Int))))] [] rfl ⟨.inl rfl, ⟨.inl rfl, ⟨.inl rfl, ⟨.inl rfl, trivial⟩⟩⟩⟩ trivial ?_
  conv => whnf
  refine br_d H (fun c H => ?_) (fun c H => ?_)
  conv => whnf
  refine nd_ H (fun c H => ?_)
  conv => whnf
  refine Nd.mk nf_ ?_
  conv => whnf
  refine El.mk (rdm_en_S_laws_PlantFoe _ _ nf_ nf_) ?_
  conv => whnf
  revert H; refine bind_elim (fun t8 A H => ?_)
  refine call_mk (laws_szPlantFoe.ac A) (avAL_cons (avA_agg (avL_cons (av_shut' rfl) (avL_cons (av_shut' rfl) (avL_nil)))) (avAL_cons (avA_shut' rfl) (avAL_nil))) (Or.inl rfl) rfl rfl (Nat.le_of_ble_eq_true rfl) ?_
  conv => whnf
  refine br_d H (fun c H => ?_) (fun c H => ?_)
  conv => whnf
  refine cut_ 184 [(4, .int .i64 (-1))] [] rfl ⟨.inl rfl, trivial⟩ trivial ?_
  conv => whnf
  injection H with H; subst H
  exact ret_fz [] (rtA_eq rfl)
  conv => whnf
  exact ⟨(k, t8, wrap64 (x5 + 1)), [], ⟨H, lt_⟩, lt_, (fits_of ⟨.inl ⟨rfl, rfl⟩, ⟨.inl ⟨rfl, rfl⟩, trivial⟩⟩ trivial fi_ trivial rfl)⟩
  conv => whnf
  injection H with H; subst H
  exact ret_fz [] (rtA_eq rfl)
theorem laws_szPlantPlace.ac {a0_0 : ByteArray} {a0_1 : Int} {a0_2 : ByteArray} {a1 : Int} {r : Int} (H : laws_szPlantPlace.f a0_0 a0_1 a0_2 a1 = some r) : ACalls Try.prog G 154 [] [.agg [.str a0_0, .int .i64 a0_1, .str a0_2], .int .i64 a1] [] (.int .i64 r) := by
  refine acalls_of tok hP Try.func154 rfl (by kernel_rfl) [.tmp 4] rfl (by kernel_rfl) (Nat.le_of_ble_eq_true rfl) (.l .n (.l .n (.l (.c .n .n) (.l .n (.l .n (.c .n .n)))))) rfl ?_
  unfold laws_szPlantPlace.f at H
  conv => whnf
  refine cut_ 80 [(1, .int .i64 (wrap64 (a1 - (a0_0.size : Int)))), (2, .bp 0 0), (11, .bool (decide ((wrap64 (a1 - (a0_0.size : Int))) < 0)))] [(0, .box [.str a0_0, .int .i64 a0_1, .str a0_2])] rfl ⟨.inl rfl, ⟨.inl rfl, ⟨.inl rfl, trivial⟩⟩⟩ ⟨rfl, trivial⟩ ?_
  conv => whnf
  refine br_d H (fun c H => ?_) (fun c H => ?_)
  conv => whnf
  injection H with H; subst H
  exact ret_fz [] (rtA_eq rfl)
  conv => whnf
  refine br_d H (fun c H => ?_) (fun c H => ?_)
  conv => whnf
  injection H with H; subst H
  exact ret_fz [] (rtA_eq rfl)
  conv => whnf
  refine cut_ 160 [(4, .int .i64 (wrap64 ((wrap64 (a1 - (a0_0.size : Int))) - (a0_2.size : Int))))] [] rfl ⟨.inl rfl, trivial⟩ trivial ?_
  conv => whnf
  injection H with H; subst H
  exact ret_fz [] (rtA_eq rfl)
theorem laws_szPlantPlaceS.l0_lp {F : (Exit → St → Prop) → St → Prop} {hv : List Tmp} {Q : Exit → St → Prop} {σ : St} {r : Int} {k : Nat} {l0 : List S_laws_PlantPlace} {x1 : Int} {x5 : Int} (H : laws_szPlantPlaceS.l0 k l0 x1 x5 = some r) (rn : List (Option Nat)) (h1 : Fits σ σ [] [(1, .int .i64 x1), (5, .int .i64 x5)] [] [] rn)
    (h2 : ∀ (k0 : Nat) (x1 : Int) (x5 : Int), k0 < k + 1 → laws_szPlantPlaceS.l0 k0 l0 x1 x5 = some r → headN σ hv [] [(1, .int .i64 x1), (5, .int .i64 x5)] [] [] (F (fun e σ' => match e with | .normal => ∃ (y : Nat × Int × Int) (rn : List (Option Nat)), (laws_szPlantPlaceS.l0 y.1 l0 y.2.1 y.2.2 = some r ∧ y.1 < k + 1) ∧ y.1 < k0 ∧ Fits σ σ' [] [(1, .int .i64 y.2.1), (5, .int .i64 y.2.2)] [] [] rn | e => Q e σ'))) : Lp F hv Q σ := by
  unfold Lp
  refine ⟨Nat × Int × Int, fun x => laws_szPlantPlaceS.l0 x.1 l0 x.2.1 x.2.2 = some r ∧ x.1 < k + 1, fun x => x.1, [], fun x => [(1, .int .i64 x.2.1), (5, .int .i64 x.2.2)], fun x => [], fun x => [], ⟨(k, x1, x5), rn, ⟨H, Nat.lt_succ_self _⟩, h1⟩, ?_⟩
  rintro ⟨k, x1, x5⟩ ⟨H, hk⟩
  exact h2 k x1 x5 hk H
theorem laws_szPlantPlaceS.ac {k : Nat} {l0 : List S_laws_PlantPlace} {a1 : Int} {r : Int} (H : laws_szPlantPlaceS.f k l0 a1 = some r) : ACalls Try.prog G 83 [] [(sv_S_laws_PlantPlace l0), .int .i64 a1] [] (.int .i64 r) := by
  refine acalls_of tok hP Try.func83 rfl (by kernel_rfl) [.tmp 4] rfl (by kernel_rfl) (Nat.le_of_ble_eq_true rfl) (.l .n (.l .n (.l .n (.l (.l .n (.l (.c .n .n) (.l (.l .n (.l .n (.l (.c .n .n) .n))) .n))) .n)))) rfl ?_
  unfold laws_szPlantPlaceS.f at H
  conv => whnf
  refine br_d H (fun c H => ?_) (fun c H => ?_)
  conv => whnf
  injection H with H; subst H
  exact ret_fz [] (rtA_eq rfl)
  conv => whnf
  refine laws_szPlantPlaceS.l0_lp (l0 := l0) (k := k) H [] (fits_of ⟨.inl ⟨rfl, rfl⟩, ⟨.inl ⟨rfl, rfl⟩, trivial⟩⟩ trivial fi_ trivial rfl) ?_
  intro k x1 x5 hk H; rcases k with _ | k; exact none_elim H; rw [laws_szPlantPlaceS.l0] at H; conv => whnf
  refine cut_ 104 [(0, (sv_S_laws_PlantPlace l0)), (1, .int .i64 x1), (5, .int .i64 x5), (15, .bool (decide (x5 < (l0.length : Int))))] [] rfl ⟨.inl rfl, ⟨.inl rfl, ⟨.inl rfl, ⟨.inl rfl, trivial⟩⟩⟩⟩ trivial ?_
  conv => whnf
  refine br_d H (fun c H => ?_) (fun c H => ?_)
  conv => whnf
  refine nd_ H (fun c H => ?_)
  conv => whnf
  refine Nd.mk nf_ ?_
  conv => whnf
  refine El.mk (rdm_en_S_laws_PlantPlace _ _ nf_ nf_) ?_
  conv => whnf
  revert H; refine bind_elim (fun t20 A H => ?_)
  refine call_mk (laws_szPlantPlace.ac A) (avAL_cons (avA_agg (avL_cons (av_shut' rfl) (avL_cons (av_shut' rfl) (avL_cons (av_shut' rfl) (avL_nil))))) (avAL_cons (avA_shut' rfl) (avAL_nil))) (Or.inl rfl) rfl rfl (Nat.le_of_ble_eq_true rfl) ?_
  conv => whnf
  refine br_d H (fun c H => ?_) (fun c H => ?_)
  conv => whnf
  refine cut_ 184 [(4, .int .i64 (-1))] [] rfl ⟨.inl rfl, trivial⟩ trivial ?_
  conv => whnf
  injection H with H; subst H
  exact ret_fz [] (rtA_eq rfl)
  conv => whnf
  exact ⟨(k, t20, wrap64 (x5 + 1)), [], ⟨H, lt_⟩, lt_, (fits_of ⟨.inl ⟨rfl, rfl⟩, ⟨.inl ⟨rfl, rfl⟩, trivial⟩⟩ trivial fi_ trivial rfl)⟩
  conv => whnf
  injection H with H; subst H
  exact ret_fz [] (rtA_eq rfl)
theorem laws_szPlantValve.ac {a0_0 : ByteArray} {a0_1 : ByteArray} {a0_2 : ByteArray} {a0_3 : ByteArray} {a1 : Int} {r : Int} (H : laws_szPlantValve.f a0_0 a0_1 a0_2 a0_3 a1 = some r) : ACalls Try.prog G 155 [] [.agg [.str a0_0, .str a0_1, .str a0_2, .str a0_3], .int .i64 a1] [] (.int .i64 r) := by
  refine acalls_of tok hP Try.func155 rfl (by kernel_rfl) [.tmp 4] rfl (by kernel_rfl) (Nat.le_of_ble_eq_true rfl) (.l .n (.l .n (.l (.c .n .n) (.l .n (.l .n (.c .n (.l .n (.l .n (.l (.c .n .n) .n))))))))) rfl ?_
  unfold laws_szPlantValve.f at H
  conv => whnf
  refine cut_ 80 [(1, .int .i64 (wrap64 (a1 - (a0_0.size : Int)))), (2, .bp 0 0), (11, .bool (decide ((wrap64 (a1 - (a0_0.size : Int))) < 0)))] [(0, .box [.str a0_0, .str a0_1, .str a0_2, .str a0_3])] rfl ⟨.inl rfl, ⟨.inl rfl, ⟨.inl rfl, trivial⟩⟩⟩ ⟨rfl, trivial⟩ ?_
  conv => whnf
  refine br_d H (fun c H => ?_) (fun c H => ?_)
  conv => whnf
  injection H with H; subst H
  exact ret_fz [] (rtA_eq rfl)
  conv => whnf
  refine br_d H (fun c H => ?_) (fun c H => ?_)
  conv => whnf
  injection H with H; subst H
  exact ret_fz [] (rtA_eq rfl)
  conv => whnf
  refine cut_ 192 [(1, .int .i64 (wrap64 ((wrap64 ((wrap64 (a1 - (a0_0.size : Int))) - (a0_1.size : Int))) - (a0_2.size : Int)))), (2, .bp 0 0)] [(0, .box [.str a0_0, .str a0_1, .str a0_2, .str a0_3])] rfl ⟨.inl rfl, ⟨.inl rfl, trivial⟩⟩ ⟨rfl, trivial⟩ ?_
  conv => whnf
  refine br_d H (fun c H => ?_) (fun c H => ?_)
  conv => whnf
  injection H with H; subst H
  exact ret_fz [] (rtA_eq rfl)
  conv => whnf
  refine cut_ 272 [(1, .int .i64 (wrap64 ((wrap64 ((wrap64 ((wrap64 (a1 - (a0_0.size : Int))) - (a0_1.size : Int))) - (a0_2.size : Int))) - (a0_3.size : Int)))), (32, .bool (decide ((wrap64 ((wrap64 ((wrap64 ((wrap64 (a1 - (a0_0.size : Int))) - (a0_1.size : Int))) - (a0_2.size : Int))) - (a0_3.size : Int))) < 0)))] [] rfl ⟨.inl rfl, ⟨.inl rfl, trivial⟩⟩ trivial ?_
  conv => whnf
  refine br_d H (fun c H => ?_) (fun c H => ?_)
  conv => whnf
  injection H with H; subst H
  exact ret_fz [] (rtA_eq rfl)
  conv => whnf
  injection H with H; subst H
  exact ret_fz [] (rtA_eq rfl)
theorem laws_szPlantValveS.l0_lp {F : (Exit → St → Prop) → St → Prop} {hv : List Tmp} {Q : Exit → St → Prop} {σ : St} {r : Int} {k : Nat} {l0 : List S_laws_PlantValve} {x1 : Int} {x5 : Int} (H : laws_szPlantValveS.l0 k l0 x1 x5 = some r) (rn : List (Option Nat)) (h1 : Fits σ σ [] [(1, .int .i64 x1), (5, .int .i64 x5)] [] [] rn)
    (h2 : ∀ (k0 : Nat) (x1 : Int) (x5 : Int), k0 < k + 1 → laws_szPlantValveS.l0 k0 l0 x1 x5 = some r → headN σ hv [] [(1, .int .i64 x1), (5, .int .i64 x5)] [] [] (F (fun e σ' => match e with | .normal => ∃ (y : Nat × Int × Int) (rn : List (Option Nat)), (laws_szPlantValveS.l0 y.1 l0 y.2.1 y.2.2 = some r ∧ y.1 < k + 1) ∧ y.1 < k0 ∧ Fits σ σ' [] [(1, .int .i64 y.2.1), (5, .int .i64 y.2.2)] [] [] rn | e => Q e σ'))) : Lp F hv Q σ := by
  unfold Lp
  refine ⟨Nat × Int × Int, fun x => laws_szPlantValveS.l0 x.1 l0 x.2.1 x.2.2 = some r ∧ x.1 < k + 1, fun x => x.1, [], fun x => [(1, .int .i64 x.2.1), (5, .int .i64 x.2.2)], fun x => [], fun x => [], ⟨(k, x1, x5), rn, ⟨H, Nat.lt_succ_self _⟩, h1⟩, ?_⟩
  rintro ⟨k, x1, x5⟩ ⟨H, hk⟩
  exact h2 k x1 x5 hk H
theorem laws_szPlantValveS.ac {k : Nat} {l0 : List S_laws_PlantValve} {a1 : Int} {r : Int} (H : laws_szPlantValveS.f k l0 a1 = some r) : ACalls Try.prog G 84 [] [(sv_S_laws_PlantValve l0), .int .i64 a1] [] (.int .i64 r) := by
  refine acalls_of tok hP Try.func84 rfl (by kernel_rfl) [.tmp 4] rfl (by kernel_rfl) (Nat.le_of_ble_eq_true rfl) (.l .n (.l .n (.l .n (.l (.l .n (.l (.c .n .n) (.l (.l .n (.l .n (.l (.c .n .n) .n))) .n))) .n)))) rfl ?_
  unfold laws_szPlantValveS.f at H
  conv => whnf
  refine br_d H (fun c H => ?_) (fun c H => ?_)
  conv => whnf
  injection H with H; subst H
  exact ret_fz [] (rtA_eq rfl)
  conv => whnf
  refine laws_szPlantValveS.l0_lp (l0 := l0) (k := k) H [] (fits_of ⟨.inl ⟨rfl, rfl⟩, ⟨.inl ⟨rfl, rfl⟩, trivial⟩⟩ trivial fi_ trivial rfl) ?_
  intro k x1 x5 hk H; rcases k with _ | k; exact none_elim H; rw [laws_szPlantValveS.l0] at H; conv => whnf
  refine cut_ 104 [(0, (sv_S_laws_PlantValve l0)), (1, .int .i64 x1), (5, .int .i64 x5), (15, .bool (decide (x5 < (l0.length : Int))))] [] rfl ⟨.inl rfl, ⟨.inl rfl, ⟨.inl rfl, ⟨.inl rfl, trivial⟩⟩⟩⟩ trivial ?_
  conv => whnf
  refine br_d H (fun c H => ?_) (fun c H => ?_)
  conv => whnf
  refine nd_ H (fun c H => ?_)
  conv => whnf
  refine Nd.mk nf_ ?_
  conv => whnf
  refine El.mk (rdm_en_S_laws_PlantValve _ _ nf_ nf_) ?_
  conv => whnf
  revert H; refine bind_elim (fun t36 A H => ?_)
  refine call_mk (laws_szPlantValve.ac A) (avAL_cons (avA_agg (avL_cons (av_shut' rfl) (avL_cons (av_shut' rfl) (avL_cons (av_shut' rfl) (avL_cons (av_shut' rfl) (avL_nil)))))) (avAL_cons (avA_shut' rfl) (avAL_nil))) (Or.inl rfl) rfl rfl (Nat.le_of_ble_eq_true rfl) ?_
  conv => whnf
  refine br_d H (fun c H => ?_) (fun c H => ?_)
  conv => whnf
  refine cut_ 184 [(4, .int .i64 (-1))] [] rfl ⟨.inl rfl, trivial⟩ trivial ?_
  conv => whnf
  injection H with H; subst H
  exact ret_fz [] (rtA_eq rfl)
  conv => whnf
  exact ⟨(k, t36, wrap64 (x5 + 1)), [], ⟨H, lt_⟩, lt_, (fits_of ⟨.inl ⟨rfl, rfl⟩, ⟨.inl ⟨rfl, rfl⟩, trivial⟩⟩ trivial fi_ trivial rfl)⟩
  conv => whnf
  injection H with H; subst H
  exact ret_fz [] (rtA_eq rfl)
theorem laws_szPlant.ac {k : Nat} {a0_0 : List ByteArray} {a0_1 : List S_laws_PlantFoe} {a0_2 : List S_laws_PlantPlace} {a0_3 : List S_laws_PlantValve} {a1 : Int} {r : Int} (H : laws_szPlant.f k a0_0 a0_1 a0_2 a0_3 a1 = some r) : ACalls Try.prog G 23 [] [.agg [(sv_str a0_0), (sv_S_laws_PlantFoe a0_1), (sv_S_laws_PlantPlace a0_2), (sv_S_laws_PlantValve a0_3)], .int .i64 a1] [] (.int .i64 r) := by
  refine acalls_of tok hP Try.func23 rfl (by kernel_rfl) [.tmp 4] rfl (by kernel_rfl) (Nat.le_of_ble_eq_true rfl) (.l .n (.l .n (.l (.l .n (.l (.c .n .n) .n)) (.c .n (.l .n (.l .n (.l (.l .n (.l (.c .n .n) .n)) (.c .n .n)))))))) rfl ?_
  unfold laws_szPlant.f at H
  conv => whnf
  revert H; refine bind_elim (fun t38 A H => ?_)
  refine call_mk (laws_szStringS.ac A) (avAL_cons (avA_shut' rfl) (avAL_cons (avA_shut' rfl) (avAL_nil))) (Or.inl rfl) rfl rfl (Nat.le_of_ble_eq_true rfl) ?_
  conv => whnf
  refine br_d H (fun c H => ?_) (fun c H => ?_)
  conv => whnf
  refine cut_ 80 [(4, .int .i64 (-1))] [] rfl ⟨.inl rfl, trivial⟩ trivial ?_
  conv => whnf
  injection H with H; subst H
  exact ret_fz [] (rtA_eq rfl)
  conv => whnf
  revert H; refine bind_elim (fun t40 A H => ?_)
  refine call_mk (laws_szPlantFoeS.ac A) (avAL_cons (avA_shut' rfl) (avAL_cons (avA_shut' rfl) (avAL_nil))) (Or.inl rfl) rfl rfl (Nat.le_of_ble_eq_true rfl) ?_
  conv => whnf
  refine cut_ 112 [(1, .int .i64 t40), (2, .bp 0 0)] [(0, .box [(sv_str a0_0), (sv_S_laws_PlantFoe a0_1), (sv_S_laws_PlantPlace a0_2), (sv_S_laws_PlantValve a0_3)])] rfl ⟨.inl rfl, ⟨.inl rfl, trivial⟩⟩ ⟨rfl, trivial⟩ ?_
  conv => whnf
  refine br_d H (fun c H => ?_) (fun c H => ?_)
  conv => whnf
  injection H with H; subst H
  exact ret_fz [] (rtA_eq rfl)
  conv => whnf
  revert H; refine bind_elim (fun t42 A H => ?_)
  refine call_mk (laws_szPlantPlaceS.ac A) (avAL_cons (avA_shut' rfl) (avAL_cons (avA_shut' rfl) (avAL_nil))) (Or.inl rfl) rfl rfl (Nat.le_of_ble_eq_true rfl) ?_
  conv => whnf
  refine br_d H (fun c H => ?_) (fun c H => ?_)
  conv => whnf
  refine cut_ 192 [(4, .int .i64 (-1))] [] rfl ⟨.inl rfl, trivial⟩ trivial ?_
  conv => whnf
  injection H with H; subst H
  exact ret_fz [] (rtA_eq rfl)
  conv => whnf
  revert H; refine bind_elim (fun t44 A H => ?_)
  refine call_mk (laws_szPlantValveS.ac A) (avAL_cons (avA_shut' rfl) (avAL_cons (avA_shut' rfl) (avAL_nil))) (Or.inl rfl) rfl rfl (Nat.le_of_ble_eq_true rfl) ?_
  conv => whnf
  refine cut_ 224 [(1, .int .i64 t44)] [] rfl ⟨.inl rfl, trivial⟩ trivial ?_
  conv => whnf
  refine br_d H (fun c H => ?_) (fun c H => ?_)
  conv => whnf
  injection H with H; subst H
  exact ret_fz [] (rtA_eq rfl)
  conv => whnf
  injection H with H; subst H
  exact ret_fz [] (rtA_eq rfl)
theorem laws_toStringS.l0_lp {F : (Exit → St → Prop) → St → Prop} {hv : List Tmp} {Q : Exit → St → Prop} {σ : St} {r : List ByteArray} {k : Nat} {l0 : List ByteArray} {x3 : List ByteArray} {x4 : Int} (H : laws_toStringS.l0 k l0 x3 x4 = some r) (rn : List (Option Nat)) (h1 : Fits σ σ [24] [(3, .own 0 x3.length), (4, .int .i64 x4)] [] [.arr 9 1 (x3.map en_str)] rn)
    (h2 : ∀ (k0 : Nat) (x3 : List ByteArray) (x4 : Int), k0 < k + 1 → laws_toStringS.l0 k0 l0 x3 x4 = some r → headN σ hv [24] [(3, .own 0 x3.length), (4, .int .i64 x4)] [] [.arr 9 1 (x3.map en_str)] (F (fun e σ' => match e with | .normal => ∃ (y : Nat × (List ByteArray) × Int) (rn : List (Option Nat)), (laws_toStringS.l0 y.1 l0 y.2.1 y.2.2 = some r ∧ y.1 < k + 1) ∧ y.1 < k0 ∧ Fits σ σ' [24] [(3, .own 0 y.2.1.length), (4, .int .i64 y.2.2)] [] [.arr 9 1 (y.2.1.map en_str)] rn | e => Q e σ'))) : Lp F hv Q σ := by
  unfold Lp
  refine ⟨Nat × (List ByteArray) × Int, fun x => laws_toStringS.l0 x.1 l0 x.2.1 x.2.2 = some r ∧ x.1 < k + 1, fun x => x.1, [24], fun x => [(3, .own 0 x.2.1.length), (4, .int .i64 x.2.2)], fun x => [], fun x => [.arr 9 1 (x.2.1.map en_str)], ⟨(k, x3, x4), rn, ⟨H, Nat.lt_succ_self _⟩, h1⟩, ?_⟩
  rintro ⟨k, x3, x4⟩ ⟨H, hk⟩
  exact h2 k x3 x4 hk H
theorem laws_toStringS.ac {k : Nat} {l0 : List ByteArray} {r : List ByteArray} (H : laws_toStringS.f k l0 = some r) : ACalls Try.prog G 27 [] [(sv_str l0)] [] ((sv_str r)) := by
  refine acalls_of tok hP Try.func27 rfl (by kernel_rfl) [.tmp 2] rfl (by kernel_rfl) (Nat.le_of_ble_eq_true rfl) (.l .n (.l .n (.l (.l .n (.l (.c .n .n) .n)) .n))) rfl ?_
  unfold laws_toStringS.f at H
  conv => whnf
  refine Nd.mk (Int.natCast_nonneg _) ?_
  conv => whnf
  refine Nd.mk (Int.le_refl _) ?_
  conv => whnf
  refine nd_ H (fun c H => ?_)
  conv => whnf
  refine laws_toStringS.l0_lp (l0 := l0) (k := k) H [some 24] (fits_of ⟨mt_own lm_, ⟨.inl ⟨rfl, rfl⟩, trivial⟩⟩ ⟨fm_, trivial⟩ fi_ trivial rfl) ?_
  intro k x3 x4 hk H; rcases k with _ | k; exact none_elim H; rw [laws_toStringS.l0] at H; conv => whnf
  refine cut_ 81 [(0, (sv_str l0)), (3, .own 48 x3.length), (4, .int .i64 x4), (11, .bool (decide (x4 < (l0.length : Int))))] [(48, .arr 9 1 (x3.map en_str))] rfl ⟨.inl rfl, ⟨.inl rfl, ⟨.inl rfl, ⟨.inl rfl, trivial⟩⟩⟩⟩ ⟨rfl, trivial⟩ ?_
  conv => whnf
  refine br_d H (fun c H => ?_) (fun c H => ?_)
  conv => whnf
  refine nd_ H (fun c H => ?_)
  conv => whnf
  refine Nd.mk nf_ ?_
  conv => whnf
  refine El.mk (rdm_en_str _ _ nf_ nf_) ?_
  conv => whnf
  refine Nd.mk nf_ ?_
  conv => whnf
  refine nd_ H (fun c H => ?_)
  conv => whnf
  refine El.mk (rdm_en_str _ _ nf_ nf_) ?_
  conv => whnf
  exact ⟨(k, (x3.set (x4).toNat (rdOf ByteArray.empty l0 x4)), wrap64 (x4 + 1)), [some 48], ⟨H, lt_⟩, lt_, (fits_of ⟨mt_own lm_, ⟨.inl ⟨rfl, rfl⟩, trivial⟩⟩ ⟨fm_, trivial⟩ fi_ trivial rfl)⟩
  conv => whnf
  injection H with H; subst H
  exact ret_fz [48] (rtA_fz' rfl rfl)
theorem laws_toStringS.l0_lpO {F : (Exit → St → Prop) → St → Prop} {hv : List Tmp} {Q : Exit → St → Prop} {σ : St} {r : List ByteArray} {k : Nat} {l0 : List ByteArray} {x3 : List ByteArray} {x4 : Int} (H : laws_toStringS.l0 k l0 x3 x4 = some r) (rn : List (Option Nat)) (h1 : Fits σ σ [24] [(3, .own 0 x3.length), (4, .int .i64 x4)] [] [.arr 9 1 (x3.map en_str)] rn)
    (h2 : ∀ (k0 : Nat) (x3 : List ByteArray) (x4 : Int), k0 < k + 1 → laws_toStringS.l0 k0 l0 x3 x4 = some r → headN σ hv [24] [(3, .own 0 x3.length), (4, .int .i64 x4)] [] [.arr 9 1 (x3.map en_str)] (F (fun e σ' => match e with | .normal => ∃ (y : Nat × (List ByteArray) × Int) (rn : List (Option Nat)), (laws_toStringS.l0 y.1 l0 y.2.1 y.2.2 = some r ∧ y.1 < k + 1) ∧ y.1 < k0 ∧ Fits σ σ' [24] [(3, .own 0 y.2.1.length), (4, .int .i64 y.2.2)] [] [.arr 9 1 (y.2.1.map en_str)] rn | e => Q e σ'))) : Lp F hv Q σ := by
  unfold Lp
  refine ⟨Nat × (List ByteArray) × Int, fun x => laws_toStringS.l0 x.1 l0 x.2.1 x.2.2 = some r ∧ x.1 < k + 1, fun x => x.1, [24], fun x => [(3, .own 0 x.2.1.length), (4, .int .i64 x.2.2)], fun x => [], fun x => [.arr 9 1 (x.2.1.map en_str)], ⟨(k, x3, x4), rn, ⟨H, Nat.lt_succ_self _⟩, h1⟩, ?_⟩
  rintro ⟨k, x3, x4⟩ ⟨H, hk⟩
  exact h2 k x3 x4 hk H
theorem laws_toStringS.acO {k : Nat} {l0 : List ByteArray} {r : List ByteArray} (H : laws_toStringS.f k l0 = some r) : ACalls Try.prog G 27 [] [(sv_str l0)] [.arr 9 1 (r.map en_str)] (.own 0 r.length) := by
  refine acalls_of tok hP Try.func27 rfl (by kernel_rfl) [.tmp 2] rfl (by kernel_rfl) (Nat.le_of_ble_eq_true rfl) (.l .n (.l .n (.l (.l .n (.l (.c .n .n) .n)) .n))) rfl ?_
  unfold laws_toStringS.f at H
  conv => whnf
  refine Nd.mk (Int.natCast_nonneg _) ?_
  conv => whnf
  refine Nd.mk (Int.le_refl _) ?_
  conv => whnf
  refine nd_ H (fun c H => ?_)
  conv => whnf
  refine laws_toStringS.l0_lpO (l0 := l0) (k := k) H [some 24] (fits_of ⟨mt_own lm_, ⟨.inl ⟨rfl, rfl⟩, trivial⟩⟩ ⟨fm_, trivial⟩ fi_ trivial rfl) ?_
  intro k x3 x4 hk H; rcases k with _ | k; exact none_elim H; rw [laws_toStringS.l0] at H; conv => whnf
  refine cut_ 81 [(0, (sv_str l0)), (3, .own 48 x3.length), (4, .int .i64 x4), (11, .bool (decide (x4 < (l0.length : Int))))] [(48, .arr 9 1 (x3.map en_str))] rfl ⟨.inl rfl, ⟨.inl rfl, ⟨.inl rfl, ⟨.inl rfl, trivial⟩⟩⟩⟩ ⟨rfl, trivial⟩ ?_
  conv => whnf
  refine br_d H (fun c H => ?_) (fun c H => ?_)
  conv => whnf
  refine nd_ H (fun c H => ?_)
  conv => whnf
  refine Nd.mk nf_ ?_
  conv => whnf
  refine El.mk (rdm_en_str _ _ nf_ nf_) ?_
  conv => whnf
  refine Nd.mk nf_ ?_
  conv => whnf
  refine nd_ H (fun c H => ?_)
  conv => whnf
  refine El.mk (rdm_en_str _ _ nf_ nf_) ?_
  conv => whnf
  exact ⟨(k, (x3.set (x4).toNat (rdOf ByteArray.empty l0 x4)), wrap64 (x4 + 1)), [some 48], ⟨H, lt_⟩, lt_, (fits_of ⟨mt_own lm_, ⟨.inl ⟨rfl, rfl⟩, trivial⟩⟩ ⟨fm_, trivial⟩ fi_ trivial rfl)⟩
  conv => whnf
  injection H with H; subst H
  exact ret_gen [some 48] [] ((rfl)) ⟨rfl, trivial⟩ rfl
theorem laws_toPlantFoe.ac {a0_0 : ByteArray} {a0_1 : ByteArray} {r : ByteArray × ByteArray} (H : laws_toPlantFoe.f a0_0 a0_1 = some r) : ACalls Try.prog G 156 [] [.agg [.str a0_0, .str a0_1]] [] (.agg [.str r.1, .str r.2]) := by
  refine acalls_of tok hP Try.func156 rfl (by kernel_rfl) [.cell 2 168] rfl (by kernel_rfl) (Nat.le_of_ble_eq_true rfl) (.l .n (.l .n (.l .n (.l .n (.c .n .n))))) rfl ?_
  unfold laws_toPlantFoe.f at H
  conv => whnf
  refine cut_ 104 [(2, .bp 8 0)] [(8, .box [.str a0_0, .str a0_1])] rfl ⟨.inl rfl, trivial⟩ ⟨rfl, trivial⟩ ?_
  conv => whnf
  injection H with H; subst H
  exact ret_fz [] (rtA_agg (rtL_cons (rt_eq rfl) (rtL_cons (rt_eq rfl) (rtL_nil))))
theorem laws_toPlantFoeS.l0_lp {F : (Exit → St → Prop) → St → Prop} {hv : List Tmp} {Q : Exit → St → Prop} {σ : St} {r : List S_impl_PlantFoe} {k : Nat} {l0 : List S_laws_PlantFoe} {x3 : List S_impl_PlantFoe} {x4 : Int} (H : laws_toPlantFoeS.l0 k l0 x3 x4 = some r) (rn : List (Option Nat)) (h1 : Fits σ σ [24] [(3, .own 0 x3.length), (4, .int .i64 x4)] [] [.arr 168 2 (x3.map en_S_impl_PlantFoe)] rn)
    (h2 : ∀ (k0 : Nat) (x3 : List S_impl_PlantFoe) (x4 : Int), k0 < k + 1 → laws_toPlantFoeS.l0 k0 l0 x3 x4 = some r → headN σ hv [24] [(3, .own 0 x3.length), (4, .int .i64 x4)] [] [.arr 168 2 (x3.map en_S_impl_PlantFoe)] (F (fun e σ' => match e with | .normal => ∃ (y : Nat × (List S_impl_PlantFoe) × Int) (rn : List (Option Nat)), (laws_toPlantFoeS.l0 y.1 l0 y.2.1 y.2.2 = some r ∧ y.1 < k + 1) ∧ y.1 < k0 ∧ Fits σ σ' [24] [(3, .own 0 y.2.1.length), (4, .int .i64 y.2.2)] [] [.arr 168 2 (y.2.1.map en_S_impl_PlantFoe)] rn | e => Q e σ'))) : Lp F hv Q σ := by
  unfold Lp
  refine ⟨Nat × (List S_impl_PlantFoe) × Int, fun x => laws_toPlantFoeS.l0 x.1 l0 x.2.1 x.2.2 = some r ∧ x.1 < k + 1, fun x => x.1, [24], fun x => [(3, .own 0 x.2.1.length), (4, .int .i64 x.2.2)], fun x => [], fun x => [.arr 168 2 (x.2.1.map en_S_impl_PlantFoe)], ⟨(k, x3, x4), rn, ⟨H, Nat.lt_succ_self _⟩, h1⟩, ?_⟩
  rintro ⟨k, x3, x4⟩ ⟨H, hk⟩
  exact h2 k x3 x4 hk H
theorem laws_toPlantFoeS.ac {k : Nat} {l0 : List S_laws_PlantFoe} {r : List S_impl_PlantFoe} (H : laws_toPlantFoeS.f k l0 = some r) : ACalls Try.prog G 87 [] [(sv_S_laws_PlantFoe l0)] [] ((sv_S_impl_PlantFoe r)) := by
  refine acalls_of tok hP Try.func87 rfl (by kernel_rfl) [.tmp 2] rfl (by kernel_rfl) (Nat.le_of_ble_eq_true rfl) (.l .n (.l .n (.l (.l .n (.l (.c .n .n) .n)) .n))) rfl ?_
  unfold laws_toPlantFoeS.f at H
  conv => whnf
  refine Nd.mk (Int.natCast_nonneg _) ?_
  conv => whnf
  refine Nd.mk (Int.le_refl _) ?_
  conv => whnf
  refine nd_ H (fun c H => ?_)
  conv => whnf
  refine laws_toPlantFoeS.l0_lp (l0 := l0) (k := k) H [some 24] (fits_of ⟨mt_own lm_, ⟨.inl ⟨rfl, rfl⟩, trivial⟩⟩ ⟨fm_, trivial⟩ fi_ trivial rfl) ?_
  intro k x3 x4 hk H; rcases k with _ | k; exact none_elim H; rw [laws_toPlantFoeS.l0] at H; conv => whnf
  refine cut_ 81 [(0, (sv_S_laws_PlantFoe l0)), (3, .own 48 x3.length), (4, .int .i64 x4), (11, .bool (decide (x4 < (l0.length : Int))))] [(48, .arr 168 2 (x3.map en_S_impl_PlantFoe))] rfl ⟨.inl rfl, ⟨.inl rfl, ⟨.inl rfl, ⟨.inl rfl, trivial⟩⟩⟩⟩ ⟨rfl, trivial⟩ ?_
  conv => whnf
  refine br_d H (fun c H => ?_) (fun c H => ?_)
  conv => whnf
  refine nd_ H (fun c H => ?_)
  conv => whnf
  refine Nd.mk nf_ ?_
  conv => whnf
  refine El.mk (rdm_en_S_laws_PlantFoe _ _ nf_ nf_) ?_
  conv => whnf
  revert H; refine bind_elim (fun t69 A H => ?_)
  refine call_mk (laws_toPlantFoe.ac A) (avAL_cons (avA_agg (avL_cons (av_shut' rfl) (avL_cons (av_shut' rfl) (avL_nil)))) (avAL_nil)) (Or.inl rfl) rfl rfl (Nat.le_of_ble_eq_true rfl) ?_
  conv => whnf
  refine Nd.mk nf_ ?_
  conv => whnf
  refine nd_ H (fun c H => ?_)
  conv => whnf
  refine El.mk (rdm_en_S_impl_PlantFoe _ _ nf_ nf_) ?_
  conv => whnf
  exact ⟨(k, (x3.set (x4).toNat (⟨t69.1, t69.2⟩ : S_impl_PlantFoe)), wrap64 (x4 + 1)), [some 48], ⟨H, lt_⟩, lt_, (fits_of ⟨mt_own lm_, ⟨.inl ⟨rfl, rfl⟩, trivial⟩⟩ ⟨fm_, trivial⟩ fi_ trivial rfl)⟩
  conv => whnf
  injection H with H; subst H
  exact ret_fz [48] (rtA_fz' rfl rfl)
theorem laws_toPlantFoeS.l0_lpO {F : (Exit → St → Prop) → St → Prop} {hv : List Tmp} {Q : Exit → St → Prop} {σ : St} {r : List S_impl_PlantFoe} {k : Nat} {l0 : List S_laws_PlantFoe} {x3 : List S_impl_PlantFoe} {x4 : Int} (H : laws_toPlantFoeS.l0 k l0 x3 x4 = some r) (rn : List (Option Nat)) (h1 : Fits σ σ [24] [(3, .own 0 x3.length), (4, .int .i64 x4)] [] [.arr 168 2 (x3.map en_S_impl_PlantFoe)] rn)
    (h2 : ∀ (k0 : Nat) (x3 : List S_impl_PlantFoe) (x4 : Int), k0 < k + 1 → laws_toPlantFoeS.l0 k0 l0 x3 x4 = some r → headN σ hv [24] [(3, .own 0 x3.length), (4, .int .i64 x4)] [] [.arr 168 2 (x3.map en_S_impl_PlantFoe)] (F (fun e σ' => match e with | .normal => ∃ (y : Nat × (List S_impl_PlantFoe) × Int) (rn : List (Option Nat)), (laws_toPlantFoeS.l0 y.1 l0 y.2.1 y.2.2 = some r ∧ y.1 < k + 1) ∧ y.1 < k0 ∧ Fits σ σ' [24] [(3, .own 0 y.2.1.length), (4, .int .i64 y.2.2)] [] [.arr 168 2 (y.2.1.map en_S_impl_PlantFoe)] rn | e => Q e σ'))) : Lp F hv Q σ := by
  unfold Lp
  refine ⟨Nat × (List S_impl_PlantFoe) × Int, fun x => laws_toPlantFoeS.l0 x.1 l0 x.2.1 x.2.2 = some r ∧ x.1 < k + 1, fun x => x.1, [24], fun x => [(3, .own 0 x.2.1.length), (4, .int .i64 x.2.2)], fun x => [], fun x => [.arr 168 2 (x.2.1.map en_S_impl_PlantFoe)], ⟨(k, x3, x4), rn, ⟨H, Nat.lt_succ_self _⟩, h1⟩, ?_⟩
  rintro ⟨k, x3, x4⟩ ⟨H, hk⟩
  exact h2 k x3 x4 hk H
theorem laws_toPlantFoeS.acO {k : Nat} {l0 : List S_laws_PlantFoe} {r : List S_impl_PlantFoe} (H : laws_toPlantFoeS.f k l0 = some r) : ACalls Try.prog G 87 [] [(sv_S_laws_PlantFoe l0)] [.arr 168 2 (r.map en_S_impl_PlantFoe)] (.own 0 r.length) := by
  refine acalls_of tok hP Try.func87 rfl (by kernel_rfl) [.tmp 2] rfl (by kernel_rfl) (Nat.le_of_ble_eq_true rfl) (.l .n (.l .n (.l (.l .n (.l (.c .n .n) .n)) .n))) rfl ?_
  unfold laws_toPlantFoeS.f at H
  conv => whnf
  refine Nd.mk (Int.natCast_nonneg _) ?_
  conv => whnf
  refine Nd.mk (Int.le_refl _) ?_
  conv => whnf
  refine nd_ H (fun c H => ?_)
  conv => whnf
  refine laws_toPlantFoeS.l0_lpO (l0 := l0) (k := k) H [some 24] (fits_of ⟨mt_own lm_, ⟨.inl ⟨rfl, rfl⟩, trivial⟩⟩ ⟨fm_, trivial⟩ fi_ trivial rfl) ?_
  intro k x3 x4 hk H; rcases k with _ | k; exact none_elim H; rw [laws_toPlantFoeS.l0] at H; conv => whnf
  refine cut_ 81 [(0, (sv_S_laws_PlantFoe l0)), (3, .own 48 x3.length), (4, .int .i64 x4), (11, .bool (decide (x4 < (l0.length : Int))))] [(48, .arr 168 2 (x3.map en_S_impl_PlantFoe))] rfl ⟨.inl rfl, ⟨.inl rfl, ⟨.inl rfl, ⟨.inl rfl, trivial⟩⟩⟩⟩ ⟨rfl, trivial⟩ ?_
  conv => whnf
  refine br_d H (fun c H => ?_) (fun c H => ?_)
  conv => whnf
  refine nd_ H (fun c H => ?_)
  conv => whnf
  refine Nd.mk nf_ ?_
  conv => whnf
  refine El.mk (rdm_en_S_laws_PlantFoe _ _ nf_ nf_) ?_
  conv => whnf
  revert H; refine bind_elim (fun t1806 A H => ?_)
  refine call_mk (laws_toPlantFoe.ac A) (avAL_cons (avA_agg (avL_cons (av_shut' rfl) (avL_cons (av_shut' rfl) (avL_nil)))) (avAL_nil)) (Or.inl rfl) rfl rfl (Nat.le_of_ble_eq_true rfl) ?_
  conv => whnf
  refine Nd.mk nf_ ?_
  conv => whnf
  refine nd_ H (fun c H => ?_)
  conv => whnf
  refine El.mk (rdm_en_S_impl_PlantFoe _ _ nf_ nf_) ?_
  conv => whnf
  exact ⟨(k, (x3.set (x4).toNat (⟨t1806.1, t1806.2⟩ : S_impl_PlantFoe)), wrap64 (x4 + 1)), [some 48], ⟨H, lt_⟩, lt_, (fits_of ⟨mt_own lm_, ⟨.inl ⟨rfl, rfl⟩, trivial⟩⟩ ⟨fm_, trivial⟩ fi_ trivial rfl)⟩
  conv => whnf
  injection H with H; subst H
  exact ret_gen [some 48] [] ((rfl)) ⟨rfl, trivial⟩ rfl
theorem laws_toPlantPlace.ac {a0_0 : ByteArray} {a0_1 : Int} {a0_2 : ByteArray} {r : ByteArray × Int × ByteArray} (H : laws_toPlantPlace.f a0_0 a0_1 a0_2 = some r) : ACalls Try.prog G 157 [] [.agg [.str a0_0, .int .i64 a0_1, .str a0_2]] [] (.agg [.str r.1, .int .i64 r.2.1, .str r.2.2]) := by
  refine acalls_of tok hP Try.func157 rfl (by kernel_rfl) [.cell 2 109] rfl (by kernel_rfl) (Nat.le_of_ble_eq_true rfl) (.l .n (.l .n (.l .n (.l .n (.c .n .n))))) rfl ?_
  unfold laws_toPlantPlace.f at H
  conv => whnf
  refine cut_ 120 [(2, .bp 8 0), (3, .bp 16 0)] [(8, .box [.str (⟨#[]⟩ : ByteArray), .int .i64 0, .str (⟨#[]⟩ : ByteArray)]), (16, .box [.str a0_0, .int .i64 a0_1, .str a0_2])] rfl ⟨.inl rfl, ⟨.inl rfl, trivial⟩⟩ ⟨rfl, ⟨rfl, trivial⟩⟩ ?_
  conv => whnf
  injection H with H; subst H
  exact ret_fz [] (rtA_agg (rtL_cons (rt_eq rfl) (rtL_cons (rt_eq rfl) (rtL_cons (rt_eq rfl) (rtL_nil)))))
theorem laws_toPlantPlaceS.l0_lp {F : (Exit → St → Prop) → St → Prop} {hv : List Tmp} {Q : Exit → St → Prop} {σ : St} {r : List S_impl_PlantPlace} {k : Nat} {l0 : List S_laws_PlantPlace} {x3 : List S_impl_PlantPlace} {x4 : Int} (H : laws_toPlantPlaceS.l0 k l0 x3 x4 = some r) (rn : List (Option Nat)) (h1 : Fits σ σ [24] [(3, .own 0 x3.length), (4, .int .i64 x4)] [] [.arr 109 3 (x3.map en_S_impl_PlantPlace)] rn)
    (h2 : ∀ (k0 : Nat) (x3 : List S_impl_PlantPlace) (x4 : Int), k0 < k + 1 → laws_toPlantPlaceS.l0 k0 l0 x3 x4 = some r → headN σ hv [24] [(3, .own 0 x3.length), (4, .int .i64 x4)] [] [.arr 109 3 (x3.map en_S_impl_PlantPlace)] (F (fun e σ' => match e with | .normal => ∃ (y : Nat × (List S_impl_PlantPlace) × Int) (rn : List (Option Nat)), (laws_toPlantPlaceS.l0 y.1 l0 y.2.1 y.2.2 = some r ∧ y.1 < k + 1) ∧ y.1 < k0 ∧ Fits σ σ' [24] [(3, .own 0 y.2.1.length), (4, .int .i64 y.2.2)] [] [.arr 109 3 (y.2.1.map en_S_impl_PlantPlace)] rn | e => Q e σ'))) : Lp F hv Q σ := by
  unfold Lp
  refine ⟨Nat × (List S_impl_PlantPlace) × Int, fun x => laws_toPlantPlaceS.l0 x.1 l0 x.2.1 x.2.2 = some r ∧ x.1 < k + 1, fun x => x.1, [24], fun x => [(3, .own 0 x.2.1.length), (4, .int .i64 x.2.2)], fun x => [], fun x => [.arr 109 3 (x.2.1.map en_S_impl_PlantPlace)], ⟨(k, x3, x4), rn, ⟨H, Nat.lt_succ_self _⟩, h1⟩, ?_⟩
  rintro ⟨k, x3, x4⟩ ⟨H, hk⟩
  exact h2 k x3 x4 hk H
theorem laws_toPlantPlaceS.ac {k : Nat} {l0 : List S_laws_PlantPlace} {r : List S_impl_PlantPlace} (H : laws_toPlantPlaceS.f k l0 = some r) : ACalls Try.prog G 88 [] [(sv_S_laws_PlantPlace l0)] [] ((sv_S_impl_PlantPlace r)) := by
  refine acalls_of tok hP Try.func88 rfl (by kernel_rfl) [.tmp 2] rfl (by kernel_rfl) (Nat.le_of_ble_eq_true rfl) (.l .n (.l .n (.l (.l .n (.l (.c .n .n) .n)) .n))) rfl ?_
  unfold laws_toPlantPlaceS.f at H
  conv => whnf
  refine Nd.mk (Int.natCast_nonneg _) ?_
  conv => whnf
  refine Nd.mk (Int.le_refl _) ?_
  conv => whnf
  refine nd_ H (fun c H => ?_)
  conv => whnf
  refine laws_toPlantPlaceS.l0_lp (l0 := l0) (k := k) H [some 24] (fits_of ⟨mt_own lm_, ⟨.inl ⟨rfl, rfl⟩, trivial⟩⟩ ⟨fm_, trivial⟩ fi_ trivial rfl) ?_
  intro k x3 x4 hk H; rcases k with _ | k; exact none_elim H; rw [laws_toPlantPlaceS.l0] at H; conv => whnf
  refine cut_ 81 [(0, (sv_S_laws_PlantPlace l0)), (3, .own 48 x3.length), (4, .int .i64 x4), (11, .bool (decide (x4 < (l0.length : Int))))] [(48, .arr 109 3 (x3.map en_S_impl_PlantPlace))] rfl ⟨.inl rfl, ⟨.inl rfl, ⟨.inl rfl, ⟨.inl rfl, trivial⟩⟩⟩⟩ ⟨rfl, trivial⟩ ?_
  conv => whnf
  refine br_d H (fun c H => ?_) (fun c H => ?_)
  conv => whnf
  refine nd_ H (fun c H => ?_)
  conv => whnf
  refine Nd.mk nf_ ?_
  conv => whnf
  refine El.mk (rdm_en_S_laws_PlantPlace _ _ nf_ nf_) ?_
  conv => whnf
  revert H; refine bind_elim (fun t90 A H => ?_)
  refine call_mk (laws_toPlantPlace.ac A) (avAL_cons (avA_agg (avL_cons (av_shut' rfl) (avL_cons (av_shut' rfl) (avL_cons (av_shut' rfl) (avL_nil))))) (avAL_nil)) (Or.inl rfl) rfl rfl (Nat.le_of_ble_eq_true rfl) ?_
  conv => whnf
  refine Nd.mk nf_ ?_
  conv => whnf
  refine nd_ H (fun c H => ?_)
  conv => whnf
  refine El.mk (rdm_en_S_impl_PlantPlace _ _ nf_ nf_) ?_
  conv => whnf
  exact ⟨(k, (x3.set (x4).toNat (⟨t90.1, t90.2.1, t90.2.2⟩ : S_impl_PlantPlace)), wrap64 (x4 + 1)), [some 48], ⟨H, lt_⟩, lt_, (fits_of ⟨mt_own lm_, ⟨.inl ⟨rfl, rfl⟩, trivial⟩⟩ ⟨fm_, trivial⟩ fi_ trivial rfl)⟩
  conv => whnf
  injection H with H; subst H
  exact ret_fz [48] (rtA_fz' rfl rfl)
theorem laws_toPlantPlaceS.l0_lpO {F : (Exit → St → Prop) → St → Prop} {hv : List Tmp} {Q : Exit → St → Prop} {σ : St} {r : List S_impl_PlantPlace} {k : Nat} {l0 : List S_laws_PlantPlace} {x3 : List S_impl_PlantPlace} {x4 : Int} (H : laws_toPlantPlaceS.l0 k l0 x3 x4 = some r) (rn : List (Option Nat)) (h1 : Fits σ σ [24] [(3, .own 0 x3.length), (4, .int .i64 x4)] [] [.arr 109 3 (x3.map en_S_impl_PlantPlace)] rn)
    (h2 : ∀ (k0 : Nat) (x3 : List S_impl_PlantPlace) (x4 : Int), k0 < k + 1 → laws_toPlantPlaceS.l0 k0 l0 x3 x4 = some r → headN σ hv [24] [(3, .own 0 x3.length), (4, .int .i64 x4)] [] [.arr 109 3 (x3.map en_S_impl_PlantPlace)] (F (fun e σ' => match e with | .normal => ∃ (y : Nat × (List S_impl_PlantPlace) × Int) (rn : List (Option Nat)), (laws_toPlantPlaceS.l0 y.1 l0 y.2.1 y.2.2 = some r ∧ y.1 < k + 1) ∧ y.1 < k0 ∧ Fits σ σ' [24] [(3, .own 0 y.2.1.length), (4, .int .i64 y.2.2)] [] [.arr 109 3 (y.2.1.map en_S_impl_PlantPlace)] rn | e => Q e σ'))) : Lp F hv Q σ := by
  unfold Lp
  refine ⟨Nat × (List S_impl_PlantPlace) × Int, fun x => laws_toPlantPlaceS.l0 x.1 l0 x.2.1 x.2.2 = some r ∧ x.1 < k + 1, fun x => x.1, [24], fun x => [(3, .own 0 x.2.1.length), (4, .int .i64 x.2.2)], fun x => [], fun x => [.arr 109 3 (x.2.1.map en_S_impl_PlantPlace)], ⟨(k, x3, x4), rn, ⟨H, Nat.lt_succ_self _⟩, h1⟩, ?_⟩
  rintro ⟨k, x3, x4⟩ ⟨H, hk⟩
  exact h2 k x3 x4 hk H
theorem laws_toPlantPlaceS.acO {k : Nat} {l0 : List S_laws_PlantPlace} {r : List S_impl_PlantPlace} (H : laws_toPlantPlaceS.f k l0 = some r) : ACalls Try.prog G 88 [] [(sv_S_laws_PlantPlace l0)] [.arr 109 3 (r.map en_S_impl_PlantPlace)] (.own 0 r.length) := by
  refine acalls_of tok hP Try.func88 rfl (by kernel_rfl) [.tmp 2] rfl (by kernel_rfl) (Nat.le_of_ble_eq_true rfl) (.l .n (.l .n (.l (.l .n (.l (.c .n .n) .n)) .n))) rfl ?_
  unfold laws_toPlantPlaceS.f at H
  conv => whnf
  refine Nd.mk (Int.natCast_nonneg _) ?_
  conv => whnf
  refine Nd.mk (Int.le_refl _) ?_
  conv => whnf
  refine nd_ H (fun c H => ?_)
  conv => whnf
  refine laws_toPlantPlaceS.l0_lpO (l0 := l0) (k := k) H [some 24] (fits_of ⟨mt_own lm_, ⟨.inl ⟨rfl, rfl⟩, trivial⟩⟩ ⟨fm_, trivial⟩ fi_ trivial rfl) ?_
  intro k x3 x4 hk H; rcases k with _ | k; exact none_elim H; rw [laws_toPlantPlaceS.l0] at H; conv => whnf
  refine cut_ 81 [(0, (sv_S_laws_PlantPlace l0)), (3, .own 48 x3.length), (4, .int .i64 x4), (11, .bool (decide (x4 < (l0.length : Int))))] [(48, .arr 109 3 (x3.map en_S_impl_PlantPlace))] rfl ⟨.inl rfl, ⟨.inl rfl, ⟨.inl rfl, ⟨.inl rfl, trivial⟩⟩⟩⟩ ⟨rfl, trivial⟩ ?_
  conv => whnf
  refine br_d H (fun c H => ?_) (fun c H => ?_)
  conv => whnf
  refine nd_ H (fun c H => ?_)
  conv => whnf
  refine Nd.mk nf_ ?_
  conv => whnf
  refine El.mk (rdm_en_S_laws_PlantPlace _ _ nf_ nf_) ?_
  conv => whnf
  revert H; refine bind_elim (fun t1851 A H => ?_)
  refine call_mk (laws_toPlantPlace.ac A) (avAL_cons (avA_agg (avL_cons (av_shut' rfl) (avL_cons (av_shut' rfl) (avL_cons (av_shut' rfl) (avL_nil))))) (avAL_nil)) (Or.inl rfl) rfl rfl (Nat.le_of_ble_eq_true rfl) ?_
  conv => whnf
  refine Nd.mk nf_ ?_
  conv => whnf
  refine nd_ H (fun c H => ?_)
  conv => whnf
  refine El.mk (rdm_en_S_impl_PlantPlace _ _ nf_ nf_) ?_
  conv => whnf
  exact ⟨(k, (x3.set (x4).toNat (⟨t1851.1, t1851.2.1, t1851.2.2⟩ : S_impl_PlantPlace)), wrap64 (x4 + 1)), [some 48], ⟨H, lt_⟩, lt_, (fits_of ⟨mt_own lm_, ⟨.inl ⟨rfl, rfl⟩, trivial⟩⟩ ⟨fm_, trivial⟩ fi_ trivial rfl)⟩
  conv => whnf
  injection H with H; subst H
  exact ret_gen [some 48] [] ((rfl)) ⟨rfl, trivial⟩ rfl
theorem laws_toPlantValve.ac {a0_0 : ByteArray} {a0_1 : ByteArray} {a0_2 : ByteArray} {a0_3 : ByteArray} {r : ByteArray × ByteArray × ByteArray × ByteArray} (H : laws_toPlantValve.f a0_0 a0_1 a0_2 a0_3 = some r) : ACalls Try.prog G 158 [] [.agg [.str a0_0, .str a0_1, .str a0_2, .str a0_3]] [] (.agg [.str r.1, .str r.2.1, .str r.2.2.1, .str r.2.2.2]) := by
  refine acalls_of tok hP Try.func158 rfl (by kernel_rfl) [.cell 2 135] rfl (by kernel_rfl) (Nat.le_of_ble_eq_true rfl) (.l .n (.l .n (.l .n (.l .n (.c .n .n))))) rfl ?_
  unfold laws_toPlantValve.f at H
  conv => whnf
  refine cut_ 120 [(1, .bp 0 0), (2, .bp 8 0), (3, .bp 16 0)] [(0, .box [.str a0_0, .str a0_1, .str a0_2, .str a0_3]), (8, .box [.str (⟨#[]⟩ : ByteArray), .str (⟨#[]⟩ : ByteArray), .str (⟨#[]⟩ : ByteArray), .str (⟨#[]⟩ : ByteArray)]), (16, .box [.str a0_0, .str a0_1, .str a0_2, .str (⟨#[]⟩ : ByteArray)])] rfl ⟨.inl rfl, ⟨.inl rfl, ⟨.inl rfl, trivial⟩⟩⟩ ⟨rfl, ⟨rfl, ⟨rfl, trivial⟩⟩⟩ ?_
  conv => whnf
  injection H with H; subst H
  exact ret_fz [] (rtA_agg (rtL_cons (rt_eq rfl) (rtL_cons (rt_eq rfl) (rtL_cons (rt_eq rfl) (rtL_cons (rt_eq rfl) (rtL_nil))))))
theorem laws_toPlantValveS.l0_lp {F : (Exit → St → Prop) → St → Prop} {hv : List Tmp} {Q : Exit → St → Prop} {σ : St} {r : List S_impl_PlantValve} {k : Nat} {l0 : List S_laws_PlantValve} {x3 : List S_impl_PlantValve} {x4 : Int} (H : laws_toPlantValveS.l0 k l0 x3 x4 = some r) (rn : List (Option Nat)) (h1 : Fits σ σ [24] [(3, .own 0 x3.length), (4, .int .i64 x4)] [] [.arr 135 4 (x3.map en_S_impl_PlantValve)] rn)
    (h2 : ∀ (k0 : Nat) (x3 : List S_impl_PlantValve) (x4 : Int), k0 < k + 1 → laws_toPlantValveS.l0 k0 l0 x3 x4 = some r → headN σ hv [24] [(3, .own 0 x3.length), (4, .int .i64 x4)] [] [.arr 135 4 (x3.map en_S_impl_PlantValve)] (F (fun e σ' => match e with | .normal => ∃ (y : Nat × (List S_impl_PlantValve) × Int) (rn : List (Option Nat)), (laws_toPlantValveS.l0 y.1 l0 y.2.1 y.2.2 = some r ∧ y.1 < k + 1) ∧ y.1 < k0 ∧ Fits σ σ' [24] [(3, .own 0 y.2.1.length), (4, .int .i64 y.2.2)] [] [.arr 135 4 (y.2.1.map en_S_impl_PlantValve)] rn | e => Q e σ'))) : Lp F hv Q σ := by
  unfold Lp
  refine ⟨Nat × (List S_impl_PlantValve) × Int, fun x => laws_toPlantValveS.l0 x.1 l0 x.2.1 x.2.2 = some r ∧ x.1 < k + 1, fun x => x.1, [24], fun x => [(3, .own 0 x.2.1.length), (4, .int .i64 x.2.2)], fun x => [], fun x => [.arr 135 4 (x.2.1.map en_S_impl_PlantValve)], ⟨(k, x3, x4), rn, ⟨H, Nat.lt_succ_self _⟩, h1⟩, ?_⟩
  rintro ⟨k, x3, x4⟩ ⟨H, hk⟩
  exact h2 k x3 x4 hk H
theorem laws_toPlantValveS.ac {k : Nat} {l0 : List S_laws_PlantValve} {r : List S_impl_PlantValve} (H : laws_toPlantValveS.f k l0 = some r) : ACalls Try.prog G 89 [] [(sv_S_laws_PlantValve l0)] [] ((sv_S_impl_PlantValve r)) := by
  refine acalls_of tok hP Try.func89 rfl (by kernel_rfl) [.tmp 2] rfl (by kernel_rfl) (Nat.le_of_ble_eq_true rfl) (.l .n (.l .n (.l (.l .n (.l (.c .n .n) .n)) .n))) rfl ?_
  unfold laws_toPlantValveS.f at H
  conv => whnf
  refine Nd.mk (Int.natCast_nonneg _) ?_
  conv => whnf
  refine Nd.mk (Int.le_refl _) ?_
  conv => whnf
  refine nd_ H (fun c H => ?_)
  conv => whnf
  refine laws_toPlantValveS.l0_lp (l0 := l0) (k := k) H [some 24] (fits_of ⟨mt_own lm_, ⟨.inl ⟨rfl, rfl⟩, trivial⟩⟩ ⟨fm_, trivial⟩ fi_ trivial rfl) ?_
  intro k x3 x4 hk H; rcases k with _ | k; exact none_elim H; rw [laws_toPlantValveS.l0] at H; conv => whnf
  refine cut_ 81 [(0, (sv_S_laws_PlantValve l0)), (3, .own 48 x3.length), (4, .int .i64 x4), (11, .bool (decide (x4 < (l0.length : Int))))] [(48, .arr 135 4 (x3.map en_S_impl_PlantValve))] rfl ⟨.inl rfl, ⟨.inl rfl, ⟨.inl rfl, ⟨.inl rfl, trivial⟩⟩⟩⟩ ⟨rfl, trivial⟩ ?_
  conv => whnf
  refine br_d H (fun c H => ?_) (fun c H => ?_)
  conv => whnf
  refine nd_ H (fun c H => ?_)
  conv => whnf
  refine Nd.mk nf_ ?_
  conv => whnf
  refine El.mk (rdm_en_S_laws_PlantValve _ _ nf_ nf_) ?_
  conv => whnf
  revert H; refine bind_elim (fun t115 A H => ?_)
  refine call_mk (laws_toPlantValve.ac A) (avAL_cons (avA_agg (avL_cons (av_shut' rfl) (avL_cons (av_shut' rfl) (avL_cons (av_shut' rfl) (avL_cons (av_shut' rfl) (avL_nil)))))) (avAL_nil)) (Or.inl rfl) rfl rfl (Nat.le_of_ble_eq_true rfl) ?_
  conv => whnf
  refine Nd.mk nf_ ?_
  conv => whnf
  refine nd_ H (fun c H => ?_)
  conv => whnf
  refine El.mk (rdm_en_S_impl_PlantValve _ _ nf_ nf_) ?_
  conv => whnf
  exact ⟨(k, (x3.set (x4).toNat (⟨t115.1, t115.2.1, t115.2.2.1, t115.2.2.2⟩ : S_impl_PlantValve)), wrap64 (x4 + 1)), [some 48], ⟨H, lt_⟩, lt_, (fits_of ⟨mt_own lm_, ⟨.inl ⟨rfl, rfl⟩, trivial⟩⟩ ⟨fm_, trivial⟩ fi_ trivial rfl)⟩
  conv => whnf
  injection H with H; subst H
  exact ret_fz [48] (rtA_fz' rfl rfl)
theorem laws_toPlantValveS.l0_lpO {F : (Exit → St → Prop) → St → Prop} {hv : List Tmp} {Q : Exit → St → Prop} {σ : St} {r : List S_impl_PlantValve} {k : Nat} {l0 : List S_laws_PlantValve} {x3 : List S_impl_PlantValve} {x4 : Int} (H : laws_toPlantValveS.l0 k l0 x3 x4 = some r) (rn : List (Option Nat)) (h1 : Fits σ σ [24] [(3, .own 0 x3.length), (4, .int .i64 x4)] [] [.arr 135 4 (x3.map en_S_impl_PlantValve)] rn)
    (h2 : ∀ (k0 : Nat) (x3 : List S_impl_PlantValve) (x4 : Int), k0 < k + 1 → laws_toPlantValveS.l0 k0 l0 x3 x4 = some r → headN σ hv [24] [(3, .own 0 x3.length), (4, .int .i64 x4)] [] [.arr 135 4 (x3.map en_S_impl_PlantValve)] (F (fun e σ' => match e with | .normal => ∃ (y : Nat × (List S_impl_PlantValve) × Int) (rn : List (Option Nat)), (laws_toPlantValveS.l0 y.1 l0 y.2.1 y.2.2 = some r ∧ y.1 < k + 1) ∧ y.1 < k0 ∧ Fits σ σ' [24] [(3, .own 0 y.2.1.length), (4, .int .i64 y.2.2)] [] [.arr 135 4 (y.2.1.map en_S_impl_PlantValve)] rn | e => Q e σ'))) : Lp F hv Q σ := by
  unfold Lp
  refine ⟨Nat × (List S_impl_PlantValve) × Int, fun x => laws_toPlantValveS.l0 x.1 l0 x.2.1 x.2.2 = some r ∧ x.1 < k + 1, fun x => x.1, [24], fun x => [(3, .own 0 x.2.1.length), (4, .int .i64 x.2.2)], fun x => [], fun x => [.arr 135 4 (x.2.1.map en_S_impl_PlantValve)], ⟨(k, x3, x4), rn, ⟨H, Nat.lt_succ_self _⟩, h1⟩, ?_⟩
  rintro ⟨k, x3, x4⟩ ⟨H, hk⟩
  exact h2 k x3 x4 hk H
theorem laws_toPlantValveS.acO {k : Nat} {l0 : List S_laws_PlantValve} {r : List S_impl_PlantValve} (H : laws_toPlantValveS.f k l0 = some r) : ACalls Try.prog G 89 [] [(sv_S_laws_PlantValve l0)] [.arr 135 4 (r.map en_S_impl_PlantValve)] (.own 0 r.length) := by
  refine acalls_of tok hP Try.func89 rfl (by kernel_rfl) [.tmp 2] rfl (by kernel_rfl) (Nat.le_of_ble_eq_true rfl) (.l .n (.l .n (.l (.l .n (.l (.c .n .n) .n)) .n))) rfl ?_
  unfold laws_toPlantValveS.f at H
  conv => whnf
  refine Nd.mk (Int.natCast_nonneg _) ?_
  conv => whnf
  refine Nd.mk (Int.le_refl _) ?_
  conv => whnf
  refine nd_ H (fun c H => ?_)
  conv => whnf
  refine laws_toPlantValveS.l0_lpO (l0 := l0) (k := k) H [some 24] (fits_of ⟨mt_own lm_, ⟨.inl ⟨rfl, rfl⟩, trivial⟩⟩ ⟨fm_, trivial⟩ fi_ trivial rfl) ?_
  intro k x3 x4 hk H; rcases k with _ | k; exact none_elim H; rw [laws_toPlantValveS.l0] at H; conv => whnf
  refine cut_ 81 [(0, (sv_S_laws_PlantValve l0)), (3, .own 48 x3.length), (4, .int .i64 x4), (11, .bool (decide (x4 < (l0.length : Int))))] [(48, .arr 135 4 (x3.map en_S_impl_PlantValve))] rfl ⟨.inl rfl, ⟨.inl rfl, ⟨.inl rfl, ⟨.inl rfl, trivial⟩⟩⟩⟩ ⟨rfl, trivial⟩ ?_
  conv => whnf
  refine br_d H (fun c H => ?_) (fun c H => ?_)
  conv => whnf
  refine nd_ H (fun c H => ?_)
  conv => whnf
  refine Nd.mk nf_ ?_
  conv => whnf
  refine El.mk (rdm_en_S_laws_PlantValve _ _ nf_ nf_) ?_
  conv => whnf
  revert H; refine bind_elim (fun t1898 A H => ?_)
  refine call_mk (laws_toPlantValve.ac A) (avAL_cons (avA_agg (avL_cons (av_shut' rfl) (avL_cons (av_shut' rfl) (avL_cons (av_shut' rfl) (avL_cons (av_shut' rfl) (avL_nil)))))) (avAL_nil)) (Or.inl rfl) rfl rfl (Nat.le_of_ble_eq_true rfl) ?_
  conv => whnf
  refine Nd.mk nf_ ?_
  conv => whnf
  refine nd_ H (fun c H => ?_)
  conv => whnf
  refine El.mk (rdm_en_S_impl_PlantValve _ _ nf_ nf_) ?_
  conv => whnf
  exact ⟨(k, (x3.set (x4).toNat (⟨t1898.1, t1898.2.1, t1898.2.2.1, t1898.2.2.2⟩ : S_impl_PlantValve)), wrap64 (x4 + 1)), [some 48], ⟨H, lt_⟩, lt_, (fits_of ⟨mt_own lm_, ⟨.inl ⟨rfl, rfl⟩, trivial⟩⟩ ⟨fm_, trivial⟩ fi_ trivial rfl)⟩
  conv => whnf
  injection H with H; subst H
  exact ret_gen [some 48] [] ((rfl)) ⟨rfl, trivial⟩ rfl
theorem laws_toPlant.ac {k : Nat} {a0_0 : List ByteArray} {a0_1 : List S_laws_PlantFoe} {a0_2 : List S_laws_PlantPlace} {a0_3 : List S_laws_PlantValve} {r : (List ByteArray) × (List S_impl_PlantFoe) × (List S_impl_PlantPlace) × (List S_impl_PlantValve)} (H : laws_toPlant.f k a0_0 a0_1 a0_2 a0_3 = some r) : ACalls Try.prog G 26 [] [.agg [(sv_str a0_0), (sv_S_laws_PlantFoe a0_1), (sv_S_laws_PlantPlace a0_2), (sv_S_laws_PlantValve a0_3)]] [] (.agg [(sv_str r.1), (sv_S_impl_PlantFoe r.2.1), (sv_S_impl_PlantPlace r.2.2.1), (sv_S_impl_PlantValve r.2.2.2)]) := by
  refine acalls_of tok hP Try.func26 rfl (by kernel_rfl) [.cell 2 44] rfl (by kernel_rfl) (Nat.le_of_ble_eq_true rfl) (.l .n (.l .n (.l .n (.c .n .n)))) rfl ?_
  unfold laws_toPlant.f at H
  conv => whnf
  revert H; refine bind_elim (fun t1900 A H => ?_)
  refine call_mk (laws_toStringS.ac A) (avAL_cons (avA_shut' rfl) (avAL_nil)) (Or.inl rfl) rfl rfl (Nat.le_of_ble_eq_true rfl) ?_
  conv => whnf
  revert H; refine bind_elim (fun t1902 A H => ?_)
  refine call_mk (laws_toPlantFoeS.ac A) (avAL_cons (avA_shut' rfl) (avAL_nil)) (Or.inl rfl) rfl rfl (Nat.le_of_ble_eq_true rfl) ?_
  conv => whnf
  refine cut_ 104 [(1, .bp 0 0), (2, .bp 8 0), (3, .bp 16 0)] [(0, .box [(sv_str a0_0), (sv_S_laws_PlantFoe a0_1), (sv_S_laws_PlantPlace a0_2), (sv_S_laws_PlantValve a0_3)]), (8, .box [.nil, .nil, .nil, .nil]), (16, .box [(sv_str t1900), (sv_S_impl_PlantFoe t1902), .nil, .nil])] rfl ⟨.inl rfl, ⟨.inl rfl, ⟨.inl rfl, trivial⟩⟩⟩ ⟨rfl, ⟨rfl, ⟨rfl, trivial⟩⟩⟩ ?_
  conv => whnf
  revert H; refine bind_elim (fun t1904 A H => ?_)
  refine call_mk (laws_toPlantPlaceS.ac A) (avAL_cons (avA_shut' rfl) (avAL_nil)) (Or.inl rfl) rfl rfl (Nat.le_of_ble_eq_true rfl) ?_
  conv => whnf
  revert H; refine bind_elim (fun t1906 A H => ?_)
  refine call_mk (laws_toPlantValveS.ac A) (avAL_cons (avA_shut' rfl) (avAL_nil)) (Or.inl rfl) rfl rfl (Nat.le_of_ble_eq_true rfl) ?_
  conv => whnf
  injection H with H; subst H
  exact ret_fz [] (rtA_agg (rtL_cons (rt_eq rfl) (rtL_cons (rt_eq rfl) (rtL_cons (rt_eq rfl) (rtL_cons (rt_eq rfl) (rtL_nil))))))
theorem laws_toPlant.acO {k : Nat} {a0_0 : List ByteArray} {a0_1 : List S_laws_PlantFoe} {a0_2 : List S_laws_PlantPlace} {a0_3 : List S_laws_PlantValve} {r : (List ByteArray) × (List S_impl_PlantFoe) × (List S_impl_PlantPlace) × (List S_impl_PlantValve)} (H : laws_toPlant.f k a0_0 a0_1 a0_2 a0_3 = some r) : ACalls Try.prog G 26 [] [.agg [(sv_str a0_0), (sv_S_laws_PlantFoe a0_1), (sv_S_laws_PlantPlace a0_2), (sv_S_laws_PlantValve a0_3)]] [.arr 9 1 (r.1.map en_str), .arr 168 2 (r.2.1.map en_S_impl_PlantFoe), .arr 109 3 (r.2.2.1.map en_S_impl_PlantPlace), .arr 135 4 (r.2.2.2.map en_S_impl_PlantValve)] (.agg [.own 0 r.1.length, .own 1 r.2.1.length, .own 2 r.2.2.1.length, .own 3 r.2.2.2.length]) := by
  refine acalls_of tok hP Try.func26 rfl (by kernel_rfl) [.cell 2 44] rfl (by kernel_rfl) (Nat.le_of_ble_eq_true rfl) (.l .n (.l .n (.l .n (.c .n .n)))) rfl ?_
  unfold laws_toPlant.f at H
  conv => whnf
  revert H; refine bind_elim (fun t1908 A H => ?_)
  refine call_mk (laws_toStringS.acO A) (avAL_cons (avA_shut' rfl) (avAL_nil)) (Or.inl rfl) rfl rfl (Nat.le_of_ble_eq_true rfl) ?_
  conv => whnf
  revert H; refine bind_elim (fun t1910 A H => ?_)
  refine call_mk (laws_toPlantFoeS.acO A) (avAL_cons (avA_shut' rfl) (avAL_nil)) (Or.inl rfl) rfl rfl (Nat.le_of_ble_eq_true rfl) ?_
  conv => whnf
  refine cut_ 104 [(1, .bp 0 0), (2, .bp 8 0), (3, .bp 16 0)] [(0, .box [(sv_str a0_0), (sv_S_laws_PlantFoe a0_1), (sv_S_laws_PlantPlace a0_2), (sv_S_laws_PlantValve a0_3)]), (8, .box [.nil, .nil, .nil, .nil]), (16, .box [.own 40 t1908.length, .own 80 t1910.length, .nil, .nil]), (40, .arr 9 1 (t1908.map en_str)), (80, .arr 168 2 (t1910.map en_S_impl_PlantFoe))] rfl ⟨.inl rfl, ⟨.inl rfl, ⟨.inl rfl, trivial⟩⟩⟩ ⟨rfl, ⟨rfl, ⟨rfl, ⟨rfl, ⟨rfl, trivial⟩⟩⟩⟩⟩ ?_
  conv => whnf
  revert H; refine bind_elim (fun t1912 A H => ?_)
  refine call_mk (laws_toPlantPlaceS.acO A) (avAL_cons (avA_shut' rfl) (avAL_nil)) (Or.inl rfl) rfl rfl (Nat.le_of_ble_eq_true rfl) ?_
  conv => whnf
  revert H; refine bind_elim (fun t1914 A H => ?_)
  refine call_mk (laws_toPlantValveS.acO A) (avAL_cons (avA_shut' rfl) (avAL_nil)) (Or.inl rfl) rfl rfl (Nat.le_of_ble_eq_true rfl) ?_
  conv => whnf
  injection H with H; subst H
  exact ret_gen [some 40, some 80, some 120, some 160] [] ((rtA_agg (rtL_cons (rfl) (rtL_cons (rfl) (rtL_cons (rfl) (rtL_cons (rfl) (rtL_nil))))))) ⟨rfl, ⟨rfl, ⟨rfl, ⟨rfl, trivial⟩⟩⟩⟩ rfl
theorem spec_l1In.ac {a0 : Int} {a1 : Int} {a2 : Int} {r : Bool} (H : spec_l1In.f a0 a1 a2 = some r) : ACalls Try.prog G 186 [] [.int .i64 a0, .int .i64 a1, .int .i64 a2] [] (.bool r) := by
  refine acalls_of tok hP Try.func186 rfl (by kernel_rfl) [.tmp 6] rfl (by kernel_rfl) (Nat.le_of_ble_eq_true rfl) (.l .n (.c .n .n)) rfl ?_
  unfold spec_l1In.f at H
  conv => whnf
  refine br_d H (fun c H => ?_) (fun c H => ?_)
  conv => whnf
  refine Br.t ft_ ?_
  conv => whnf
  refine Br.t ft_ ?_
  conv => whnf
  refine Br.t ft_ ?_
  conv => whnf
  refine cut_ 80 [(6, .bool (decide (a0 ≤ a2)))] [] rfl ⟨.inl rfl, trivial⟩ trivial ?_
  conv => whnf
  injection H with H; subst H
  exact ret_fz [] (rtA_eq rfl)
  conv => whnf
  refine Br.f ff_ ?_
  conv => whnf
  refine Br.f ff_ ?_
  conv => whnf
  refine Br.f ff_ ?_
  conv => whnf
  refine cut_ 80 [(6, .bool false)] [] rfl ⟨.inl rfl, trivial⟩ trivial ?_
  conv => whnf
  injection H with H; subst H
  exact ret_fz [] (rtA_eq rfl)
theorem spec_l2NameOk.l0_lp {F : (Exit → St → Prop) → St → Prop} {hv : List Tmp} {Q : Exit → St → Prop} {σ : St} {r : Bool} {k : Nat} {a0 : ByteArray} {x3 : Int} (H : spec_l2NameOk.l0 k a0 x3 = some r) (rn : List (Option Nat)) (h1 : Fits σ σ [] [(3, .int .i64 x3)] [] [] rn)
    (h2 : ∀ (k0 : Nat) (x3 : Int), k0 < k + 1 → spec_l2NameOk.l0 k0 a0 x3 = some r → headN σ hv [] [(3, .int .i64 x3)] [] [] (F (fun e σ' => match e with | .normal => ∃ (y : Nat × Int) (rn : List (Option Nat)), (spec_l2NameOk.l0 y.1 a0 y.2 = some r ∧ y.1 < k + 1) ∧ y.1 < k0 ∧ Fits σ σ' [] [(3, .int .i64 y.2)] [] [] rn | e => Q e σ'))) : Lp F hv Q σ := by
  unfold Lp
  refine ⟨Nat × Int, fun x => spec_l2NameOk.l0 x.1 a0 x.2 = some r ∧ x.1 < k + 1, fun x => x.1, [], fun x => [(3, .int .i64 x.2)], fun x => [], fun x => [], ⟨(k, x3), rn, ⟨H, Nat.lt_succ_self _⟩, h1⟩, ?_⟩
  rintro ⟨k, x3⟩ ⟨H, hk⟩
  exact h2 k x3 hk H
theorem spec_l2NameOk.ac {k : Nat} {a0 : ByteArray} {r : Bool} (H : spec_l2NameOk.f k a0 = some r) : ACalls Try.prog G 184 [] [.str a0] [] (.bool r) := by
  refine acalls_of tok hP Try.func184 rfl (by kernel_rfl) [.tmp 2] rfl (by kernel_rfl) (Nat.le_of_ble_eq_true rfl) (.l .n (.l .n (.l (.l .n (.l (.c .n .n) (.l (.l .n (.c .n .n)) .n))) .n))) rfl ?_
  unfold spec_l2NameOk.f at H
  conv => whnf
  revert H; refine bind_elim (fun t156 A H => ?_)
  refine call_mk (spec_l1In.ac A) (avAL_cons (avA_shut' rfl) (avAL_cons (avA_shut' rfl) (avAL_cons (avA_shut' rfl) (avAL_nil)))) (Or.inl rfl) rfl rfl (Nat.le_of_ble_eq_true rfl) ?_
  conv => whnf
  refine br_nt H (fun c H => ?_) (fun c H => ?_)
  conv => whnf
  refine spec_l2NameOk.l0_lp (a0 := a0) (k := k) H [] (fits_of ⟨.inl ⟨rfl, rfl⟩, trivial⟩ trivial fi_ trivial rfl) ?_
  intro k x3 hk H; rcases k with _ | k; exact none_elim H; rw [spec_l2NameOk.l0] at H; conv => whnf
  refine cut_ 80 [(0, .str a0), (3, .int .i64 x3), (12, .bool (decide (x3 < (a0.size : Int))))] [] rfl ⟨.inl rfl, ⟨.inl rfl, ⟨.inl rfl, trivial⟩⟩⟩ trivial ?_
  conv => whnf
  refine br_d H (fun c H => ?_) (fun c H => ?_)
  conv => whnf
  refine nd_ H (fun c H => ?_)
  conv => whnf
  refine Nd.mk nf_ ?_
  conv => whnf
  refine br_d H (fun c H => ?_) (fun c H => ?_)
  conv => whnf
  refine Br.t ft_ ?_
  conv => whnf
  refine Br.t ft_ ?_
  conv => whnf
  refine br_d H (fun c H => ?_) (fun c H => ?_)
  conv => whnf
  refine Br.t ft_ ?_
  conv => whnf
  refine Br.t ft_ ?_
  conv => whnf
  refine Br.t ft_ ?_
  conv => whnf
  refine Br.t ft_ ?_
  conv => whnf
  refine Br.t rfl ?_
  conv => whnf
  refine Br.t rfl ?_
  conv => whnf
  refine Br.t rfl ?_
  conv => whnf
  refine cut_ 264 [(0, .str a0), (3, .int .i64 x3), (36, .bool (!true))] [] rfl ⟨.inl rfl, ⟨.inl rfl, ⟨.inl rfl, trivial⟩⟩⟩ trivial ?_
  conv => whnf
  refine Br.f rfl ?_
  conv => whnf
  exact ⟨(k, wrap64 (x3 + 1)), [], ⟨H, lt_⟩, lt_, (fits_of ⟨.inl ⟨rfl, rfl⟩, trivial⟩ trivial fi_ trivial rfl)⟩
  conv => whnf
  refine Br.f ff_ ?_
  conv => whnf
  refine Br.f ff_ ?_
  conv => whnf
  refine br_d H (fun c H => ?_) (fun c H => ?_)
  conv => whnf
  refine Br.t ft_ ?_
  conv => whnf
  refine Br.f ff_ ?_
  conv => whnf
  refine Br.t ft_ ?_
  conv => whnf
  refine Br.f ff_ ?_
  conv => whnf
  refine br_d H (fun c H => ?_) (fun c H => ?_)
  conv => whnf
  refine Br.t ft_ ?_
  conv => whnf
  refine Br.t ft_ ?_
  conv => whnf
  refine cut_ 264 [(0, .str a0), (3, .int .i64 x3), (36, .bool (!true))] [] rfl ⟨.inl rfl, ⟨.inl rfl, ⟨.inl rfl, trivial⟩⟩⟩ trivial ?_
  conv => whnf
  refine Br.f rfl ?_
  conv => whnf
  exact ⟨(k, wrap64 (x3 + 1)), [], ⟨H, lt_⟩, lt_, (fits_of ⟨.inl ⟨rfl, rfl⟩, trivial⟩ trivial fi_ trivial rfl)⟩
  conv => whnf
  refine Br.f ff_ ?_
  conv => whnf
  refine Br.f ff_ ?_
  conv => whnf
  refine cut_ 264 [(0, .str a0), (3, .int .i64 x3), (36, .bool (!(decide ((bt a0 x3) = 45))))] [] rfl ⟨.inl rfl, ⟨.inl rfl, ⟨.inl rfl, trivial⟩⟩⟩ trivial ?_
  conv => whnf
  refine br_nd H (fun c H => ?_) (fun c H => ?_)
  conv => whnf
  exact ⟨(k, wrap64 (x3 + 1)), [], ⟨H, lt_⟩, lt_, (fits_of ⟨.inl ⟨rfl, rfl⟩, trivial⟩ trivial fi_ trivial rfl)⟩
  conv => whnf
  injection H with H; subst H
  exact ret_fz [] (rtA_eq rfl)
  conv => whnf
  refine Br.f ff_ ?_
  conv => whnf
  refine Br.f ff_ ?_
  conv => whnf
  refine Br.f ff_ ?_
  conv => whnf
  refine Br.f ff_ ?_
  conv => whnf
  refine Br.f rfl ?_
  conv => whnf
  refine Br.f rfl ?_
  conv => whnf
  refine Br.f rfl ?_
  conv => whnf
  refine cut_ 264 [(0, .str a0), (3, .int .i64 x3), (36, .bool (!(decide ((bt a0 x3) = 45))))] [] rfl ⟨.inl rfl, ⟨.inl rfl, ⟨.inl rfl, trivial⟩⟩⟩ trivial ?_
  conv => whnf
  refine br_nd H (fun c H => ?_) (fun c H => ?_)
  conv => whnf
  exact ⟨(k, wrap64 (x3 + 1)), [], ⟨H, lt_⟩, lt_, (fits_of ⟨.inl ⟨rfl, rfl⟩, trivial⟩ trivial fi_ trivial rfl)⟩
  conv => whnf
  injection H with H; subst H
  exact ret_fz [] (rtA_eq rfl)
  conv => whnf
  refine Br.f ff_ ?_
  conv => whnf
  refine Br.f ff_ ?_
  conv => whnf
  refine Br.f rfl ?_
  conv => whnf
  refine Br.f rfl ?_
  conv => whnf
  refine Br.f rfl ?_
  conv => whnf
  refine br_d H (fun c H => ?_) (fun c H => ?_)
  conv => whnf
  refine Br.t ft_ ?_
  conv => whnf
  refine Br.f rfl ?_
  conv => whnf
  refine Br.t ft_ ?_
  conv => whnf
  refine Br.f rfl ?_
  conv => whnf
  refine br_d H (fun c H => ?_) (fun c H => ?_)
  conv => whnf
  refine Br.t ft_ ?_
  conv => whnf
  refine Br.t ft_ ?_
  conv => whnf
  refine cut_ 264 [(0, .str a0), (3, .int .i64 x3), (36, .bool (!true))] [] rfl ⟨.inl rfl, ⟨.inl rfl, ⟨.inl rfl, trivial⟩⟩⟩ trivial ?_
  conv => whnf
  refine Br.f rfl ?_
  conv => whnf
  exact ⟨(k, wrap64 (x3 + 1)), [], ⟨H, lt_⟩, lt_, (fits_of ⟨.inl ⟨rfl, rfl⟩, trivial⟩ trivial fi_ trivial rfl)⟩
  conv => whnf
  refine Br.f ff_ ?_
  conv => whnf
  refine Br.f ff_ ?_
  conv => whnf
  refine cut_ 264 [(0, .str a0), (3, .int .i64 x3), (36, .bool (!(decide ((bt a0 x3) = 45))))] [] rfl ⟨.inl rfl, ⟨.inl rfl, ⟨.inl rfl, trivial⟩⟩⟩ trivial ?_
  conv => whnf
  refine br_nd H (fun c H => ?_) (fun c H => ?_)
  conv => whnf
  exact ⟨(k, wrap64 (x3 + 1)), [], ⟨H, lt_⟩, lt_, (fits_of ⟨.inl ⟨rfl, rfl⟩, trivial⟩ trivial fi_ trivial rfl)⟩
  conv => whnf
  injection H with H; subst H
  exact ret_fz [] (rtA_eq rfl)
  conv => whnf
  refine Br.f ff_ ?_
  conv => whnf
  refine Br.f rfl ?_
  conv => whnf
  refine Br.f ff_ ?_
  conv => whnf
  refine Br.f rfl ?_
  conv => whnf
  refine Br.f rfl ?_
  conv => whnf
  refine Br.f rfl ?_
  conv => whnf
  refine Br.f rfl ?_
  conv => whnf
  refine cut_ 264 [(0, .str a0), (3, .int .i64 x3), (36, .bool (!(decide ((bt a0 x3) = 45))))] [] rfl ⟨.inl rfl, ⟨.inl rfl, ⟨.inl rfl, trivial⟩⟩⟩ trivial ?_
  conv => whnf
  refine br_nd H (fun c H => ?_) (fun c H => ?_)
  conv => whnf
  exact ⟨(k, wrap64 (x3 + 1)), [], ⟨H, lt_⟩, lt_, (fits_of ⟨.inl ⟨rfl, rfl⟩, trivial⟩ trivial fi_ trivial rfl)⟩
  conv => whnf
  injection H with H; subst H
  exact ret_fz [] (rtA_eq rfl)
  conv => whnf
  injection H with H; subst H
  exact ret_fz [] (rtA_eq rfl)
  conv => whnf
  injection H with H; subst H
  exact ret_fz [] (rtA_eq rfl)
theorem spec_l2Has.l0_lp {F : (Exit → St → Prop) → St → Prop} {hv : List Tmp} {Q : Exit → St → Prop} {σ : St} {r : Bool} {k : Nat} {l0 : List ByteArray} {a1 : ByteArray} {x5 : Int} (H : spec_l2Has.l0 k l0 a1 x5 = some r) (rn : List (Option Nat)) (h1 : Fits σ σ [] [(5, .int .i64 x5)] [] [] rn)
    (h2 : ∀ (k0 : Nat) (x5 : Int), k0 < k + 1 → spec_l2Has.l0 k0 l0 a1 x5 = some r → headN σ hv [] [(5, .int .i64 x5)] [] [] (F (fun e σ' => match e with | .normal => ∃ (y : Nat × Int) (rn : List (Option Nat)), (spec_l2Has.l0 y.1 l0 a1 y.2 = some r ∧ y.1 < k + 1) ∧ y.1 < k0 ∧ Fits σ σ' [] [(5, .int .i64 y.2)] [] [] rn | e => Q e σ'))) : Lp F hv Q σ := by
  unfold Lp
  refine ⟨Nat × Int, fun x => spec_l2Has.l0 x.1 l0 a1 x.2 = some r ∧ x.1 < k + 1, fun x => x.1, [], fun x => [(5, .int .i64 x.2)], fun x => [], fun x => [], ⟨(k, x5), rn, ⟨H, Nat.lt_succ_self _⟩, h1⟩, ?_⟩
  rintro ⟨k, x5⟩ ⟨H, hk⟩
  exact h2 k x5 hk H
theorem spec_l2Has.ac {k : Nat} {l0 : List ByteArray} {a1 : ByteArray} {r : Bool} (H : spec_l2Has.f k l0 a1 = some r) : ACalls Try.prog G 99 [] [(sv_str l0), .str a1] [] (.bool r) := by
  refine acalls_of tok hP Try.func99 rfl (by kernel_rfl) [.tmp 4] rfl (by kernel_rfl) (Nat.le_of_ble_eq_true rfl) (.l .n (.l (.l .n (.l .n (.l (.c .n .n) .n))) .n)) rfl ?_
  unfold spec_l2Has.f at H
  conv => whnf
  refine spec_l2Has.l0_lp (l0 := l0) (a1 := a1) (k := k) H [] (fits_of ⟨.inl ⟨rfl, rfl⟩, trivial⟩ trivial fi_ trivial rfl) ?_
  intro k x5 hk H; rcases k with _ | k; exact none_elim H; rw [spec_l2Has.l0] at H; conv => whnf
  refine br_d H (fun c H => ?_) (fun c H => ?_)
  conv => whnf
  refine nd_ H (fun c H => ?_)
  conv => whnf
  refine Nd.mk nf_ ?_
  conv => whnf
  refine El.mk (rdm_en_str _ _ nf_ nf_) ?_
  conv => whnf
  refine cut_ 96 [(0, (sv_str l0)), (1, .str a1), (5, .int .i64 x5), (17, .bool (decide ((rdOf ByteArray.empty l0 x5).toList = a1.toList)))] [] rfl ⟨.inl rfl, ⟨.inl rfl, ⟨.inl rfl, ⟨.inl rfl, trivial⟩⟩⟩⟩ trivial ?_
  conv => whnf
  refine br_d H (fun c H => ?_) (fun c H => ?_)
  conv => whnf
  injection H with H; subst H
  exact ret_fz [] (rtA_eq rfl)
  conv => whnf
  exact ⟨(k, wrap64 (x5 + 1)), [], ⟨H, lt_⟩, lt_, (fits_of ⟨.inl ⟨rfl, rfl⟩, trivial⟩ trivial fi_ trivial rfl)⟩
  conv => whnf
  injection H with H; subst H
  exact ret_fz [] (rtA_eq rfl)
theorem spec_l2Before.ac {a0_0 : ByteArray} {a0_1 : ByteArray} {a1_0 : ByteArray} {a1_1 : ByteArray} {r : Bool} (H : spec_l2Before.f a0_0 a0_1 a1_0 a1_1 = some r) : ACalls Try.prog G 185 [] [.agg [.str a0_0, .str a0_1], .agg [.str a1_0, .str a1_1]] [] (.bool r) := by
  refine acalls_of tok hP Try.func185 rfl (by kernel_rfl) [.tmp 4] rfl (by kernel_rfl) (Nat.le_of_ble_eq_true rfl) (.l .n (.c .n .n)) rfl ?_
  unfold spec_l2Before.f at H
  conv => whnf
  refine br_t H (fun c H => ?_) (fun c H => ?_)
  conv => whnf
  refine Br.t ft_ ?_
  conv => whnf
  refine Br.t ft_ ?_
  conv => whnf
  refine Br.t ft_ ?_
  conv => whnf
  refine Br.t ft_ ?_
  conv => whnf
  refine Br.t ft_ ?_
  conv => whnf
  refine Br.t ft_ ?_
  conv => whnf
  refine Br.t ft_ ?_
  conv => whnf
  refine cut_ 184 [(4, .bool true)] [] rfl ⟨.inl rfl, trivial⟩ trivial ?_
  conv => whnf
  injection H with H; subst H
  exact ret_fz [] (rtA_eq rfl)
  conv => whnf
  refine Br.f ff_ ?_
  conv => whnf
  refine Br.f ff_ ?_
  conv => whnf
  refine Br.f ff_ ?_
  conv => whnf
  refine Br.f ff_ ?_
  conv => whnf
  refine Br.f ff_ ?_
  conv => whnf
  refine br_d H (fun c H => ?_) (fun c H => ?_)
  conv => whnf
  refine Br.t ft_ ?_
  conv => whnf
  refine Br.t ft_ ?_
  conv => whnf
  refine Br.t ft_ ?_
  conv => whnf
  refine Br.t ft_ ?_
  conv => whnf
  refine Br.f ff_ ?_
  conv => whnf
  refine Br.t ft_ ?_
  conv => whnf
  refine Br.f ff_ ?_
  conv => whnf
  refine cut_ 184 [(4, .bool (Op.bytesLess a0_1.toList a1_1.toList))] [] rfl ⟨.inl rfl, trivial⟩ trivial ?_
  conv => whnf
  injection H with H; subst H
  exact ret_fz [] (rtA_eq rfl)
  conv => whnf
  refine Br.f ff_ ?_
  conv => whnf
  refine Br.f ff_ ?_
  conv => whnf
  refine Br.f ff_ ?_
  conv => whnf
  refine Br.f ff_ ?_
  conv => whnf
  refine Br.f ff_ ?_
  conv => whnf
  refine Br.f ff_ ?_
  conv => whnf
  refine Br.f ff_ ?_
  conv => whnf
  refine cut_ 184 [(4, .bool false)] [] rfl ⟨.inl rfl, trivial⟩ trivial ?_
  conv => whnf
  injection H with H; subst H
  exact ret_fz [] (rtA_eq rfl)
theorem spec_l2StuffsOk.l1_lp {F : (Exit → St → Prop) → St → Prop} {hv : List Tmp} {Q : Exit → St → Prop} {σ : St} {r : Bool} {k : Nat} {a0_0 : List ByteArray} {a0_1 : List S_impl_PlantFoe} {x4 : Int} (H : spec_l2StuffsOk.l1 k a0_0 a0_1 x4 = some r) (rn : List (Option Nat)) (h1 : Fits σ σ [] [(4, .int .i64 x4)] [] [] rn)
    (h2 : ∀ (k0 : Nat) (x4 : Int), k0 < k + 1 → spec_l2StuffsOk.l1 k0 a0_0 a0_1 x4 = some r → headN σ hv [] [(4, .int .i64 x4)] [] [] (F (fun e σ' => match e with | .normal => ∃ (y : Nat × Int) (rn : List (Option Nat)), (spec_l2StuffsOk.l1 y.1 a0_0 a0_1 y.2 = some r ∧ y.1 < k + 1) ∧ y.1 < k0 ∧ Fits σ σ' [] [(4, .int .i64 y.2)] [] [] rn | e => Q e σ'))) : Lp F hv Q σ := by
  unfold Lp
  refine ⟨Nat × Int, fun x => spec_l2StuffsOk.l1 x.1 a0_0 a0_1 x.2 = some r ∧ x.1 < k + 1, fun x => x.1, [], fun x => [(4, .int .i64 x.2)], fun x => [], fun x => [], ⟨(k, x4), rn, ⟨H, Nat.lt_succ_self _⟩, h1⟩, ?_⟩
  rintro ⟨k, x4⟩ ⟨H, hk⟩
  exact h2 k x4 hk H
theorem spec_l2StuffsOk.l0_lp {F : (Exit → St → Prop) → St → Prop} {hv : List Tmp} {Q : Exit → St → Prop} {σ : St} {r : Bool} {k : Nat} {a0_0 : List ByteArray} {a0_1 : List S_impl_PlantFoe} {x3 : Int} (H : spec_l2StuffsOk.l0 k a0_0 a0_1 x3 = some r) (rn : List (Option Nat)) (h1 : Fits σ σ [] [(3, .int .i64 x3)] [] [] rn)
    (h2 : ∀ (k0 : Nat) (x3 : Int), k0 < k + 1 → spec_l2StuffsOk.l0 k0 a0_0 a0_1 x3 = some r → headN σ hv [] [(3, .int .i64 x3)] [] [] (F (fun e σ' => match e with | .normal => ∃ (y : Nat × Int) (rn : List (Option Nat)), (spec_l2StuffsOk.l0 y.1 a0_0 a0_1 y.2 = some r ∧ y.1 < k + 1) ∧ y.1 < k0 ∧ Fits σ σ' [] [(3, .int .i64 y.2)] [] [] rn | e => Q e σ'))) : Lp F hv Q σ := by
  unfold Lp
  refine ⟨Nat × Int, fun x => spec_l2StuffsOk.l0 x.1 a0_0 a0_1 x.2 = some r ∧ x.1 < k + 1, fun x => x.1, [], fun x => [(3, .int .i64 x.2)], fun x => [], fun x => [], ⟨(k, x3), rn, ⟨H, Nat.lt_succ_self _⟩, h1⟩, ?_⟩
  rintro ⟨k, x3⟩ ⟨H, hk⟩
  exact h2 k x3 hk H
theorem spec_l2StuffsOk.ac {k : Nat} {a0_0 : List ByteArray} {a0_1 : List S_impl_PlantFoe} {a0_2 : List S_impl_PlantPlace} {a0_3 : List S_impl_PlantValve} {r : Bool} (H : spec_l2StuffsOk.f k a0_0 a0_1 a0_2 a0_3 = some r) : ACalls Try.prog G 145 [] [.agg [(sv_str a0_0), (sv_S_impl_PlantFoe a0_1), (sv_S_impl_PlantPlace a0_2), (sv_S_impl_PlantValve a0_3)]] [] (.bool r) := by
  refine acalls_of tok hP Try.func145 rfl (by kernel_rfl) [.tmp 2] rfl (by kernel_rfl) (Nat.le_of_ble_eq_true rfl) (.l .n (.l (.c .n (.l (.c .n .n) .n)) (.l (.l .n (.l .n (.l (.c .n (.l (.c .n .n) .n)) .n))) (.l (.l .n (.l (.c .n .n) (.l (.l .n (.c .n (.l (.c .n .n) .n))) .n))) .n)))) rfl ?_
  unfold spec_l2StuffsOk.f at H
  conv => whnf
  refine br_d H (fun c H => ?_) (fun c H => ?_)
  conv => whnf
  refine Br.t ft_ ?_
  conv => whnf
  refine Br.t ft_ ?_
  conv => whnf
  refine Br.t ft_ ?_
  conv => whnf
  refine Br.t ft_ ?_
  conv => whnf
  refine cut_ 96 [(1, .bp 0 0), (15, .bool true)] [(0, .box [(sv_str a0_0), (sv_S_impl_PlantFoe a0_1), (sv_S_impl_PlantPlace a0_2), (sv_S_impl_PlantValve a0_3)])] rfl ⟨.inl rfl, ⟨.inl rfl, trivial⟩⟩ ⟨rfl, trivial⟩ ?_
  conv => whnf
  refine Br.t rfl ?_
  conv => whnf
  refine cut_ 104 [(2, .bool false)] [] rfl ⟨.inl rfl, trivial⟩ trivial ?_
  conv => whnf
  injection H with H; subst H
  exact ret_fz [] (rtA_eq rfl)
  conv => whnf
  refine Br.f ff_ ?_
  conv => whnf
  refine Br.f ff_ ?_
  conv => whnf
  refine Br.f ff_ ?_
  conv => whnf
  refine Br.f ff_ ?_
  conv => whnf
  refine cut_ 96 [(1, .bp 0 0), (15, .bool (decide ((a0_1.length : Int) > 12)))] [(0, .box [(sv_str a0_0), (sv_S_impl_PlantFoe a0_1), (sv_S_impl_PlantPlace a0_2), (sv_S_impl_PlantValve a0_3)])] rfl ⟨.inl rfl, ⟨.inl rfl, trivial⟩⟩ ⟨rfl, trivial⟩ ?_
  conv => whnf
  refine br_d H (fun c H => ?_) (fun c H => ?_)
  conv => whnf
  refine cut_ 104 [(2, .bool false)] [] rfl ⟨.inl rfl, trivial⟩ trivial ?_
  conv => whnf
  injection H with H; subst H
  exact ret_fz [] (rtA_eq rfl)
  conv => whnf
  refine spec_l2StuffsOk.l0_lp (a0_0 := a0_0) (a0_1 := a0_1) (k := k) H [] (fits_of ⟨.inl ⟨rfl, rfl⟩, trivial⟩ trivial fi_ trivial rfl) ?_
  intro k x3 hk H; rcases k with _ | k; exact none_elim H; rw [spec_l2StuffsOk.l0] at H; conv => whnf
  refine br_d H (fun c H => ?_) (fun c H => ?_)
  conv => whnf
  refine nd_ H (fun c H => ?_)
  conv => whnf
  refine Nd.mk nf_ ?_
  conv => whnf
  refine El.mk (rdm_en_str _ _ nf_ nf_) ?_
  conv => whnf
  revert H; refine bind_elim (fun t182 A H => ?_)
  refine call_mk (spec_l2NameOk.ac A) (avAL_cons (avA_shut' rfl) (avAL_nil)) (Or.inl rfl) rfl rfl (Nat.le_of_ble_eq_true rfl) ?_
  conv => whnf
  refine br_nt H (fun c H => ?_) (fun c H => ?_)
  conv => whnf
  refine Br.f ff_ ?_
  conv => whnf
  refine Br.f ff_ ?_
  conv => whnf
  refine br_d H (fun c H => ?_) (fun c H => ?_)
  conv => whnf
  refine Br.t ft_ ?_
  conv => whnf
  refine Br.t ft_ ?_
  conv => whnf
  refine Br.t ft_ ?_
  conv => whnf
  refine Br.t ft_ ?_
  conv => whnf
  refine nd_ H (fun c H => ?_)
  conv => whnf
  refine nd_ H (fun c H => ?_)
  conv => whnf
  refine El.mk (rdm_en_str _ _ nf_ nf_) ?_
  conv => whnf
  refine Br.t ft_ ?_
  conv => whnf
  refine Br.t ft_ ?_
  conv => whnf
  refine Br.t ft_ ?_
  conv => whnf
  refine Br.t ft_ ?_
  conv => whnf
  refine Br.t ft_ ?_
  conv => whnf
  refine Nd.mk nf_ ?_
  conv => whnf
  refine Nd.mk nf_ ?_
  conv => whnf
  refine El.mk (rdm_en_str _ _ nf_ nf_) ?_
  conv => whnf
  refine Br.t ft_ ?_
  conv => whnf
  refine Br.t ft_ ?_
  conv => whnf
  refine Br.f ff_ ?_
  conv => whnf
  refine Br.t ft_ ?_
  conv => whnf
  refine Br.f ff_ ?_
  conv => whnf
  refine cut_ 344 [(1, .bp 0 0), (3, .int .i64 x3), (47, .bool (!(Op.bytesLess (rdOf ByteArray.empty a0_0 (wrap64 (x3 - 1))).toList (rdOf ByteArray.empty a0_0 x3).toList)))] [(0, .box [(sv_str a0_0), (sv_S_impl_PlantFoe a0_1), (sv_S_impl_PlantPlace a0_2), (sv_S_impl_PlantValve a0_3)])] rfl ⟨.inl rfl, ⟨.inl rfl, ⟨.inl rfl, trivial⟩⟩⟩ ⟨rfl, trivial⟩ ?_
  conv => whnf
  refine br_nt H (fun c H => ?_) (fun c H => ?_)
  conv => whnf
  exact ⟨(k, wrap64 (x3 + 1)), [], ⟨H, lt_⟩, lt_, (fits_of ⟨.inl ⟨rfl, rfl⟩, trivial⟩ trivial fi_ trivial rfl)⟩
  conv => whnf
  refine cut_ 352 [(2, .bool false)] [] rfl ⟨.inl rfl, trivial⟩ trivial ?_
  conv => whnf
  injection H with H; subst H
  exact ret_fz [] (rtA_eq rfl)
  conv => whnf
  refine Br.f ff_ ?_
  conv => whnf
  refine Br.f ff_ ?_
  conv => whnf
  refine Br.f ff_ ?_
  conv => whnf
  refine Br.f ff_ ?_
  conv => whnf
  refine Br.f ff_ ?_
  conv => whnf
  refine Br.f ff_ ?_
  conv => whnf
  refine Br.f ff_ ?_
  conv => whnf
  refine Br.f ff_ ?_
  conv => whnf
  refine Br.f ff_ ?_
  conv => whnf
  refine Br.f ff_ ?_
  conv => whnf
  refine Br.f ff_ ?_
  conv => whnf
  refine Br.f ff_ ?_
  conv => whnf
  refine Br.f ff_ ?_
  conv => whnf
  refine Br.f ff_ ?_
  conv => whnf
  refine cut_ 344 [(1, .bp 0 0), (3, .int .i64 x3), (47, .bool false)] [(0, .box [(sv_str a0_0), (sv_S_impl_PlantFoe a0_1), (sv_S_impl_PlantPlace a0_2), (sv_S_impl_PlantValve a0_3)])] rfl ⟨.inl rfl, ⟨.inl rfl, ⟨.inl rfl, trivial⟩⟩⟩ ⟨rfl, trivial⟩ ?_
  conv => whnf
  refine Br.f rfl ?_
  conv => whnf
  exact ⟨(k, wrap64 (x3 + 1)), [], ⟨H, lt_⟩, lt_, (fits_of ⟨.inl ⟨rfl, rfl⟩, trivial⟩ trivial fi_ trivial rfl)⟩
  conv => whnf
  refine Br.t ft_ ?_
  conv => whnf
  refine Br.t ft_ ?_
  conv => whnf
  refine Br.t ft_ ?_
  conv => whnf
  refine Br.t ft_ ?_
  conv => whnf
  refine cut_ 344 [(1, .bp 0 0), (3, .int .i64 x3), (47, .bool true)] [(0, .box [(sv_str a0_0), (sv_S_impl_PlantFoe a0_1), (sv_S_impl_PlantPlace a0_2), (sv_S_impl_PlantValve a0_3)])] rfl ⟨.inl rfl, ⟨.inl rfl, ⟨.inl rfl, trivial⟩⟩⟩ ⟨rfl, trivial⟩ ?_
  conv => whnf
  refine Br.t rfl ?_
  conv => whnf
  refine cut_ 352 [(2, .bool false)] [] rfl ⟨.inl rfl, trivial⟩ trivial ?_
  conv => whnf
  injection H with H; subst H
  exact ret_fz [] (rtA_eq rfl)
  conv => whnf
  refine spec_l2StuffsOk.l1_lp (a0_0 := a0_0) (a0_1 := a0_1) (k := k) H [] (fits_of ⟨.inl ⟨rfl, rfl⟩, trivial⟩ trivial fi_ trivial rfl) ?_
  intro k x4 hk H; rcases k with _ | k; exact none_elim H; rw [spec_l2StuffsOk.l1] at H; conv => whnf
  refine cut_ 192 [(1, .bp 0 0), (4, .int .i64 x4), (52, .bool (decide (x4 < (a0_1.length : Int))))] [(0, .box [(sv_str a0_0), (sv_S_impl_PlantFoe a0_1), (sv_S_impl_PlantPlace a0_2), (sv_S_impl_PlantValve a0_3)])] rfl ⟨.inl rfl, ⟨.inl rfl, ⟨.inl rfl, trivial⟩⟩⟩ ⟨rfl, trivial⟩ ?_
  conv => whnf
  refine br_d H (fun c H => ?_) (fun c H => ?_)
  conv => whnf
  refine nd_ H (fun c H => ?_)
  conv => whnf
  refine Nd.mk nf_ ?_
  conv => whnf
  refine El.mk (rdm_en_S_impl_PlantFoe _ _ nf_ nf_) ?_
  conv => whnf
  refine br_nt H (fun c H => ?_) (fun c H => ?_)
  conv => whnf
  refine Br.f ff_ ?_
  conv => whnf
  refine Br.f ff_ ?_
  conv => whnf
  refine Br.f ff_ ?_
  conv => whnf
  refine Br.f ff_ ?_
  conv => whnf
  revert H; refine bind_elim (fun t192 A H => ?_)
  refine call_mk (spec_l2Has.ac A) (avAL_cons (avA_shut' rfl) (avAL_cons (avA_shut' rfl) (avAL_nil))) (Or.inl rfl) rfl rfl (Nat.le_of_ble_eq_true rfl) ?_
  conv => whnf
  refine Br.f ff_ ?_
  conv => whnf
  refine Br.f ff_ ?_
  conv => whnf
  refine br_nt H (fun c H => ?_) (fun c H => ?_)
  conv => whnf
  refine Br.f ff_ ?_
  conv => whnf
  refine Br.f ff_ ?_
  conv => whnf
  refine Br.f ff_ ?_
  conv => whnf
  refine Br.f ff_ ?_
  conv => whnf
  revert H; refine bind_elim (fun t193 A H => ?_)
  refine call_mk (spec_l2Has.ac A) (avAL_cons (avA_shut' rfl) (avAL_cons (avA_shut' rfl) (avAL_nil))) (Or.inl rfl) rfl rfl (Nat.le_of_ble_eq_true rfl) ?_
  conv => whnf
  refine Br.f ff_ ?_
  conv => whnf
  refine Br.f ff_ ?_
  conv => whnf
  refine br_nt H (fun c H => ?_) (fun c H => ?_)
  conv => whnf
  refine Br.f ff_ ?_
  conv => whnf
  refine Br.f ff_ ?_
  conv => whnf
  refine br_d H (fun c H => ?_) (fun c H => ?_)
  conv => whnf
  refine Br.t ft_ ?_
  conv => whnf
  refine Br.t ft_ ?_
  conv => whnf
  refine Br.t ft_ ?_
  conv => whnf
  refine Br.t ft_ ?_
  conv => whnf
  refine nd_ H (fun c H => ?_)
  conv => whnf
  refine nd_ H (fun c H => ?_)
  conv => whnf
  refine El.mk (rdm_en_S_impl_PlantFoe _ _ nf_ nf_) ?_
  conv => whnf
  refine Br.t ft_ ?_
  conv => whnf
  refine Br.t ft_ ?_
  conv => whnf
  refine Br.t ft_ ?_
  conv => whnf
  revert H; refine bind_elim (fun t194 A H => ?_)
  refine call_mk (spec_l2Before.ac A) (avAL_cons (avA_agg (avL_cons (av_shut' rfl) (avL_cons (av_shut' rfl) (avL_nil)))) (avAL_cons (avA_agg (avL_cons (av_shut' rfl) (avL_cons (av_shut' rfl) (avL_nil)))) (avAL_nil))) (Or.inl rfl) rfl rfl (Nat.le_of_ble_eq_true rfl) ?_
  conv => whnf
  refine Br.t ft_ ?_
  conv => whnf
  refine Br.f ff_ ?_
  conv => whnf
  refine Br.t ft_ ?_
  conv => whnf
  refine Br.f ff_ ?_
  conv => whnf
  refine cut_ 536 [(1, .bp 0 0), (4, .int .i64 x4), (95, .bool (!t194))] [(0, .box [(sv_str a0_0), (sv_S_impl_PlantFoe a0_1), (sv_S_impl_PlantPlace a0_2), (sv_S_impl_PlantValve a0_3)])] rfl ⟨.inl rfl, ⟨.inl rfl, ⟨.inl rfl, trivial⟩⟩⟩ ⟨rfl, trivial⟩ ?_
  conv => whnf
  refine br_nt H (fun c H => ?_) (fun c H => ?_)
  conv => whnf
  exact ⟨(k, wrap64 (x4 + 1)), [], ⟨H, lt_⟩, lt_, (fits_of ⟨.inl ⟨rfl, rfl⟩, trivial⟩ trivial fi_ trivial rfl)⟩
  conv => whnf
  refine cut_ 544 [(2, .bool false)] [] rfl ⟨.inl rfl, trivial⟩ trivial ?_
  conv => whnf
  injection H with H; subst H
  exact ret_fz [] (rtA_eq rfl)
  conv => whnf
  refine Br.f ff_ ?_
  conv => whnf
  refine Br.f ff_ ?_
  conv => whnf
  refine Br.f ff_ ?_
  conv => whnf
  refine Br.f ff_ ?_
  conv => whnf
  refine Br.f ff_ ?_
  conv => whnf
  refine Br.f ff_ ?_
  conv => whnf
  refine Br.f ff_ ?_
  conv => whnf
  refine Br.f ff_ ?_
  conv => whnf
  refine Br.f ff_ ?_
  conv => whnf
  refine Br.f ff_ ?_
  conv => whnf
  refine Br.f ff_ ?_
  conv => whnf
  refine cut_ 536 [(1, .bp 0 0), (4, .int .i64 x4), (95, .bool false)] [(0, .box [(sv_str a0_0), (sv_S_impl_PlantFoe a0_1), (sv_S_impl_PlantPlace a0_2), (sv_S_impl_PlantValve a0_3)])] rfl ⟨.inl rfl, ⟨.inl rfl, ⟨.inl rfl, trivial⟩⟩⟩ ⟨rfl, trivial⟩ ?_
  conv => whnf
  refine Br.f rfl ?_
  conv => whnf
  exact ⟨(k, wrap64 (x4 + 1)), [], ⟨H, lt_⟩, lt_, (fits_of ⟨.inl ⟨rfl, rfl⟩, trivial⟩ trivial fi_ trivial rfl)⟩
  conv => whnf
  refine Br.t ft_ ?_
  conv => whnf
  refine Br.t ft_ ?_
  conv => whnf
  refine Br.t ft_ ?_
  conv => whnf
  refine Br.t ft_ ?_
  conv => whnf
  refine cut_ 536 [(1, .bp 0 0), (4, .int .i64 x4), (95, .bool true)] [(0, .box [(sv_str a0_0), (sv_S_impl_PlantFoe a0_1), (sv_S_impl_PlantPlace a0_2), (sv_S_impl_PlantValve a0_3)])] rfl ⟨.inl rfl, ⟨.inl rfl, ⟨.inl rfl, trivial⟩⟩⟩ ⟨rfl, trivial⟩ ?_
  conv => whnf
  refine Br.t rfl ?_
  conv => whnf
  refine cut_ 544 [(2, .bool false)] [] rfl ⟨.inl rfl, trivial⟩ trivial ?_
  conv => whnf
  injection H with H; subst H
  exact ret_fz [] (rtA_eq rfl)
  conv => whnf
  refine Br.t ft_ ?_
  conv => whnf
  refine Br.t ft_ ?_
  conv => whnf
  refine Br.t ft_ ?_
  conv => whnf
  refine Br.t ft_ ?_
  conv => whnf
  refine Br.t ft_ ?_
  conv => whnf
  refine Br.t ft_ ?_
  conv => whnf
  refine Br.t rfl ?_
  conv => whnf
  refine Br.t rfl ?_
  conv => whnf
  refine Br.t rfl ?_
  conv => whnf
  refine Br.t rfl ?_
  conv => whnf
  refine Br.t rfl ?_
  conv => whnf
  refine cut_ 536 [(1, .bp 0 0), (4, .int .i64 x4), (95, .bool true)] [(0, .box [(sv_str a0_0), (sv_S_impl_PlantFoe a0_1), (sv_S_impl_PlantPlace a0_2), (sv_S_impl_PlantValve a0_3)])] rfl ⟨.inl rfl, ⟨.inl rfl, ⟨.inl rfl, trivial⟩⟩⟩ ⟨rfl, trivial⟩ ?_
  conv => whnf
  refine Br.t rfl ?_
  conv => whnf
  refine cut_ 544 [(2, .bool false)] [] rfl ⟨.inl rfl, trivial⟩ trivial ?_
  conv => whnf
  injection H with H; subst H
  exact ret_fz [] (rtA_eq rfl)
  conv => whnf
  refine Br.t ft_ ?_
  conv => whnf
  refine Br.t ft_ ?_
  conv => whnf
  refine Br.t ft_ ?_
  conv => whnf
  refine Br.t ft_ ?_
  conv => whnf
  refine Br.t ft_ ?_
  conv => whnf
  refine Br.t ft_ ?_
  conv => whnf
  refine Br.t rfl ?_
  conv => whnf
  refine Br.t rfl ?_
  conv => whnf
  refine Br.t rfl ?_
  conv => whnf
  refine Br.t rfl ?_
  conv => whnf
  refine Br.t rfl ?_
  conv => whnf
  refine Br.t rfl ?_
  conv => whnf
  refine Br.t rfl ?_
  conv => whnf
  refine Br.t rfl ?_
  conv => whnf
  refine Br.t rfl ?_
  conv => whnf
  refine Br.t rfl ?_
  conv => whnf
  refine Br.t rfl ?_
  conv => whnf
  refine Br.t rfl ?_
  conv => whnf
  refine cut_ 536 [(1, .bp 0 0), (4, .int .i64 x4), (95, .bool true)] [(0, .box [(sv_str a0_0), (sv_S_impl_PlantFoe a0_1), (sv_S_impl_PlantPlace a0_2), (sv_S_impl_PlantValve a0_3)])] rfl ⟨.inl rfl, ⟨.inl rfl, ⟨.inl rfl, trivial⟩⟩⟩ ⟨rfl, trivial⟩ ?_
  conv => whnf
  refine Br.t rfl ?_
  conv => whnf
  refine cut_ 544 [(2, .bool false)] [] rfl ⟨.inl rfl, trivial⟩ trivial ?_
  conv => whnf
  injection H with H; subst H
  exact ret_fz [] (rtA_eq rfl)
  conv => whnf
  injection H with H; subst H
  exact ret_fz [] (rtA_eq rfl)
theorem spec_l2PlacesOk.l0_lp {F : (Exit → St → Prop) → St → Prop} {hv : List Tmp} {Q : Exit → St → Prop} {σ : St} {r : Bool} {k : Nat} {a0_2 : List S_impl_PlantPlace} {x3 : Int} (H : spec_l2PlacesOk.l0 k a0_2 x3 = some r) (rn : List (Option Nat)) (h1 : Fits σ σ [] [(3, .int .i64 x3)] [] [] rn)
    (h2 : ∀ (k0 : Nat) (x3 : Int), k0 < k + 1 → spec_l2PlacesOk.l0 k0 a0_2 x3 = some r → headN σ hv [] [(3, .int .i64 x3)] [] [] (F (fun e σ' => match e with | .normal => ∃ (y : Nat × Int) (rn : List (Option Nat)), (spec_l2PlacesOk.l0 y.1 a0_2 y.2 = some r ∧ y.1 < k + 1) ∧ y.1 < k0 ∧ Fits σ σ' [] [(3, .int .i64 y.2)] [] [] rn | e => Q e σ'))) : Lp F hv Q σ := by
  unfold Lp
  refine ⟨Nat × Int, fun x => spec_l2PlacesOk.l0 x.1 a0_2 x.2 = some r ∧ x.1 < k + 1, fun x => x.1, [], fun x => [(3, .int .i64 x.2)], fun x => [], fun x => [], ⟨(k, x3), rn, ⟨H, Nat.lt_succ_self _⟩, h1⟩, ?_⟩
  rintro ⟨k, x3⟩ ⟨H, hk⟩
  exact h2 k x3 hk H
theorem spec_l2PlacesOk.ac {k : Nat} {a0_0 : List ByteArray} {a0_1 : List S_impl_PlantFoe} {a0_2 : List S_impl_PlantPlace} {a0_3 : List S_impl_PlantValve} {r : Bool} (H : spec_l2PlacesOk.f k a0_0 a0_1 a0_2 a0_3 = some r) : ACalls Try.prog G 146 [] [.agg [(sv_str a0_0), (sv_S_impl_PlantFoe a0_1), (sv_S_impl_PlantPlace a0_2), (sv_S_impl_PlantValve a0_3)]] [] (.bool r) := by
  refine acalls_of tok hP Try.func146 rfl (by kernel_rfl) [.tmp 2] rfl (by kernel_rfl) (Nat.le_of_ble_eq_true rfl) (.l .n (.l .n (.l (.l .n (.l (.c .n .n) (.l (.l .n (.c .n (.l (.c .n .n) .n))) .n))) .n))) rfl ?_
  unfold spec_l2PlacesOk.f at H
  conv => whnf
  refine br_d H (fun c H => ?_) (fun c H => ?_)
  conv => whnf
  injection H with H; subst H
  exact ret_fz [] (rtA_eq rfl)
  conv => whnf
  refine spec_l2PlacesOk.l0_lp (a0_2 := a0_2) (k := k) H [] (fits_of ⟨.inl ⟨rfl, rfl⟩, trivial⟩ trivial fi_ trivial rfl) ?_
  intro k x3 hk H; rcases k with _ | k; exact none_elim H; rw [spec_l2PlacesOk.l0] at H; conv => whnf
  refine cut_ 96 [(1, .bp 0 0), (3, .int .i64 x3), (13, .bool (decide (x3 < (a0_2.length : Int))))] [(0, .box [(sv_str a0_0), (sv_S_impl_PlantFoe a0_1), (sv_S_impl_PlantPlace a0_2), (sv_S_impl_PlantValve a0_3)])] rfl ⟨.inl rfl, ⟨.inl rfl, ⟨.inl rfl, trivial⟩⟩⟩ ⟨rfl, trivial⟩ ?_
  conv => whnf
  refine br_d H (fun c H => ?_) (fun c H => ?_)
  conv => whnf
  refine nd_ H (fun c H => ?_)
  conv => whnf
  refine Nd.mk nf_ ?_
  conv => whnf
  refine El.mk (rdm_en_S_impl_PlantPlace _ _ nf_ nf_) ?_
  conv => whnf
  revert H; refine bind_elim (fun t217 A H => ?_)
  refine call_mk (spec_l2NameOk.ac A) (avAL_cons (avA_shut' rfl) (avAL_nil)) (Or.inl rfl) rfl rfl (Nat.le_of_ble_eq_true rfl) ?_
  conv => whnf
  refine br_nt H (fun c H => ?_) (fun c H => ?_)
  conv => whnf
  refine Br.f ff_ ?_
  conv => whnf
  refine Br.f ff_ ?_
  conv => whnf
  refine br_d H (fun c H => ?_) (fun c H => ?_)
  conv => whnf
  refine Br.t ft_ ?_
  conv => whnf
  refine Br.t ft_ ?_
  conv => whnf
  refine Br.t ft_ ?_
  conv => whnf
  refine Br.t ft_ ?_
  conv => whnf
  refine nd_ H (fun c H => ?_)
  conv => whnf
  refine nd_ H (fun c H => ?_)
  conv => whnf
  refine El.mk (rdm_en_S_impl_PlantPlace _ _ nf_ nf_) ?_
  conv => whnf
  refine Br.t ft_ ?_
  conv => whnf
  refine Br.t ft_ ?_
  conv => whnf
  refine Br.t ft_ ?_
  conv => whnf
  refine Br.t ft_ ?_
  conv => whnf
  refine Br.t ft_ ?_
  conv => whnf
  refine Br.f ff_ ?_
  conv => whnf
  refine Br.t ft_ ?_
  conv => whnf
  refine Br.f ff_ ?_
  conv => whnf
  refine br_nt H (fun c H => ?_) (fun c H => ?_)
  conv => whnf
  refine Br.f ff_ ?_
  conv => whnf
  refine Br.f ff_ ?_
  conv => whnf
  revert H; refine bind_elim (fun t218 A H => ?_)
  refine call_mk (spec_l1In.ac A) (avAL_cons (avA_shut' rfl) (avAL_cons (avA_shut' rfl) (avAL_cons (avA_shut' rfl) (avAL_nil)))) (Or.inl rfl) rfl rfl (Nat.le_of_ble_eq_true rfl) ?_
  conv => whnf
  refine Br.f ff_ ?_
  conv => whnf
  refine Br.f ff_ ?_
  conv => whnf
  refine br_nt H (fun c H => ?_) (fun c H => ?_)
  conv => whnf
  refine Br.f ff_ ?_
  conv => whnf
  refine Br.f ff_ ?_
  conv => whnf
  revert H; refine bind_elim (fun t219 A H => ?_)
  refine call_mk (spec_l2NameOk.ac A) (avAL_cons (avA_shut' rfl) (avAL_nil)) (Or.inl rfl) rfl rfl (Nat.le_of_ble_eq_true rfl) ?_
  conv => whnf
  refine Br.f ff_ ?_
  conv => whnf
  refine Br.f ff_ ?_
  conv => whnf
  refine cut_ 408 [(1, .bp 0 0), (3, .int .i64 x3), (52, .bool (!t219))] [(0, .box [(sv_str a0_0), (sv_S_impl_PlantFoe a0_1), (sv_S_impl_PlantPlace a0_2), (sv_S_impl_PlantValve a0_3)])] rfl ⟨.inl rfl, ⟨.inl rfl, ⟨.inl rfl, trivial⟩⟩⟩ ⟨rfl, trivial⟩ ?_
  conv => whnf
  refine br_nt H (fun c H => ?_) (fun c H => ?_)
  conv => whnf
  exact ⟨(k, wrap64 (x3 + 1)), [], ⟨H, lt_⟩, lt_, (fits_of ⟨.inl ⟨rfl, rfl⟩, trivial⟩ trivial fi_ trivial rfl)⟩
  conv => whnf
  refine cut_ 416 [(2, .bool false)] [] rfl ⟨.inl rfl, trivial⟩ trivial ?_
  conv => whnf
  injection H with H; subst H
  exact ret_fz [] (rtA_eq rfl)
  conv => whnf
  refine Br.t ft_ ?_
  conv => whnf
  refine Br.t ft_ ?_
  conv => whnf
  refine Br.t ft_ ?_
  conv => whnf
  refine Br.t ft_ ?_
  conv => whnf
  refine cut_ 408 [(1, .bp 0 0), (3, .int .i64 x3), (52, .bool true)] [(0, .box [(sv_str a0_0), (sv_S_impl_PlantFoe a0_1), (sv_S_impl_PlantPlace a0_2), (sv_S_impl_PlantValve a0_3)])] rfl ⟨.inl rfl, ⟨.inl rfl, ⟨.inl rfl, trivial⟩⟩⟩ ⟨rfl, trivial⟩ ?_
  conv => whnf
  refine Br.t rfl ?_
  conv => whnf
  refine cut_ 416 [(2, .bool false)] [] rfl ⟨.inl rfl, trivial⟩ trivial ?_
  conv => whnf
  injection H with H; subst H
  exact ret_fz [] (rtA_eq rfl)
  conv => whnf
  refine Br.t ft_ ?_
  conv => whnf
  refine Br.t ft_ ?_
  conv => whnf
  refine Br.t ft_ ?_
  conv => whnf
  refine Br.t ft_ ?_
  conv => whnf
  refine Br.t rfl ?_
  conv => whnf
  refine Br.t rfl ?_
  conv => whnf
  refine Br.t rfl ?_
  conv => whnf
  refine Br.t rfl ?_
  conv => whnf
  refine Br.t rfl ?_
  conv => whnf
  refine cut_ 408 [(1, .bp 0 0), (3, .int .i64 x3), (52, .bool true)] [(0, .box [(sv_str a0_0), (sv_S_impl_PlantFoe a0_1), (sv_S_impl_PlantPlace a0_2), (sv_S_impl_PlantValve a0_3)])] rfl ⟨.inl rfl, ⟨.inl rfl, ⟨.inl rfl, trivial⟩⟩⟩ ⟨rfl, trivial⟩ ?_
  conv => whnf
  refine Br.t rfl ?_
  conv => whnf
  refine cut_ 416 [(2, .bool false)] [] rfl ⟨.inl rfl, trivial⟩ trivial ?_
  conv => whnf
  injection H with H; subst H
  exact ret_fz [] (rtA_eq rfl)
  conv => whnf
  refine Br.f ff_ ?_
  conv => whnf
  refine Br.f ff_ ?_
  conv => whnf
  refine Br.f ff_ ?_
  conv => whnf
  refine Br.f ff_ ?_
  conv => whnf
  refine Br.f ff_ ?_
  conv => whnf
  refine Br.f ff_ ?_
  conv => whnf
  refine Br.f ff_ ?_
  conv => whnf
  refine Br.f ff_ ?_
  conv => whnf
  refine Br.f ff_ ?_
  conv => whnf
  refine Br.f ff_ ?_
  conv => whnf
  refine Br.f ff_ ?_
  conv => whnf
  refine Br.f ff_ ?_
  conv => whnf
  refine Br.f rfl ?_
  conv => whnf
  refine Br.f rfl ?_
  conv => whnf
  refine Br.f rfl ?_
  conv => whnf
  revert H; refine bind_elim (fun t220 A H => ?_)
  refine call_mk (spec_l1In.ac A) (avAL_cons (avA_shut' rfl) (avAL_cons (avA_shut' rfl) (avAL_cons (avA_shut' rfl) (avAL_nil)))) (Or.inl rfl) rfl rfl (Nat.le_of_ble_eq_true rfl) ?_
  conv => whnf
  refine Br.f rfl ?_
  conv => whnf
  refine Br.f rfl ?_
  conv => whnf
  refine br_nt H (fun c H => ?_) (fun c H => ?_)
  conv => whnf
  refine Br.f ff_ ?_
  conv => whnf
  refine Br.f ff_ ?_
  conv => whnf
  revert H; refine bind_elim (fun t221 A H => ?_)
  refine call_mk (spec_l2NameOk.ac A) (avAL_cons (avA_shut' rfl) (avAL_nil)) (Or.inl rfl) rfl rfl (Nat.le_of_ble_eq_true rfl) ?_
  conv => whnf
  refine Br.f ff_ ?_
  conv => whnf
  refine Br.f ff_ ?_
  conv => whnf
  refine cut_ 408 [(1, .bp 0 0), (3, .int .i64 x3), (52, .bool (!t221))] [(0, .box [(sv_str a0_0), (sv_S_impl_PlantFoe a0_1), (sv_S_impl_PlantPlace a0_2), (sv_S_impl_PlantValve a0_3)])] rfl ⟨.inl rfl, ⟨.inl rfl, ⟨.inl rfl, trivial⟩⟩⟩ ⟨rfl, trivial⟩ ?_
  conv => whnf
  refine br_nt H (fun c H => ?_) (fun c H => ?_)
  conv => whnf
  exact ⟨(k, wrap64 (x3 + 1)), [], ⟨H, lt_⟩, lt_, (fits_of ⟨.inl ⟨rfl, rfl⟩, trivial⟩ trivial fi_ trivial rfl)⟩
  conv => whnf
  refine cut_ 416 [(2, .bool false)] [] rfl ⟨.inl rfl, trivial⟩ trivial ?_
  conv => whnf
  injection H with H; subst H
  exact ret_fz [] (rtA_eq rfl)
  conv => whnf
  refine Br.t ft_ ?_
  conv => whnf
  refine Br.t ft_ ?_
  conv => whnf
  refine Br.t ft_ ?_
  conv => whnf
  refine Br.t ft_ ?_
  conv => whnf
  refine cut_ 408 [(1, .bp 0 0), (3, .int .i64 x3), (52, .bool true)] [(0, .box [(sv_str a0_0), (sv_S_impl_PlantFoe a0_1), (sv_S_impl_PlantPlace a0_2), (sv_S_impl_PlantValve a0_3)])] rfl ⟨.inl rfl, ⟨.inl rfl, ⟨.inl rfl, trivial⟩⟩⟩ ⟨rfl, trivial⟩ ?_
  conv => whnf
  refine Br.t rfl ?_
  conv => whnf
  refine cut_ 416 [(2, .bool false)] [] rfl ⟨.inl rfl, trivial⟩ trivial ?_
  conv => whnf
  injection H with H; subst H
  exact ret_fz [] (rtA_eq rfl)
  conv => whnf
  refine Br.t ft_ ?_
  conv => whnf
  refine Br.t ft_ ?_
  conv => whnf
  refine Br.t ft_ ?_
  conv => whnf
  refine Br.t ft_ ?_
  conv => whnf
  refine Br.t rfl ?_
  conv => whnf
  refine Br.t rfl ?_
  conv => whnf
  refine Br.t rfl ?_
  conv => whnf
  refine Br.t rfl ?_
  conv => whnf
  refine Br.t rfl ?_
  conv => whnf
  refine Br.t rfl ?_
  conv => whnf
  refine Br.t rfl ?_
  conv => whnf
  refine Br.t rfl ?_
  conv => whnf
  refine Br.t rfl ?_
  conv => whnf
  refine Br.t rfl ?_
  conv => whnf
  refine cut_ 408 [(1, .bp 0 0), (3, .int .i64 x3), (52, .bool true)] [(0, .box [(sv_str a0_0), (sv_S_impl_PlantFoe a0_1), (sv_S_impl_PlantPlace a0_2), (sv_S_impl_PlantValve a0_3)])] rfl ⟨.inl rfl, ⟨.inl rfl, ⟨.inl rfl, trivial⟩⟩⟩ ⟨rfl, trivial⟩ ?_
  conv => whnf
  refine Br.t rfl ?_
  conv => whnf
  refine cut_ 416 [(2, .bool false)] [] rfl ⟨.inl rfl, trivial⟩ trivial ?_
  conv => whnf
  injection H with H; subst H
  exact ret_fz [] (rtA_eq rfl)
  conv => whnf
  injection H with H; subst H
  exact ret_fz [] (rtA_eq rfl)
theorem spec_l2Place.l0_lp {F : (Exit → St → Prop) → St → Prop} {hv : List Tmp} {Q : Exit → St → Prop} {σ : St} {r : Int} {k : Nat} {a0_2 : List S_impl_PlantPlace} {a1 : ByteArray} {x5 : Int} (H : spec_l2Place.l0 k a0_2 a1 x5 = some r) (rn : List (Option Nat)) (h1 : Fits σ σ [] [(5, .int .i64 x5)] [] [] rn)
    (h2 : ∀ (k0 : Nat) (x5 : Int), k0 < k + 1 → spec_l2Place.l0 k0 a0_2 a1 x5 = some r → headN σ hv [] [(5, .int .i64 x5)] [] [] (F (fun e σ' => match e with | .normal => ∃ (y : Nat × Int) (rn : List (Option Nat)), (spec_l2Place.l0 y.1 a0_2 a1 y.2 = some r ∧ y.1 < k + 1) ∧ y.1 < k0 ∧ Fits σ σ' [] [(5, .int .i64 y.2)] [] [] rn | e => Q e σ'))) : Lp F hv Q σ := by
  unfold Lp
  refine ⟨Nat × Int, fun x => spec_l2Place.l0 x.1 a0_2 a1 x.2 = some r ∧ x.1 < k + 1, fun x => x.1, [], fun x => [(5, .int .i64 x.2)], fun x => [], fun x => [], ⟨(k, x5), rn, ⟨H, Nat.lt_succ_self _⟩, h1⟩, ?_⟩
  rintro ⟨k, x5⟩ ⟨H, hk⟩
  exact h2 k x5 hk H
theorem spec_l2Place.ac {k : Nat} {a0_0 : List ByteArray} {a0_1 : List S_impl_PlantFoe} {a0_2 : List S_impl_PlantPlace} {a0_3 : List S_impl_PlantValve} {a1 : ByteArray} {r : Int} (H : spec_l2Place.f k a0_0 a0_1 a0_2 a0_3 a1 = some r) : ACalls Try.prog G 85 [] [.agg [(sv_str a0_0), (sv_S_impl_PlantFoe a0_1), (sv_S_impl_PlantPlace a0_2), (sv_S_impl_PlantValve a0_3)], .str a1] [] (.int .i64 r) := by
  refine acalls_of tok hP Try.func85 rfl (by kernel_rfl) [.tmp 4] rfl (by kernel_rfl) (Nat.le_of_ble_eq_true rfl) (.l .n (.l (.l .n (.l .n (.l (.c .n .n) .n))) .n)) rfl ?_
  unfold spec_l2Place.f at H
  conv => whnf
  refine spec_l2Place.l0_lp (a0_2 := a0_2) (a1 := a1) (k := k) H [] (fits_of ⟨.inl ⟨rfl, rfl⟩, trivial⟩ trivial fi_ trivial rfl) ?_
  intro k x5 hk H; rcases k with _ | k; exact none_elim H; rw [spec_l2Place.l0] at H; conv => whnf
  refine br_d H (fun c H => ?_) (fun c H => ?_)
  conv => whnf
  refine nd_ H (fun c H => ?_)
  conv => whnf
  refine Nd.mk nf_ ?_
  conv => whnf
  refine El.mk (rdm_en_S_impl_PlantPlace _ _ nf_ nf_) ?_
  conv => whnf
  refine cut_ 128 [(1, .str a1), (2, .bp 0 0), (5, .int .i64 x5), (20, .bool (decide (((rd_impl_PlantPlace a0_2 x5).f0).toList = a1.toList)))] [(0, .box [(sv_str a0_0), (sv_S_impl_PlantFoe a0_1), (sv_S_impl_PlantPlace a0_2), (sv_S_impl_PlantValve a0_3)])] rfl ⟨.inl rfl, ⟨.inl rfl, ⟨.inl rfl, ⟨.inl rfl, trivial⟩⟩⟩⟩ ⟨rfl, trivial⟩ ?_
  conv => whnf
  refine br_d H (fun c H => ?_) (fun c H => ?_)
  conv => whnf
  injection H with H; subst H
  exact ret_fz [] (rtA_eq rfl)
  conv => whnf
  exact ⟨(k, wrap64 (x5 + 1)), [], ⟨H, lt_⟩, lt_, (fits_of ⟨.inl ⟨rfl, rfl⟩, trivial⟩ trivial fi_ trivial rfl)⟩
  conv => whnf
  injection H with H; subst H
  exact ret_fz [] (rtA_eq rfl)
theorem spec_l2ValvesOk.l0_lp {F : (Exit → St → Prop) → St → Prop} {hv : List Tmp} {Q : Exit → St → Prop} {σ : St} {r : Bool} {k : Nat} {a0_0 : List ByteArray} {a0_1 : List S_impl_PlantFoe} {a0_2 : List S_impl_PlantPlace} {a0_3 : List S_impl_PlantValve} {x3 : Int} (H : spec_l2ValvesOk.l0 k a0_0 a0_1 a0_2 a0_3 x3 = some r) (rn : List (Option Nat)) (h1 : Fits σ σ [] [(3, .int .i64 x3)] [] [] rn)
    (h2 : ∀ (k0 : Nat) (x3 : Int), k0 < k + 1 → spec_l2ValvesOk.l0 k0 a0_0 a0_1 a0_2 a0_3 x3 = some r → headN σ hv [] [(3, .int .i64 x3)] [] [] (F (fun e σ' => match e with | .normal => ∃ (y : Nat × Int) (rn : List (Option Nat)), (spec_l2ValvesOk.l0 y.1 a0_0 a0_1 a0_2 a0_3 y.2 = some r ∧ y.1 < k + 1) ∧ y.1 < k0 ∧ Fits σ σ' [] [(3, .int .i64 y.2)] [] [] rn | e => Q e σ'))) : Lp F hv Q σ := by
  unfold Lp
  refine ⟨Nat × Int, fun x => spec_l2ValvesOk.l0 x.1 a0_0 a0_1 a0_2 a0_3 x.2 = some r ∧ x.1 < k + 1, fun x => x.1, [], fun x => [(3, .int .i64 x.2)], fun x => [], fun x => [], ⟨(k, x3), rn, ⟨H, Nat.lt_succ_self _⟩, h1⟩, ?_⟩
  rintro ⟨k, x3⟩ ⟨H, hk⟩
  exact h2 k x3 hk H
theorem spec_l2ValvesOk.ac {k : Nat} {a0_0 : List ByteArray} {a0_1 : List S_impl_PlantFoe} {a0_2 : List S_impl_PlantPlace} {a0_3 : List S_impl_PlantValve} {r : Bool} (H : spec_l2ValvesOk.f k a0_0 a0_1 a0_2 a0_3 = some r) : ACalls Try.prog G 147 [] [.agg [(sv_str a0_0), (sv_S_impl_PlantFoe a0_1), (sv_S_impl_PlantPlace a0_2), (sv_S_impl_PlantValve a0_3)]] [] (.bool r) := by
  refine acalls_of tok hP Try.func147 rfl (by kernel_rfl) [.tmp 2] rfl (by kernel_rfl) (Nat.le_of_ble_eq_true rfl) (.l .n (.l .n (.l (.l .n (.l (.c .n .n) (.l (.l .n (.c .n (.l (.c .n .n) .n))) .n))) .n))) rfl ?_
  unfold spec_l2ValvesOk.f at H
  conv => whnf
  refine br_d H (fun c H => ?_) (fun c H => ?_)
  conv => whnf
  injection H with H; subst H
  exact ret_fz [] (rtA_eq rfl)
  conv => whnf
  refine spec_l2ValvesOk.l0_lp (a0_0 := a0_0) (a0_1 := a0_1) (a0_2 := a0_2) (a0_3 := a0_3) (k := k) H [] (fits_of ⟨.inl ⟨rfl, rfl⟩, trivial⟩ trivial fi_ trivial rfl) ?_
  intro k x3 hk H; rcases k with _ | k; exact none_elim H; rw [spec_l2ValvesOk.l0] at H; conv => whnf
  refine cut_ 96 [(1, .bp 0 0), (3, .int .i64 x3), (13, .bool (decide (x3 < (a0_3.length : Int))))] [(0, .box [(sv_str a0_0), (sv_S_impl_PlantFoe a0_1), (sv_S_impl_PlantPlace a0_2), (sv_S_impl_PlantValve a0_3)])] rfl ⟨.inl rfl, ⟨.inl rfl, ⟨.inl rfl, trivial⟩⟩⟩ ⟨rfl, trivial⟩ ?_
  conv => whnf
  refine br_d H (fun c H => ?_) (fun c H => ?_)
  conv => whnf
  refine nd_ H (fun c H => ?_)
  conv => whnf
  refine Nd.mk nf_ ?_
  conv => whnf
  refine El.mk (rdm_en_S_impl_PlantValve _ _ nf_ nf_) ?_
  conv => whnf
  revert H; refine bind_elim (fun t260 A H => ?_)
  refine call_mk (spec_l2NameOk.ac A) (avAL_cons (avA_shut' rfl) (avAL_nil)) (Or.inl rfl) rfl rfl (Nat.le_of_ble_eq_true rfl) ?_
  conv => whnf
  refine br_nt H (fun c H => ?_) (fun c H => ?_)
  conv => whnf
  refine Br.f ff_ ?_
  conv => whnf
  refine Br.f ff_ ?_
  conv => whnf
  refine br_d H (fun c H => ?_) (fun c H => ?_)
  conv => whnf
  refine Br.t ft_ ?_
  conv => whnf
  refine Br.t ft_ ?_
  conv => whnf
  refine Br.t ft_ ?_
  conv => whnf
  refine Br.t ft_ ?_
  conv => whnf
  refine nd_ H (fun c H => ?_)
  conv => whnf
  refine nd_ H (fun c H => ?_)
  conv => whnf
  refine El.mk (rdm_en_S_impl_PlantValve _ _ nf_ nf_) ?_
  conv => whnf
  refine Br.t ft_ ?_
  conv => whnf
  refine Br.t ft_ ?_
  conv => whnf
  refine Br.t ft_ ?_
  conv => whnf
  refine Br.t ft_ ?_
  conv => whnf
  refine Br.t ft_ ?_
  conv => whnf
  refine Br.f ff_ ?_
  conv => whnf
  refine Br.t ft_ ?_
  conv => whnf
  refine Br.f ff_ ?_
  conv => whnf
  refine br_nt H (fun c H => ?_) (fun c H => ?_)
  conv => whnf
  refine Br.f ff_ ?_
  conv => whnf
  refine Br.f ff_ ?_
  conv => whnf
  refine Br.f ff_ ?_
  conv => whnf
  refine Br.f ff_ ?_
  conv => whnf
  refine Br.f ff_ ?_
  conv => whnf
  refine br_nt H (fun c H => ?_) (fun c H => ?_)
  conv => whnf
  refine Br.f ff_ ?_
  conv => whnf
  refine Br.f ff_ ?_
  conv => whnf
  refine Br.f ff_ ?_
  conv => whnf
  revert H; refine bind_elim (fun t261 A H => ?_)
  refine call_mk (spec_l2Place.ac A) (avAL_cons (avA_agg (avL_cons (av_shut' rfl) (avL_cons (av_shut' rfl) (avL_cons (av_shut' rfl) (avL_cons (av_shut' rfl) (avL_nil)))))) (avAL_cons (avA_shut' rfl) (avAL_nil))) (Or.inl rfl) rfl rfl (Nat.le_of_ble_eq_true rfl) ?_
  conv => whnf
  refine Br.f ff_ ?_
  conv => whnf
  refine Br.f ff_ ?_
  conv => whnf
  refine br_d H (fun c H => ?_) (fun c H => ?_)
  conv => whnf
  refine Br.t ft_ ?_
  conv => whnf
  refine Br.t ft_ ?_
  conv => whnf
  refine Br.t ft_ ?_
  conv => whnf
  refine Br.t ft_ ?_
  conv => whnf
  refine Br.t ft_ ?_
  conv => whnf
  refine Br.t rfl ?_
  conv => whnf
  refine Br.t rfl ?_
  conv => whnf
  refine Br.t rfl ?_
  conv => whnf
  refine Br.t rfl ?_
  conv => whnf
  refine Br.t rfl ?_
  conv => whnf
  refine cut_ 528 [(1, .bp 0 0), (3, .int .i64 x3), (67, .bool true)] [(0, .box [(sv_str a0_0), (sv_S_impl_PlantFoe a0_1), (sv_S_impl_PlantPlace a0_2), (sv_S_impl_PlantValve a0_3)])] rfl ⟨.inl rfl, ⟨.inl rfl, ⟨.inl rfl, trivial⟩⟩⟩ ⟨rfl, trivial⟩ ?_
  conv => whnf
  refine Br.t rfl ?_
  conv => whnf
  refine cut_ 536 [(2, .bool false)] [] rfl ⟨.inl rfl, trivial⟩ trivial ?_
  conv => whnf
  injection H with H; subst H
  exact ret_fz [] (rtA_eq rfl)
  conv => whnf
  refine Br.f ff_ ?_
  conv => whnf
  refine Br.f ff_ ?_
  conv => whnf
  refine Br.f ff_ ?_
  conv => whnf
  revert H; refine bind_elim (fun t262 A H => ?_)
  refine call_mk (spec_l2Place.ac A) (avAL_cons (avA_agg (avL_cons (av_shut' rfl) (avL_cons (av_shut' rfl) (avL_cons (av_shut' rfl) (avL_cons (av_shut' rfl) (avL_nil)))))) (avAL_cons (avA_shut' rfl) (avAL_nil))) (Or.inl rfl) rfl rfl (Nat.le_of_ble_eq_true rfl) ?_
  conv => whnf
  refine Br.f ff_ ?_
  conv => whnf
  refine Br.f ff_ ?_
  conv => whnf
  refine br_d H (fun c H => ?_) (fun c H => ?_)
  conv => whnf
  refine Br.t ft_ ?_
  conv => whnf
  refine Br.t ft_ ?_
  conv => whnf
  refine Br.t ft_ ?_
  conv => whnf
  refine Br.t ft_ ?_
  conv => whnf
  refine cut_ 528 [(1, .bp 0 0), (3, .int .i64 x3), (67, .bool true)] [(0, .box [(sv_str a0_0), (sv_S_impl_PlantFoe a0_1), (sv_S_impl_PlantPlace a0_2), (sv_S_impl_PlantValve a0_3)])] rfl ⟨.inl rfl, ⟨.inl rfl, ⟨.inl rfl, trivial⟩⟩⟩ ⟨rfl, trivial⟩ ?_
  conv => whnf
  refine Br.t rfl ?_
  conv => whnf
  refine cut_ 536 [(2, .bool false)] [] rfl ⟨.inl rfl, trivial⟩ trivial ?_
  conv => whnf
  injection H with H; subst H
  exact ret_fz [] (rtA_eq rfl)
  conv => whnf
  refine Br.f ff_ ?_
  conv => whnf
  refine Br.f ff_ ?_
  conv => whnf
  revert H; refine bind_elim (fun t263 A H => ?_)
  refine call_mk (spec_l2NameOk.ac A) (avAL_cons (avA_shut' rfl) (avAL_nil)) (Or.inl rfl) rfl rfl (Nat.le_of_ble_eq_true rfl) ?_
  conv => whnf
  refine Br.f ff_ ?_
  conv => whnf
  refine Br.f ff_ ?_
  conv => whnf
  refine cut_ 528 [(1, .bp 0 0), (3, .int .i64 x3), (67, .bool (!t263))] [(0, .box [(sv_str a0_0), (sv_S_impl_PlantFoe a0_1), (sv_S_impl_PlantPlace a0_2), (sv_S_impl_PlantValve a0_3)])] rfl ⟨.inl rfl, ⟨.inl rfl, ⟨.inl rfl, trivial⟩⟩⟩ ⟨rfl, trivial⟩ ?_
  conv => whnf
  refine br_nt H (fun c H => ?_) (fun c H => ?_)
  conv => whnf
  exact ⟨(k, wrap64 (x3 + 1)), [], ⟨H, lt_⟩, lt_, (fits_of ⟨.inl ⟨rfl, rfl⟩, trivial⟩ trivial fi_ trivial rfl)⟩
  conv => whnf
  refine cut_ 536 [(2, .bool false)] [] rfl ⟨.inl rfl, trivial⟩ trivial ?_
  conv => whnf
  injection H with H; subst H
  exact ret_fz [] (rtA_eq rfl)
  conv => whnf
  refine Br.t ft_ ?_
  conv => whnf
  refine Br.t ft_ ?_
  conv => whnf
  refine Br.t ft_ ?_
  conv => whnf
  refine Br.t ft_ ?_
  conv => whnf
  refine Br.t ft_ ?_
  conv => whnf
  refine Br.t rfl ?_
  conv => whnf
  refine Br.t rfl ?_
  conv => whnf
  refine Br.t rfl ?_
  conv => whnf
  refine Br.t rfl ?_
  conv => whnf
  refine Br.t rfl ?_
  conv => whnf
  refine Br.t rfl ?_
  conv => whnf
  refine Br.t rfl ?_
  conv => whnf
  refine Br.t rfl ?_
  conv => whnf
  refine Br.t rfl ?_
  conv => whnf
  refine Br.t rfl ?_
  conv => whnf
  refine Br.t rfl ?_
  conv => whnf
  refine cut_ 528 [(1, .bp 0 0), (3, .int .i64 x3), (67, .bool true)] [(0, .box [(sv_str a0_0), (sv_S_impl_PlantFoe a0_1), (sv_S_impl_PlantPlace a0_2), (sv_S_impl_PlantValve a0_3)])] rfl ⟨.inl rfl, ⟨.inl rfl, ⟨.inl rfl, trivial⟩⟩⟩ ⟨rfl, trivial⟩ ?_
  conv => whnf
  refine Br.t rfl ?_
  conv => whnf
  refine cut_ 536 [(2, .bool false)] [] rfl ⟨.inl rfl, trivial⟩ trivial ?_
  conv => whnf
  injection H with H; subst H
  exact ret_fz [] (rtA_eq rfl)
  conv => whnf
  refine Br.t ft_ ?_
  conv => whnf
  refine Br.t ft_ ?_
  conv => whnf
  refine Br.t ft_ ?_
  conv => whnf
  refine Br.t ft_ ?_
  conv => whnf
  refine Br.t ft_ ?_
  conv => whnf
  refine Br.t rfl ?_
  conv => whnf
  refine Br.t rfl ?_
  conv => whnf
  refine Br.t rfl ?_
  conv => whnf
  refine Br.t rfl ?_
  conv => whnf
  refine Br.t rfl ?_
  conv => whnf
  refine Br.t rfl ?_
  conv => whnf
  refine Br.t rfl ?_
  conv => whnf
  refine Br.t rfl ?_
  conv => whnf
  refine Br.t rfl ?_
  conv => whnf
  refine Br.t rfl ?_
  conv => whnf
  refine Br.t rfl ?_
  conv => whnf
  refine Br.t rfl ?_
  conv => whnf
  refine Br.t rfl ?_
  conv => whnf
  refine Br.t rfl ?_
  conv => whnf
  refine Br.t rfl ?_
  conv => whnf
  refine Br.t rfl ?_
  conv => whnf
  refine Br.t rfl ?_
  conv => whnf
  refine cut_ 528 [(1, .bp 0 0), (3, .int .i64 x3), (67, .bool true)] [(0, .box [(sv_str a0_0), (sv_S_impl_PlantFoe a0_1), (sv_S_impl_PlantPlace a0_2), (sv_S_impl_PlantValve a0_3)])] rfl ⟨.inl rfl, ⟨.inl rfl, ⟨.inl rfl, trivial⟩⟩⟩ ⟨rfl, trivial⟩ ?_
  conv => whnf
  refine Br.t rfl ?_
  conv => whnf
  refine cut_ 536 [(2, .bool false)] [] rfl ⟨.inl rfl, trivial⟩ trivial ?_
  conv => whnf
  injection H with H; subst H
  exact ret_fz [] (rtA_eq rfl)
  conv => whnf
  refine Br.f ff_ ?_
  conv => whnf
  refine Br.f ff_ ?_
  conv => whnf
  refine Br.f ff_ ?_
  conv => whnf
  refine Br.f ff_ ?_
  conv => whnf
  refine Br.f ff_ ?_
  conv => whnf
  refine Br.f ff_ ?_
  conv => whnf
  refine Br.f ff_ ?_
  conv => whnf
  refine Br.f ff_ ?_
  conv => whnf
  refine Br.f ff_ ?_
  conv => whnf
  refine Br.f ff_ ?_
  conv => whnf
  refine Br.f ff_ ?_
  conv => whnf
  refine Br.f ff_ ?_
  conv => whnf
  refine Br.f rfl ?_
  conv => whnf
  refine Br.f rfl ?_
  conv => whnf
  refine Br.f rfl ?_
  conv => whnf
  refine Br.f rfl ?_
  conv => whnf
  refine Br.f rfl ?_
  conv => whnf
  refine Br.f rfl ?_
  conv => whnf
  refine br_nt H (fun c H => ?_) (fun c H => ?_)
  conv => whnf
  refine Br.f ff_ ?_
  conv => whnf
  refine Br.f ff_ ?_
  conv => whnf
  refine Br.f ff_ ?_
  conv => whnf
  revert H; refine bind_elim (fun t264 A H => ?_)
  refine call_mk (spec_l2Place.ac A) (avAL_cons (avA_agg (avL_cons (av_shut' rfl) (avL_cons (av_shut' rfl) (avL_cons (av_shut' rfl) (avL_cons (av_shut' rfl) (avL_nil)))))) (avAL_cons (avA_shut' rfl) (avAL_nil))) (Or.inl rfl) rfl rfl (Nat.le_of_ble_eq_true rfl) ?_
  conv => whnf
  refine Br.f ff_ ?_
  conv => whnf
  refine Br.f ff_ ?_
  conv => whnf
  refine br_d H (fun c H => ?_) (fun c H => ?_)
  conv => whnf
  refine Br.t ft_ ?_
  conv => whnf
  refine Br.t ft_ ?_
  conv => whnf
  refine Br.t ft_ ?_
  conv => whnf
  refine Br.t ft_ ?_
  conv => whnf
  refine Br.t ft_ ?_
  conv => whnf
  refine Br.t rfl ?_
  conv => whnf
  refine Br.t rfl ?_
  conv => whnf
  refine Br.t rfl ?_
  conv => whnf
  refine Br.t rfl ?_
  conv => whnf
  refine Br.t rfl ?_
  conv => whnf
  refine cut_ 528 [(1, .bp 0 0), (3, .int .i64 x3), (67, .bool true)] [(0, .box [(sv_str a0_0), (sv_S_impl_PlantFoe a0_1), (sv_S_impl_PlantPlace a0_2), (sv_S_impl_PlantValve a0_3)])] rfl ⟨.inl rfl, ⟨.inl rfl, ⟨.inl rfl, trivial⟩⟩⟩ ⟨rfl, trivial⟩ ?_
  conv => whnf
  refine Br.t rfl ?_
  conv => whnf
  refine cut_ 536 [(2, .bool false)] [] rfl ⟨.inl rfl, trivial⟩ trivial ?_
  conv => whnf
  injection H with H; subst H
  exact ret_fz [] (rtA_eq rfl)
  conv => whnf
  refine Br.f ff_ ?_
  conv => whnf
  refine Br.f ff_ ?_
  conv => whnf
  refine Br.f ff_ ?_
  conv => whnf
  revert H; refine bind_elim (fun t265 A H => ?_)
  refine call_mk (spec_l2Place.ac A) (avAL_cons (avA_agg (avL_cons (av_shut' rfl) (avL_cons (av_shut' rfl) (avL_cons (av_shut' rfl) (avL_cons (av_shut' rfl) (avL_nil)))))) (avAL_cons (avA_shut' rfl) (avAL_nil))) (Or.inl rfl) rfl rfl (Nat.le_of_ble_eq_true rfl) ?_
  conv => whnf
  refine Br.f ff_ ?_
  conv => whnf
  refine Br.f ff_ ?_
  conv => whnf
  refine br_d H (fun c H => ?_) (fun c H => ?_)
  conv => whnf
  refine Br.t ft_ ?_
  conv => whnf
  refine Br.t ft_ ?_
  conv => whnf
  refine Br.t ft_ ?_
  conv => whnf
  refine Br.t ft_ ?_
  conv => whnf
  refine cut_ 528 [(1, .bp 0 0), (3, .int .i64 x3), (67, .bool true)] [(0, .box [(sv_str a0_0), (sv_S_impl_PlantFoe a0_1), (sv_S_impl_PlantPlace a0_2), (sv_S_impl_PlantValve a0_3)])] rfl ⟨.inl rfl, ⟨.inl rfl, ⟨.inl rfl, trivial⟩⟩⟩ ⟨rfl, trivial⟩ ?_
  conv => whnf
  refine Br.t rfl ?_
  conv => whnf
  refine cut_ 536 [(2, .bool false)] [] rfl ⟨.inl rfl, trivial⟩ trivial ?_
  conv => whnf
  injection H with H; subst H
  exact ret_fz [] (rtA_eq rfl)
  conv => whnf
  refine Br.f ff_ ?_
  conv => whnf
  refine Br.f ff_ ?_
  conv => whnf
  revert H; refine bind_elim (fun t266 A H => ?_)
  refine call_mk (spec_l2NameOk.ac A) (avAL_cons (avA_shut' rfl) (avAL_nil)) (Or.inl rfl) rfl rfl (Nat.le_of_ble_eq_true rfl) ?_
  conv => whnf
  refine Br.f ff_ ?_
  conv => whnf
  refine Br.f ff_ ?_
  conv => whnf
  refine cut_ 528 [(1, .bp 0 0), (3, .int .i64 x3), (67, .bool (!t266))] [(0, .box [(sv_str a0_0), (sv_S_impl_PlantFoe a0_1), (sv_S_impl_PlantPlace a0_2), (sv_S_impl_PlantValve a0_3)])] rfl ⟨.inl rfl, ⟨.inl rfl, ⟨.inl rfl, trivial⟩⟩⟩ ⟨rfl, trivial⟩ ?_
  conv => whnf
  refine br_nt H (fun c H => ?_) (fun c H => ?_)
  conv => whnf
  exact ⟨(k, wrap64 (x3 + 1)), [], ⟨H, lt_⟩, lt_, (fits_of ⟨.inl ⟨rfl, rfl⟩, trivial⟩ trivial fi_ trivial rfl)⟩
  conv => whnf
  refine cut_ 536 [(2, .bool false)] [] rfl ⟨.inl rfl, trivial⟩ trivial ?_
  conv => whnf
  injection H with H; subst H
  exact ret_fz [] (rtA_eq rfl)
  conv => whnf
  refine Br.t ft_ ?_
  conv => whnf
  refine Br.t ft_ ?_
  conv => whnf
  refine Br.t ft_ ?_
  conv => whnf
  refine Br.t ft_ ?_
  conv => whnf
  refine Br.t ft_ ?_
  conv => whnf
  refine Br.t rfl ?_
  conv => whnf
  refine Br.t rfl ?_
  conv => whnf
  refine Br.t rfl ?_
  conv => whnf
  refine Br.t rfl ?_
  conv => whnf
  refine Br.t rfl ?_
  conv => whnf
  refine Br.t rfl ?_
  conv => whnf
  refine Br.t rfl ?_
  conv => whnf
  refine Br.t rfl ?_
  conv => whnf
  refine Br.t rfl ?_
  conv => whnf
  refine Br.t rfl ?_
  conv => whnf
  refine Br.t rfl ?_
  conv => whnf
  refine cut_ 528 [(1, .bp 0 0), (3, .int .i64 x3), (67, .bool true)] [(0, .box [(sv_str a0_0), (sv_S_impl_PlantFoe a0_1), (sv_S_impl_PlantPlace a0_2), (sv_S_impl_PlantValve a0_3)])] rfl ⟨.inl rfl, ⟨.inl rfl, ⟨.inl rfl, trivial⟩⟩⟩ ⟨rfl, trivial⟩ ?_
  conv => whnf
  refine Br.t rfl ?_
  conv => whnf
  refine cut_ 536 [(2, .bool false)] [] rfl ⟨.inl rfl, trivial⟩ trivial ?_
  conv => whnf
  injection H with H; subst H
  exact ret_fz [] (rtA_eq rfl)
  conv => whnf
  refine Br.t ft_ ?_
  conv => whnf
  refine Br.t ft_ ?_
  conv => whnf
  refine Br.t ft_ ?_
  conv => whnf
  refine Br.t ft_ ?_
  conv => whnf
  refine Br.t rfl ?_
  conv => whnf
  refine Br.t rfl ?_
  conv => whnf
  refine Br.t rfl ?_
  conv => whnf
  refine Br.t rfl ?_
  conv => whnf
  refine Br.t rfl ?_
  conv => whnf
  refine Br.t rfl ?_
  conv => whnf
  refine Br.t rfl ?_
  conv => whnf
  refine Br.t rfl ?_
  conv => whnf
  refine Br.t rfl ?_
  conv => whnf
  refine Br.t rfl ?_
  conv => whnf
  refine Br.t rfl ?_
  conv => whnf
  refine Br.t rfl ?_
  conv => whnf
  refine Br.t rfl ?_
  conv => whnf
  refine Br.t rfl ?_
  conv => whnf
  refine Br.t rfl ?_
  conv => whnf
  refine Br.t rfl ?_
  conv => whnf
  refine Br.t rfl ?_
  conv => whnf
  refine Br.t rfl ?_
  conv => whnf
  refine Br.t rfl ?_
  conv => whnf
  refine Br.t rfl ?_
  conv => whnf
  refine Br.t rfl ?_
  conv => whnf
  refine Br.t rfl ?_
  conv => whnf
  refine Br.t rfl ?_
  conv => whnf
  refine cut_ 528 [(1, .bp 0 0), (3, .int .i64 x3), (67, .bool true)] [(0, .box [(sv_str a0_0), (sv_S_impl_PlantFoe a0_1), (sv_S_impl_PlantPlace a0_2), (sv_S_impl_PlantValve a0_3)])] rfl ⟨.inl rfl, ⟨.inl rfl, ⟨.inl rfl, trivial⟩⟩⟩ ⟨rfl, trivial⟩ ?_
  conv => whnf
  refine Br.t rfl ?_
  conv => whnf
  refine cut_ 536 [(2, .bool false)] [] rfl ⟨.inl rfl, trivial⟩ trivial ?_
  conv => whnf
  injection H with H; subst H
  exact ret_fz [] (rtA_eq rfl)
  conv => whnf
  injection H with H; subst H
  exact ret_fz [] (rtA_eq rfl)
theorem spec_PlantValid.ac {k : Nat} {a0_0 : List ByteArray} {a0_1 : List S_impl_PlantFoe} {a0_2 : List S_impl_PlantPlace} {a0_3 : List S_impl_PlantValve} {r : Bool} (H : spec_PlantValid.f k a0_0 a0_1 a0_2 a0_3 = some r) : ACalls Try.prog G 72 [] [.agg [(sv_str a0_0), (sv_S_impl_PlantFoe a0_1), (sv_S_impl_PlantPlace a0_2), (sv_S_impl_PlantValve a0_3)]] [] (.bool r) := by
  refine acalls_of tok hP Try.func72 rfl (by kernel_rfl) [.tmp 2] rfl (by kernel_rfl) (Nat.le_of_ble_eq_true rfl) (.l .n (.c .n .n)) rfl ?_
  unfold spec_PlantValid.f at H
  conv => whnf
  revert H; refine bind_elim (fun t270 A H => ?_)
  refine call_mk (spec_l2StuffsOk.ac A) (avAL_cons (avA_agg (avL_cons (av_shut' rfl) (avL_cons (av_shut' rfl) (avL_cons (av_shut' rfl) (avL_cons (av_shut' rfl) (avL_nil)))))) (avAL_nil)) (Or.inl rfl) rfl rfl (Nat.le_of_ble_eq_true rfl) ?_
  conv => whnf
  refine br_t H (fun c H => ?_) (fun c H => ?_)
  conv => whnf
  refine Br.t ft_ ?_
  conv => whnf
  revert H; refine bind_elim (fun t271 A H => ?_)
  refine call_mk (spec_l2PlacesOk.ac A) (avAL_cons (avA_agg (avL_cons (av_shut' rfl) (avL_cons (av_shut' rfl) (avL_cons (av_shut' rfl) (avL_cons (av_shut' rfl) (avL_nil)))))) (avAL_nil)) (Or.inl rfl) rfl rfl (Nat.le_of_ble_eq_true rfl) ?_
  conv => whnf
  refine Br.t ft_ ?_
  conv => whnf
  refine br_t H (fun c H => ?_) (fun c H => ?_)
  conv => whnf
  refine Br.t ft_ ?_
  conv => whnf
  revert H; refine bind_elim (fun t272 A H => ?_)
  refine call_mk (spec_l2ValvesOk.ac A) (avAL_cons (avA_agg (avL_cons (av_shut' rfl) (avL_cons (av_shut' rfl) (avL_cons (av_shut' rfl) (avL_cons (av_shut' rfl) (avL_nil)))))) (avAL_nil)) (Or.inl rfl) rfl rfl (Nat.le_of_ble_eq_true rfl) ?_
  conv => whnf
  refine Br.t ft_ ?_
  conv => whnf
  refine cut_ 104 [(2, .bool t272)] [] rfl ⟨.inl rfl, trivial⟩ trivial ?_
  conv => whnf
  injection H with H; subst H
  exact ret_fz [] (rtA_eq rfl)
  conv => whnf
  refine Br.f ff_ ?_
  conv => whnf
  refine Br.f ff_ ?_
  conv => whnf
  refine cut_ 104 [(2, .bool false)] [] rfl ⟨.inl rfl, trivial⟩ trivial ?_
  conv => whnf
  injection H with H; subst H
  exact ret_fz [] (rtA_eq rfl)
  conv => whnf
  refine Br.f ff_ ?_
  conv => whnf
  refine Br.f ff_ ?_
  conv => whnf
  refine Br.f rfl ?_
  conv => whnf
  refine Br.f rfl ?_
  conv => whnf
  refine Br.f rfl ?_
  conv => whnf
  refine cut_ 104 [(2, .bool false)] [] rfl ⟨.inl rfl, trivial⟩ trivial ?_
  conv => whnf
  injection H with H; subst H
  exact ret_fz [] (rtA_eq rfl)
theorem spec_l4Insert.l0_lp {F : (Exit → St → Prop) → St → Prop} {hv : List Tmp} {Q : Exit → St → Prop} {σ : St} {r : List ByteArray} {k : Nat} {l0 : List ByteArray} {a1 : ByteArray} {x5 : Int} (H : spec_l4Insert.l0 k l0 a1 x5 = some r) (rn : List (Option Nat)) (h1 : Fits σ σ [] [(5, .int .i64 x5)] [] [] rn)
    (h2 : ∀ (k0 : Nat) (x5 : Int), k0 < k + 1 → spec_l4Insert.l0 k0 l0 a1 x5 = some r → headN σ hv [] [(5, .int .i64 x5)] [] [] (F (fun e σ' => match e with | .normal => ∃ (y : Nat × Int) (rn : List (Option Nat)), (spec_l4Insert.l0 y.1 l0 a1 y.2 = some r ∧ y.1 < k + 1) ∧ y.1 < k0 ∧ Fits σ σ' [] [(5, .int .i64 y.2)] [] [] rn | e => Q e σ'))) : Lp F hv Q σ := by
  unfold Lp
  refine ⟨Nat × Int, fun x => spec_l4Insert.l0 x.1 l0 a1 x.2 = some r ∧ x.1 < k + 1, fun x => x.1, [], fun x => [(5, .int .i64 x.2)], fun x => [], fun x => [], ⟨(k, x5), rn, ⟨H, Nat.lt_succ_self _⟩, h1⟩, ?_⟩
  rintro ⟨k, x5⟩ ⟨H, hk⟩
  exact h2 k x5 hk H
theorem spec_l4Insert.ac {k : Nat} {l0 : List ByteArray} {a1 : ByteArray} {r : List ByteArray} (H : spec_l4Insert.f k l0 a1 = some r) : ACalls Try.prog G 137 [] [(sv_str l0), .str a1] [] ((sv_str r)) := by
  refine acalls_of tok hP Try.func137 rfl (by kernel_rfl) [.tmp 4] rfl (by kernel_rfl) (Nat.le_of_ble_eq_true rfl) (.l .n (.l .n (.l (.l (.c .n .n) .n) (.l (.c .n .n) (.c .n .n))))) rfl ?_
  unfold spec_l4Insert.f at H
  conv => whnf
  refine spec_l4Insert.l0_lp (l0 := l0) (a1 := a1) (k := k) H [] (fits_of ⟨.inl ⟨rfl, rfl⟩, trivial⟩ trivial fi_ trivial rfl) ?_
  intro k x5 hk H; rcases k with _ | k; exact none_elim H; rw [spec_l4Insert.l0] at H; conv => whnf
  refine br_d H (fun c H => ?_) (fun c H => ?_)
  conv => whnf
  refine Br.t ft_ ?_
  conv => whnf
  refine Br.t ft_ ?_
  conv => whnf
  refine nd_ H (fun c H => ?_)
  conv => whnf
  refine Nd.mk nf_ ?_
  conv => whnf
  refine El.mk (rdm_en_str _ _ nf_ nf_) ?_
  conv => whnf
  refine Br.t ft_ ?_
  conv => whnf
  refine Br.t ft_ ?_
  conv => whnf
  refine Br.t ft_ ?_
  conv => whnf
  refine Br.t ft_ ?_
  conv => whnf
  refine cut_ 112 [(0, (sv_str l0)), (1, .str a1), (5, .int .i64 x5), (17, .bool (Op.bytesLess (rdOf ByteArray.empty l0 x5).toList a1.toList))] [] rfl ⟨.inl rfl, ⟨.inl rfl, ⟨.inl rfl, ⟨.inl rfl, trivial⟩⟩⟩⟩ trivial ?_
  conv => whnf
  refine br_t H (fun c H => ?_) (fun c H => ?_)
  conv => whnf
  exact ⟨(k, wrap64 (x5 + 1)), [], ⟨H, lt_⟩, lt_, (fits_of ⟨.inl ⟨rfl, rfl⟩, trivial⟩ trivial fi_ trivial rfl)⟩
  conv => whnf
  refine Br.t ft_ ?_
  conv => whnf
  refine Br.t ft_ ?_
  conv => whnf
  refine Br.t ft_ ?_
  conv => whnf
  refine Nd.mk nf_ ?_
  conv => whnf
  refine Nd.mk nf_ ?_
  conv => whnf
  refine El.mk (rdm_en_str _ _ nf_ nf_) ?_
  conv => whnf
  refine Br.t ft_ ?_
  conv => whnf
  refine Br.t ft_ ?_
  conv => whnf
  refine Br.t ft_ ?_
  conv => whnf
  refine Br.t ft_ ?_
  conv => whnf
  refine cut_ 208 [(0, (sv_str l0)), (1, .str a1), (5, .int .i64 x5), (31, .bool (decide ((rdOf ByteArray.empty l0 x5).toList = a1.toList)))] [] rfl ⟨.inl rfl, ⟨.inl rfl, ⟨.inl rfl, ⟨.inl rfl, trivial⟩⟩⟩⟩ trivial ?_
  conv => whnf
  refine br_d H (fun c H => ?_) (fun c H => ?_)
  conv => whnf
  injection H with H; subst H
  exact ret_fz [] (rtA_eq rfl)
  conv => whnf
  refine Or.inl ?_
  conv => whnf
  refine Nd.mk nf_ ?_
  conv => whnf
  refine nd_ H (fun c H => ?_)
  conv => whnf
  refine nd_ H (fun c H => ?_)
  conv => whnf
  refine Or.inl ?_
  conv => whnf
  refine nd_ H (fun c H => ?_)
  conv => whnf
  refine Nd.mk nf_ ?_
  conv => whnf
  refine Nd.mk nf_ ?_
  conv => whnf
  refine nd_ H (fun c H => ?_)
  conv => whnf
  refine cut_ 312 [(4, .own 296 (0 + (x5).toNat + 1 + (l0.length - (x5).toNat)))] [(296, .arr 9 1 ((((([] : List ByteArray) ++ (l0.take (x5).toNat)) ++ ([a1] : List ByteArray)) ++ (l0.drop (x5).toNat)).map en_str))] rfl ⟨.inl rfl, trivial⟩ ⟨fm_, trivial⟩ ?_
  conv => whnf
  injection H with H; subst H
  exact ret_fz [296] (rtA_fzD rfl lm_ lm_ rfl)
  conv => whnf
  refine Br.f ff_ ?_
  conv => whnf
  refine Br.f ff_ ?_
  conv => whnf
  refine Br.f ff_ ?_
  conv => whnf
  refine Br.f ff_ ?_
  conv => whnf
  refine Br.f ff_ ?_
  conv => whnf
  refine Br.f ff_ ?_
  conv => whnf
  refine cut_ 112 [(0, (sv_str l0)), (1, .str a1), (5, .int .i64 x5), (17, .bool false)] [] rfl ⟨.inl rfl, ⟨.inl rfl, ⟨.inl rfl, ⟨.inl rfl, trivial⟩⟩⟩⟩ trivial ?_
  conv => whnf
  refine Br.f rfl ?_
  conv => whnf
  refine Br.f ff_ ?_
  conv => whnf
  refine Br.f ff_ ?_
  conv => whnf
  refine Br.f ff_ ?_
  conv => whnf
  refine Br.f ff_ ?_
  conv => whnf
  refine Br.f ff_ ?_
  conv => whnf
  refine Br.f ff_ ?_
  conv => whnf
  refine Br.f ff_ ?_
  conv => whnf
  refine cut_ 208 [(0, (sv_str l0)), (1, .str a1), (5, .int .i64 x5), (31, .bool false)] [] rfl ⟨.inl rfl, ⟨.inl rfl, ⟨.inl rfl, ⟨.inl rfl, trivial⟩⟩⟩⟩ trivial ?_
  conv => whnf
  refine Br.f rfl ?_
  conv => whnf
  refine Or.inl ?_
  conv => whnf
  refine nd_ H (fun c H => ?_)
  conv => whnf
  refine nd_ H (fun c H => ?_)
  conv => whnf
  refine nd_ H (fun c H => ?_)
  conv => whnf
  refine Or.inl ?_
  conv => whnf
  refine nd_ H (fun c H => ?_)
  conv => whnf
  refine Nd.mk nf_ ?_
  conv => whnf
  refine Nd.mk nf_ ?_
  conv => whnf
  refine nd_ H (fun c H => ?_)
  conv => whnf
  refine cut_ 312 [(4, .own 296 (0 + (x5).toNat + 1 + (l0.length - (x5).toNat)))] [(296, .arr 9 1 ((((([] : List ByteArray) ++ (l0.take (x5).toNat)) ++ ([a1] : List ByteArray)) ++ (l0.drop (x5).toNat)).map en_str))] rfl ⟨.inl rfl, trivial⟩ ⟨fm_, trivial⟩ ?_
  conv => whnf
  injection H with H; subst H
  exact ret_fz [296] (rtA_fzD rfl lm_ lm_ rfl)
theorem spec_l4Group.l1_lp {F : (Exit → St → Prop) → St → Prop} {hv : List Tmp} {Q : Exit → St → Prop} {σ : St} {r : List ByteArray} {k : Nat} {a0_2 : List S_impl_PlantPlace} {a0_3 : List S_impl_PlantValve} {l1 : List ByteArray} {x8 : Int} {x7_1 : List ByteArray} {x9 : Int} (H : spec_l4Group.l1 k a0_2 a0_3 l1 x7_1 x8 x9 = some r) (rn : List (Option Nat)) (h1 : Fits σ σ [] [(7, (sv_str x7_1)), (9, .int .i64 x9)] [] [] rn)
    (h2 : ∀ (k0 : Nat) (x7_1 : List ByteArray) (x9 : Int), k0 < k + 1 → spec_l4Group.l1 k0 a0_2 a0_3 l1 x7_1 x8 x9 = some r → headN σ hv [] [(7, (sv_str x7_1)), (9, .int .i64 x9)] [] [] (F (fun e σ' => match e with | .normal => ∃ (y : Nat × (List ByteArray) × Int) (rn : List (Option Nat)), (spec_l4Group.l1 y.1 a0_2 a0_3 l1 y.2.1 x8 y.2.2 = some r ∧ y.1 < k + 1) ∧ y.1 < k0 ∧ Fits σ σ' [] [(7, (sv_str y.2.1)), (9, .int .i64 y.2.2)] [] [] rn | e => Q e σ'))) : Lp F hv Q σ := by
  unfold Lp
  refine ⟨Nat × (List ByteArray) × Int, fun x => spec_l4Group.l1 x.1 a0_2 a0_3 l1 x.2.1 x8 x.2.2 = some r ∧ x.1 < k + 1, fun x => x.1, [], fun x => [(7, (sv_str x.2.1)), (9, .int .i64 x.2.2)], fun x => [], fun x => [], ⟨(k, x7_1, x9), rn, ⟨H, Nat.lt_succ_self _⟩, h1⟩, ?_⟩
  rintro ⟨k, x7_1, x9⟩ ⟨H, hk⟩
  exact h2 k x7_1 x9 hk H
theorem spec_l4Group.l0_lp {F : (Exit → St → Prop) → St → Prop} {hv : List Tmp} {Q : Exit → St → Prop} {σ : St} {r : List ByteArray} {k : Nat} {a0_2 : List S_impl_PlantPlace} {a0_3 : List S_impl_PlantValve} {l1 : List ByteArray} {x7 : List ByteArray} {x8 : Int} (H : spec_l4Group.l0 k a0_2 a0_3 l1 x7 x8 = some r) (rn : List (Option Nat)) (h1 : Fits σ σ [] [(7, (sv_str x7)), (8, .int .i64 x8)] [] [] rn)
    (h2 : ∀ (k0 : Nat) (x7 : List ByteArray) (x8 : Int), k0 < k + 1 → spec_l4Group.l0 k0 a0_2 a0_3 l1 x7 x8 = some r → headN σ hv [] [(7, (sv_str x7)), (8, .int .i64 x8)] [] [] (F (fun e σ' => match e with | .normal => ∃ (y : Nat × (List ByteArray) × Int) (rn : List (Option Nat)), (spec_l4Group.l0 y.1 a0_2 a0_3 l1 y.2.1 y.2.2 = some r ∧ y.1 < k + 1) ∧ y.1 < k0 ∧ Fits σ σ' [] [(7, (sv_str y.2.1)), (8, .int .i64 y.2.2)] [] [] rn | e => Q e σ'))) : Lp F hv Q σ := by
  unfold Lp
  refine ⟨Nat × (List ByteArray) × Int, fun x => spec_l4Group.l0 x.1 a0_2 a0_3 l1 x.2.1 x.2.2 = some r ∧ x.1 < k + 1, fun x => x.1, [], fun x => [(7, (sv_str x.2.1)), (8, .int .i64 x.2.2)], fun x => [], fun x => [], ⟨(k, x7, x8), rn, ⟨H, Nat.lt_succ_self _⟩, h1⟩, ?_⟩
  rintro ⟨k, x7, x8⟩ ⟨H, hk⟩
  exact h2 k x7 x8 hk H
theorem spec_l4Group.ac {k : Nat} {a0_0 : List ByteArray} {a0_1 : List S_impl_PlantFoe} {a0_2 : List S_impl_PlantPlace} {a0_3 : List S_impl_PlantValve} {l1 : List ByteArray} {a2 : ByteArray} {r : List ByteArray} (H : spec_l4Group.f k a0_0 a0_1 a0_2 a0_3 l1 a2 = some r) : ACalls Try.prog G 86 [] [.agg [(sv_str a0_0), (sv_S_impl_PlantFoe a0_1), (sv_S_impl_PlantPlace a0_2), (sv_S_impl_PlantValve a0_3)], (sv_str l1), .str a2] [] ((sv_str r)) := by
  refine acalls_of tok hP Try.func86 rfl (by kernel_rfl) [.tmp 6] rfl (by kernel_rfl) (Nat.le_of_ble_eq_true rfl) (.l .n (.l .n (.l (.f 0 .n (.l .n (.l (.l .n (.l (.c .n .n) (.l (.l .n (.c .n .n)) .n))) .n))) .n))) rfl ?_
  unfold spec_l4Group.f at H
  conv => whnf
  refine Or.inl ?_
  conv => whnf
  refine cutF_ 48 [24] [(1, (sv_str l1)), (3, .bp 0 0), (7, (sv_str ([a2] : List ByteArray))), (8, .int .i64 0)] [(0, .box [(sv_str a0_0), (sv_S_impl_PlantFoe a0_1), (sv_S_impl_PlantPlace a0_2), (sv_S_impl_PlantValve a0_3)])] rfl rfl ⟨.inl (.inl rfl), ⟨.inl (.inl rfl), ⟨.inl (fz_own rfl rfl (.inr lm_) lm_), ⟨.inl (.inl rfl), trivial⟩⟩⟩⟩ ⟨.inl (rfl), trivial⟩ ?_
  conv => whnf
  refine spec_l4Group.l0_lp (a0_2 := a0_2) (a0_3 := a0_3) (l1 := l1) (k := k) H [] (fits_of ⟨.inl ⟨rfl, rfl⟩, ⟨.inl ⟨rfl, rfl⟩, trivial⟩⟩ trivial fi_ trivial rfl) ?_
  intro k x7 x8 hk H; rcases k with _ | k; exact none_elim H; rw [spec_l4Group.l0] at H; conv => whnf
  refine br_d H (fun c H => ?_) (fun c H => ?_)
  conv => whnf
  refine spec_l4Group.l1_lp (a0_2 := a0_2) (a0_3 := a0_3) (l1 := l1) (x8 := x8) (k := k) H [] (fits_of ⟨.inl ⟨rfl, rfl⟩, ⟨.inl ⟨rfl, rfl⟩, trivial⟩⟩ trivial fi_ trivial rfl) ?_
  intro k x7_1 x9 hk H; rcases k with _ | k; exact none_elim H; rw [spec_l4Group.l1] at H; conv => whnf
  refine cut_ 136 [(1, (sv_str l1)), (3, .bp 0 0), (7, (sv_str x7_1)), (8, .int .i64 x8), (9, .int .i64 x9), (24, .bool (decide (x9 < (a0_3.length : Int))))] [(0, .box [(sv_str a0_0), (sv_S_impl_PlantFoe a0_1), (sv_S_impl_PlantPlace a0_2), (sv_S_impl_PlantValve a0_3)])] rfl ⟨.inl rfl, ⟨.inl rfl, ⟨.inl rfl, ⟨.inl rfl, ⟨.inl rfl, ⟨.inl rfl, trivial⟩⟩⟩⟩⟩⟩ ⟨rfl, trivial⟩ ?_
  conv => whnf
  refine br_d H (fun c H => ?_) (fun c H => ?_)
  conv => whnf
  refine nd_ H (fun c H => ?_)
  conv => whnf
  refine Nd.mk nf_ ?_
  conv => whnf
  refine El.mk (rdm_en_S_impl_PlantValve _ _ nf_ nf_) ?_
  conv => whnf
  revert H; refine bind_elim (fun t460 A H => ?_)
  refine call_mk (spec_l2Has.ac A) (avAL_cons (avA_shut' rfl) (avAL_cons (avA_shut' rfl) (avAL_nil))) (Or.inl rfl) rfl rfl (Nat.le_of_ble_eq_true rfl) ?_
  conv => whnf
  refine br_t H (fun c H => ?_) (fun c H => ?_)
  conv => whnf
  refine Br.t ft_ ?_
  conv => whnf
  refine Br.t ft_ ?_
  conv => whnf
  refine Br.t ft_ ?_
  conv => whnf
  revert H; refine bind_elim (fun t461 A H => ?_)
  refine call_mk (spec_l2Has.ac A) (avAL_cons (avA_shut' rfl) (avAL_cons (avA_shut' rfl) (avAL_nil))) (Or.inl rfl) rfl rfl (Nat.le_of_ble_eq_true rfl) ?_
  conv => whnf
  refine Br.t ft_ ?_
  conv => whnf
  refine Br.t ft_ ?_
  conv => whnf
  refine Br.t ft_ ?_
  conv => whnf
  refine Br.t ft_ ?_
  conv => whnf
  revert H; refine bind_elim (fun t462 A H => ?_)
  refine call_mk (spec_l2Has.ac A) (avAL_cons (avA_shut' rfl) (avAL_cons (avA_shut' rfl) (avAL_nil))) (Or.inl rfl) rfl rfl (Nat.le_of_ble_eq_true rfl) ?_
  conv => whnf
  refine Br.t ft_ ?_
  conv => whnf
  refine Br.t ft_ ?_
  conv => whnf
  refine cut_ 312 [(1, (sv_str l1)), (3, .bp 0 0), (7, (sv_str x7_1)), (8, .int .i64 x8), (9, .int .i64 x9), (10, .bp 176 0), (46, .bool (t461 != t462))] [(0, .box [(sv_str a0_0), (sv_S_impl_PlantFoe a0_1), (sv_S_impl_PlantPlace a0_2), (sv_S_impl_PlantValve a0_3)]), (176, .box [.str ((rd_impl_PlantValve a0_3 x9).f0), .str ((rd_impl_PlantValve a0_3 x9).f1), .str ((rd_impl_PlantValve a0_3 x9).f2), .str ((rd_impl_PlantValve a0_3 x9).f3)])] rfl ⟨.inl rfl, ⟨.inl rfl, ⟨.inl rfl, ⟨.inl rfl, ⟨.inl rfl, ⟨.inl rfl, ⟨.inl rfl, trivial⟩⟩⟩⟩⟩⟩⟩ ⟨rfl, ⟨rfl, trivial⟩⟩ ?_
  conv => whnf
  refine br_t H (fun c H => ?_) (fun c H => ?_)
  conv => whnf
  revert H; refine bind_elim (fun t463 A H => ?_)
  refine call_mk (spec_l4Insert.ac A) (avAL_cons (avA_shut' rfl) (avAL_cons (avA_shut' rfl) (avAL_nil))) (Or.inl rfl) rfl rfl (Nat.le_of_ble_eq_true rfl) ?_
  conv => whnf
  revert H; refine bind_elim (fun t464 A H => ?_)
  refine call_mk (spec_l4Insert.ac A) (avAL_cons (avA_shut' rfl) (avAL_cons (avA_shut' rfl) (avAL_nil))) (Or.inl rfl) rfl rfl (Nat.le_of_ble_eq_true rfl) ?_
  conv => whnf
  exact ⟨(k, t464, wrap64 (x9 + 1)), [], ⟨H, lt_⟩, lt_, (fits_of ⟨.inl ⟨rfl, rfl⟩, ⟨.inl ⟨rfl, rfl⟩, trivial⟩⟩ trivial fi_ trivial rfl)⟩
  conv => whnf
  exact ⟨(k, _, wrap64 (x9 + 1)), [], ⟨H, lt_⟩, lt_, (fits_of ⟨.inl ⟨rfl, rfl⟩, ⟨.inl ⟨rfl, rfl⟩, trivial⟩⟩ trivial fi_ trivial rfl)⟩
  conv => whnf
  refine Br.f ff_ ?_
  conv => whnf
  refine Br.f ff_ ?_
  conv => whnf
  refine Br.f ff_ ?_
  conv => whnf
  refine Br.f ff_ ?_
  conv => whnf
  refine Br.f ff_ ?_
  conv => whnf
  refine Br.f ff_ ?_
  conv => whnf
  refine Br.f ff_ ?_
  conv => whnf
  refine Br.f ff_ ?_
  conv => whnf
  refine Br.f ff_ ?_
  conv => whnf
  refine cut_ 312 [(1, (sv_str l1)), (3, .bp 0 0), (7, (sv_str x7_1)), (8, .int .i64 x8), (9, .int .i64 x9), (10, .bp 176 0), (46, .bool false)] [(0, .box [(sv_str a0_0), (sv_S_impl_PlantFoe a0_1), (sv_S_impl_PlantPlace a0_2), (sv_S_impl_PlantValve a0_3)]), (176, .box [.str ((rd_impl_PlantValve a0_3 x9).f0), .str ((rd_impl_PlantValve a0_3 x9).f1), .str ((rd_impl_PlantValve a0_3 x9).f2), .str ((rd_impl_PlantValve a0_3 x9).f3)])] rfl ⟨.inl rfl, ⟨.inl rfl, ⟨.inl rfl, ⟨.inl rfl, ⟨.inl rfl, ⟨.inl rfl, ⟨.inl rfl, trivial⟩⟩⟩⟩⟩⟩⟩ ⟨rfl, ⟨rfl, trivial⟩⟩ ?_
  conv => whnf
  refine Br.f rfl ?_
  conv => whnf
  exact ⟨(k, _, wrap64 (x9 + 1)), [], ⟨H, lt_⟩, lt_, (fits_of ⟨.inl ⟨rfl, rfl⟩, ⟨.inl ⟨rfl, rfl⟩, trivial⟩⟩ trivial fi_ trivial rfl)⟩
  conv => whnf
  exact ⟨(k, x7_1, wrap64 (x8 + 1)), [], ⟨H, lt_⟩, lt_, (fits_of ⟨.inl ⟨rfl, rfl⟩, ⟨.inl ⟨rfl, rfl⟩, trivial⟩⟩ trivial fi_ trivial rfl)⟩
  conv => whnf
  injection H with H; subst H
  exact ret_fz [] (rtA_eq rfl)
theorem spec_PlantGroups.l0_lp {F : (Exit → St → Prop) → St → Prop} {hv : List Tmp} {Q : Exit → St → Prop} {σ : St} {r : List S_impl_PlantSet} {k : Nat} {a0_0 : List ByteArray} {a0_1 : List S_impl_PlantFoe} {a0_2 : List S_impl_PlantPlace} {a0_3 : List S_impl_PlantValve} {l1 : List ByteArray} {x5 : List S_impl_PlantSet} {x6 : Int} (H : spec_PlantGroups.l0 k a0_0 a0_1 a0_2 a0_3 l1 x5 x6 = some r) (rn : List (Option Nat)) (h1 : Fits σ σ [16] [(5, .own 0 x5.length), (6, .int .i64 x6)] [] [.arr 107 1 (x5.map en_S_impl_PlantSet)] rn)
    (h2 : ∀ (k0 : Nat) (x5 : List S_impl_PlantSet) (x6 : Int), k0 < k + 1 → spec_PlantGroups.l0 k0 a0_0 a0_1 a0_2 a0_3 l1 x5 x6 = some r → headN σ hv [16] [(5, .own 0 x5.length), (6, .int .i64 x6)] [] [.arr 107 1 (x5.map en_S_impl_PlantSet)] (F (fun e σ' => match e with | .normal => ∃ (y : Nat × (List S_impl_PlantSet) × Int) (rn : List (Option Nat)), (spec_PlantGroups.l0 y.1 a0_0 a0_1 a0_2 a0_3 l1 y.2.1 y.2.2 = some r ∧ y.1 < k + 1) ∧ y.1 < k0 ∧ Fits σ σ' [16] [(5, .own 0 y.2.1.length), (6, .int .i64 y.2.2)] [] [.arr 107 1 (y.2.1.map en_S_impl_PlantSet)] rn | e => Q e σ'))) : Lp F hv Q σ := by
  unfold Lp
  refine ⟨Nat × (List S_impl_PlantSet) × Int, fun x => spec_PlantGroups.l0 x.1 a0_0 a0_1 a0_2 a0_3 l1 x.2.1 x.2.2 = some r ∧ x.1 < k + 1, fun x => x.1, [16], fun x => [(5, .own 0 x.2.1.length), (6, .int .i64 x.2.2)], fun x => [], fun x => [.arr 107 1 (x.2.1.map en_S_impl_PlantSet)], ⟨(k, x5, x6), rn, ⟨H, Nat.lt_succ_self _⟩, h1⟩, ?_⟩
  rintro ⟨k, x5, x6⟩ ⟨H, hk⟩
  exact h2 k x5 x6 hk H
theorem spec_PlantGroups.ac {k : Nat} {a0_0 : List ByteArray} {a0_1 : List S_impl_PlantFoe} {a0_2 : List S_impl_PlantPlace} {a0_3 : List S_impl_PlantValve} {l1 : List ByteArray} {r : List S_impl_PlantSet} (H : spec_PlantGroups.f k a0_0 a0_1 a0_2 a0_3 l1 = some r) : ACalls Try.prog G 31 [] [.agg [(sv_str a0_0), (sv_S_impl_PlantFoe a0_1), (sv_S_impl_PlantPlace a0_2), (sv_S_impl_PlantValve a0_3)], (sv_str l1)] [] ((sv_S_impl_PlantSet r)) := by
  refine acalls_of tok hP Try.func31 rfl (by kernel_rfl) [.tmp 4] rfl (by kernel_rfl) (Nat.le_of_ble_eq_true rfl) (.l .n (.l .n (.l .n (.l (.l .n (.l (.c .n .n) (.l (.c .n (.c .n .n)) .n))) .n)))) rfl ?_
  unfold spec_PlantGroups.f at H
  conv => whnf
  refine Or.inl ?_
  conv => whnf
  revert H; refine bind_elim (fun t467 A H => ?_)
  refine call_mk (spec_PlantValid.ac A) (avAL_cons (avA_agg (avL_cons (av_shut' rfl) (avL_cons (av_shut' rfl) (avL_cons (av_shut' rfl) (avL_cons (av_shut' rfl) (avL_nil)))))) (avAL_nil)) (Or.inl rfl) rfl rfl (Nat.le_of_ble_eq_true rfl) ?_
  conv => whnf
  refine br_nt H (fun c H => ?_) (fun c H => ?_)
  conv => whnf
  refine spec_PlantGroups.l0_lp (a0_0 := a0_0) (a0_1 := a0_1) (a0_2 := a0_2) (a0_3 := a0_3) (l1 := l1) (k := k) H [some 16] (fits_of ⟨mt_own lm_, ⟨.inl ⟨rfl, rfl⟩, trivial⟩⟩ ⟨fm_, trivial⟩ fi_ trivial rfl) ?_
  intro k x5 x6 hk H; rcases k with _ | k; exact none_elim H; rw [spec_PlantGroups.l0] at H; conv => whnf
  refine cut_ 105 [(1, (sv_str l1)), (2, .bp 0 0), (5, .own 64 x5.length), (6, .int .i64 x6), (17, .bool (decide (x6 < (a0_2.length : Int))))] [(0, .box [(sv_str a0_0), (sv_S_impl_PlantFoe a0_1), (sv_S_impl_PlantPlace a0_2), (sv_S_impl_PlantValve a0_3)]), (64, .arr 107 1 (x5.map en_S_impl_PlantSet))] rfl ⟨.inl rfl, ⟨.inl rfl, ⟨.inl rfl, ⟨.inl rfl, ⟨.inl rfl, trivial⟩⟩⟩⟩⟩ ⟨rfl, ⟨rfl, trivial⟩⟩ ?_
  conv => whnf
  refine br_d H (fun c H => ?_) (fun c H => ?_)
  conv => whnf
  refine nd_ H (fun c H => ?_)
  conv => whnf
  refine Nd.mk nf_ ?_
  conv => whnf
  refine El.mk (rdm_en_S_impl_PlantPlace _ _ nf_ nf_) ?_
  conv => whnf
  revert H; refine bind_elim (fun t473 A H => ?_)
  refine call_mk (spec_l4Group.ac A) (avAL_cons (avA_agg (avL_cons (av_shut' rfl) (avL_cons (av_shut' rfl) (avL_cons (av_shut' rfl) (avL_cons (av_shut' rfl) (avL_nil)))))) (avAL_cons (avA_shut' rfl) (avAL_cons (avA_shut' rfl) (avAL_nil)))) (Or.inl rfl) rfl rfl (Nat.le_of_ble_eq_true rfl) ?_
  conv => whnf
  refine cut_ 185 [(1, (sv_str l1)), (2, .bp 0 0), (5, .own 64 x5.length), (6, .int .i64 x6), (7, (sv_str t473))] [(0, .box [(sv_str a0_0), (sv_S_impl_PlantFoe a0_1), (sv_S_impl_PlantPlace a0_2), (sv_S_impl_PlantValve a0_3)]), (64, .arr 107 1 (x5.map en_S_impl_PlantSet))] rfl ⟨.inl rfl, ⟨.inl rfl, ⟨.inl rfl, ⟨.inl rfl, ⟨.inl rfl, trivial⟩⟩⟩⟩⟩ ⟨rfl, ⟨rfl, trivial⟩⟩ ?_
  conv => whnf
  refine Nd.mk (by decide) ?_
  conv => whnf
  refine nd_ H (fun c H => ?_)
  conv => whnf
  refine El.mk (rdm_en_str _ _ nf_ nf_) ?_
  conv => whnf
  refine Nd.mk nf_ ?_
  conv => whnf
  refine Nd.mk nf_ ?_
  conv => whnf
  refine El.mk (rdm_en_S_impl_PlantPlace _ _ nf_ nf_) ?_
  conv => whnf
  refine cut_ 265 [(1, (sv_str l1)), (2, .bp 0 0), (5, .own 64 x5.length), (6, .int .i64 x6), (7, (sv_str t473)), (38, .bool (decide ((rdOf ByteArray.empty t473 0).toList = ((rd_impl_PlantPlace a0_2 x6).f0).toList)))] [(0, .box [(sv_str a0_0), (sv_S_impl_PlantFoe a0_1), (sv_S_impl_PlantPlace a0_2), (sv_S_impl_PlantValve a0_3)]), (64, .arr 107 1 (x5.map en_S_impl_PlantSet))] rfl ⟨.inl rfl, ⟨.inl rfl, ⟨.inl rfl, ⟨.inl rfl, ⟨.inl rfl, ⟨.inl rfl, trivial⟩⟩⟩⟩⟩⟩ ⟨rfl, ⟨rfl, trivial⟩⟩ ?_
  conv => whnf
  refine br_d H (fun c H => ?_) (fun c H => ?_)
  conv => whnf
  refine Or.inl ?_
  conv => whnf
  refine nd_ H (fun c H => ?_)
  conv => whnf
  exact ⟨(k, (x5 ++ ([(⟨t473⟩ : S_impl_PlantSet)] : List S_impl_PlantSet)), wrap64 (x6 + 1)), [some 297], ⟨H, lt_⟩, lt_, (fits_of ⟨mt_own lm_, ⟨.inl ⟨rfl, rfl⟩, trivial⟩⟩ ⟨fm_, trivial⟩ fi_ trivial rfl)⟩
  conv => whnf
  exact ⟨(k, x5, wrap64 (x6 + 1)), [some 64], ⟨H, lt_⟩, lt_, (fits_of ⟨rfl, ⟨.inl ⟨rfl, rfl⟩, trivial⟩⟩ ⟨rfl, trivial⟩ fi_ trivial rfl)⟩
  conv => whnf
  injection H with H; subst H
  exact ret_fz [64] (rtA_fz' rfl rfl)
  conv => whnf
  injection H with H; subst H
  exact ret_fz [16] (rtA_fzD rfl lm_ lm_ rfl)
theorem impl_isName.l0_lp {F : (Exit → St → Prop) → St → Prop} {hv : List Tmp} {Q : Exit → St → Prop} {σ : St} {r : Bool} {k : Nat} {a0 : ByteArray} {x7 : Int} (H : impl_isName.l0 k a0 x7 = some r) (rn : List (Option Nat)) (h1 : Fits σ σ [] [(7, .int .i64 x7)] [] [] rn)
    (h2 : ∀ (k0 : Nat) (x7 : Int), k0 < k + 1 → impl_isName.l0 k0 a0 x7 = some r → headN σ hv [] [(7, .int .i64 x7)] [] [] (F (fun e σ' => match e with | .normal => ∃ (y : Nat × Int) (rn : List (Option Nat)), (impl_isName.l0 y.1 a0 y.2 = some r ∧ y.1 < k + 1) ∧ y.1 < k0 ∧ Fits σ σ' [] [(7, .int .i64 y.2)] [] [] rn | e => Q e σ'))) : Lp F hv Q σ := by
  unfold Lp
  refine ⟨Nat × Int, fun x => impl_isName.l0 x.1 a0 x.2 = some r ∧ x.1 < k + 1, fun x => x.1, [], fun x => [(7, .int .i64 x.2)], fun x => [], fun x => [], ⟨(k, x7), rn, ⟨H, Nat.lt_succ_self _⟩, h1⟩, ?_⟩
  rintro ⟨k, x7⟩ ⟨H, hk⟩
  exact h2 k x7 hk H
theorem impl_isName.ac {k : Nat} {a0 : ByteArray} {r : Bool} (H : impl_isName.f k a0 = some r) : ACalls Try.prog G 143 [] [.str a0] [] (.bool r) := by
  refine acalls_of tok hP Try.func143 rfl (by kernel_rfl) [.tmp 2] rfl (by kernel_rfl) (Nat.le_of_ble_eq_true rfl) (.l .n (.l (.l .n (.l .n (.l .n (.l (.l .n (.c .n (.c .n (.l (.c .n .n) .n)))) .n)))) (.c .n .n))) rfl ?_
  unfold impl_isName.f at H
  conv => whnf
  refine impl_isName.l0_lp (a0 := a0) (k := k) H [] (fits_of ⟨.inl ⟨rfl, rfl⟩, trivial⟩ trivial fi_ trivial rfl) ?_
  intro k x7 hk H; rcases k with _ | k; exact none_elim H; rw [impl_isName.l0] at H; conv => whnf
  refine br_d H (fun c H => ?_) (fun c H => ?_)
  conv => whnf
  refine nd_ H (fun c H => ?_)
  conv => whnf
  refine Nd.mk nf_ ?_
  conv => whnf
  refine cut_ 88 [(0, .str a0), (4, .int .u8 (bt a0 x7)), (6, .int .i64 (a0.size : Int)), (7, .int .i64 x7)] [] rfl ⟨.inl rfl, ⟨.inl rfl, ⟨.inl rfl, ⟨.inl rfl, trivial⟩⟩⟩⟩ trivial ?_
  conv => whnf
  refine br_d H (fun c H => ?_) (fun c H => ?_)
  conv => whnf
  refine Br.t ft_ ?_
  conv => whnf
  refine Br.t ft_ ?_
  conv => whnf
  refine Br.t rfl ?_
  conv => whnf
  refine Br.t rfl ?_
  conv => whnf
  refine Br.t rfl ?_
  conv => whnf
  refine br_d H (fun c H => ?_) (fun c H => ?_)
  conv => whnf
  refine Br.t ft_ ?_
  conv => whnf
  refine Br.t rfl ?_
  conv => whnf
  refine Br.t ft_ ?_
  conv => whnf
  refine Br.t rfl ?_
  conv => whnf
  refine Br.t rfl ?_
  conv => whnf
  refine Br.t rfl ?_
  conv => whnf
  refine Br.t rfl ?_
  conv => whnf
  refine cut_ 232 [(0, .str a0), (6, .int .i64 (a0.size : Int)), (7, .int .i64 x7), (30, .bool (!(decide ((bt a0 x7) = 45))))] [] rfl ⟨.inl rfl, ⟨.inl rfl, ⟨.inl rfl, ⟨.inl rfl, trivial⟩⟩⟩⟩ trivial ?_
  conv => whnf
  refine br_nd H (fun c H => ?_) (fun c H => ?_)
  conv => whnf
  exact ⟨(k, wrap64 (x7 + 1)), [], ⟨H, lt_⟩, lt_, (fits_of ⟨.inl ⟨rfl, rfl⟩, trivial⟩ trivial fi_ trivial rfl)⟩
  conv => whnf
  refine cut_ 240 [(2, .bool false)] [] rfl ⟨.inl rfl, trivial⟩ trivial ?_
  conv => whnf
  injection H with H; subst H
  exact ret_fz [] (rtA_eq rfl)
  conv => whnf
  refine Br.f ff_ ?_
  conv => whnf
  refine Br.t rfl ?_
  conv => whnf
  refine Br.f ff_ ?_
  conv => whnf
  refine Br.t rfl ?_
  conv => whnf
  refine br_d H (fun c H => ?_) (fun c H => ?_)
  conv => whnf
  refine Br.t ft_ ?_
  conv => whnf
  refine Br.t ft_ ?_
  conv => whnf
  refine cut_ 232 [(0, .str a0), (6, .int .i64 (a0.size : Int)), (7, .int .i64 x7), (30, .bool (!(decide ((bt a0 x7) = 45))))] [] rfl ⟨.inl rfl, ⟨.inl rfl, ⟨.inl rfl, ⟨.inl rfl, trivial⟩⟩⟩⟩ trivial ?_
  conv => whnf
  refine br_nd H (fun c H => ?_) (fun c H => ?_)
  conv => whnf
  exact ⟨(k, wrap64 (x7 + 1)), [], ⟨H, lt_⟩, lt_, (fits_of ⟨.inl ⟨rfl, rfl⟩, trivial⟩ trivial fi_ trivial rfl)⟩
  conv => whnf
  refine cut_ 240 [(2, .bool false)] [] rfl ⟨.inl rfl, trivial⟩ trivial ?_
  conv => whnf
  injection H with H; subst H
  exact ret_fz [] (rtA_eq rfl)
  conv => whnf
  refine Br.f ff_ ?_
  conv => whnf
  refine Br.f ff_ ?_
  conv => whnf
  refine cut_ 232 [(0, .str a0), (6, .int .i64 (a0.size : Int)), (7, .int .i64 x7), (30, .bool false)] [] rfl ⟨.inl rfl, ⟨.inl rfl, ⟨.inl rfl, ⟨.inl rfl, trivial⟩⟩⟩⟩ trivial ?_
  conv => whnf
  refine Br.f rfl ?_
  conv => whnf
  exact ⟨(k, wrap64 (x7 + 1)), [], ⟨H, lt_⟩, lt_, (fits_of ⟨.inl ⟨rfl, rfl⟩, trivial⟩ trivial fi_ trivial rfl)⟩
  conv => whnf
  refine Br.f ff_ ?_
  conv => whnf
  refine Br.f ff_ ?_
  conv => whnf
  refine br_d H (fun c H => ?_) (fun c H => ?_)
  conv => whnf
  refine Br.t ft_ ?_
  conv => whnf
  refine Br.t ft_ ?_
  conv => whnf
  refine br_d H (fun c H => ?_) (fun c H => ?_)
  conv => whnf
  refine Br.t ft_ ?_
  conv => whnf
  refine Br.t ft_ ?_
  conv => whnf
  refine Br.t ft_ ?_
  conv => whnf
  refine Br.t ft_ ?_
  conv => whnf
  refine Br.t rfl ?_
  conv => whnf
  refine Br.t rfl ?_
  conv => whnf
  refine Br.t rfl ?_
  conv => whnf
  refine cut_ 232 [(0, .str a0), (6, .int .i64 (a0.size : Int)), (7, .int .i64 x7), (30, .bool (!(decide ((bt a0 x7) = 45))))] [] rfl ⟨.inl rfl, ⟨.inl rfl, ⟨.inl rfl, ⟨.inl rfl, trivial⟩⟩⟩⟩ trivial ?_
  conv => whnf
  refine br_nd H (fun c H => ?_) (fun c H => ?_)
  conv => whnf
  exact ⟨(k, wrap64 (x7 + 1)), [], ⟨H, lt_⟩, lt_, (fits_of ⟨.inl ⟨rfl, rfl⟩, trivial⟩ trivial fi_ trivial rfl)⟩
  conv => whnf
  refine cut_ 240 [(2, .bool false)] [] rfl ⟨.inl rfl, trivial⟩ trivial ?_
  conv => whnf
  injection H with H; subst H
  exact ret_fz [] (rtA_eq rfl)
  conv => whnf
  refine Br.f ff_ ?_
  conv => whnf
  refine Br.t ft_ ?_
  conv => whnf
  refine Br.f ff_ ?_
  conv => whnf
  refine Br.t ft_ ?_
  conv => whnf
  refine br_d H (fun c H => ?_) (fun c H => ?_)
  conv => whnf
  refine Br.t ft_ ?_
  conv => whnf
  refine Br.t ft_ ?_
  conv => whnf
  refine cut_ 232 [(0, .str a0), (6, .int .i64 (a0.size : Int)), (7, .int .i64 x7), (30, .bool (!(decide ((bt a0 x7) = 45))))] [] rfl ⟨.inl rfl, ⟨.inl rfl, ⟨.inl rfl, ⟨.inl rfl, trivial⟩⟩⟩⟩ trivial ?_
  conv => whnf
  refine br_nd H (fun c H => ?_) (fun c H => ?_)
  conv => whnf
  exact ⟨(k, wrap64 (x7 + 1)), [], ⟨H, lt_⟩, lt_, (fits_of ⟨.inl ⟨rfl, rfl⟩, trivial⟩ trivial fi_ trivial rfl)⟩
  conv => whnf
  refine cut_ 240 [(2, .bool false)] [] rfl ⟨.inl rfl, trivial⟩ trivial ?_
  conv => whnf
  injection H with H; subst H
  exact ret_fz [] (rtA_eq rfl)
  conv => whnf
  refine Br.f ff_ ?_
  conv => whnf
  refine Br.f ff_ ?_
  conv => whnf
  refine cut_ 232 [(0, .str a0), (6, .int .i64 (a0.size : Int)), (7, .int .i64 x7), (30, .bool false)] [] rfl ⟨.inl rfl, ⟨.inl rfl, ⟨.inl rfl, ⟨.inl rfl, trivial⟩⟩⟩⟩ trivial ?_
  conv => whnf
  refine Br.f rfl ?_
  conv => whnf
  exact ⟨(k, wrap64 (x7 + 1)), [], ⟨H, lt_⟩, lt_, (fits_of ⟨.inl ⟨rfl, rfl⟩, trivial⟩ trivial fi_ trivial rfl)⟩
  conv => whnf
  refine Br.f ff_ ?_
  conv => whnf
  refine Br.f ff_ ?_
  conv => whnf
  refine Br.f ff_ ?_
  conv => whnf
  refine Br.f ff_ ?_
  conv => whnf
  refine Br.f rfl ?_
  conv => whnf
  refine Br.f rfl ?_
  conv => whnf
  refine Br.f rfl ?_
  conv => whnf
  refine cut_ 232 [(0, .str a0), (6, .int .i64 (a0.size : Int)), (7, .int .i64 x7), (30, .bool false)] [] rfl ⟨.inl rfl, ⟨.inl rfl, ⟨.inl rfl, ⟨.inl rfl, trivial⟩⟩⟩⟩ trivial ?_
  conv => whnf
  refine Br.f rfl ?_
  conv => whnf
  exact ⟨(k, wrap64 (x7 + 1)), [], ⟨H, lt_⟩, lt_, (fits_of ⟨.inl ⟨rfl, rfl⟩, trivial⟩ trivial fi_ trivial rfl)⟩
  conv => whnf
  refine br_d H (fun c H => ?_) (fun c H => ?_)
  conv => whnf
  refine Br.t ft_ ?_
  conv => whnf
  refine Br.t ft_ ?_
  conv => whnf
  refine Br.t ft_ ?_
  conv => whnf
  refine cut_ 112 [(2, .bool (decide ((a0.size : Int) ≤ 8)))] [] rfl ⟨.inl rfl, trivial⟩ trivial ?_
  conv => whnf
  injection H with H; subst H
  exact ret_fz [] (rtA_eq rfl)
  conv => whnf
  refine Br.f ff_ ?_
  conv => whnf
  refine Br.f ff_ ?_
  conv => whnf
  refine Br.f ff_ ?_
  conv => whnf
  refine cut_ 112 [(2, .bool false)] [] rfl ⟨.inl rfl, trivial⟩ trivial ?_
  conv => whnf
  injection H with H; subst H
  exact ret_fz [] (rtA_eq rfl)
theorem impl_rising.l0_lp {F : (Exit → St → Prop) → St → Prop} {hv : List Tmp} {Q : Exit → St → Prop} {σ : St} {r : Bool} {k : Nat} {l0 : List ByteArray} {x3 : Int} (H : impl_rising.l0 k l0 x3 = some r) (rn : List (Option Nat)) (h1 : Fits σ σ [] [(3, .int .i64 x3)] [] [] rn)
    (h2 : ∀ (k0 : Nat) (x3 : Int), k0 < k + 1 → impl_rising.l0 k0 l0 x3 = some r → headN σ hv [] [(3, .int .i64 x3)] [] [] (F (fun e σ' => match e with | .normal => ∃ (y : Nat × Int) (rn : List (Option Nat)), (impl_rising.l0 y.1 l0 y.2 = some r ∧ y.1 < k + 1) ∧ y.1 < k0 ∧ Fits σ σ' [] [(3, .int .i64 y.2)] [] [] rn | e => Q e σ'))) : Lp F hv Q σ := by
  unfold Lp
  refine ⟨Nat × Int, fun x => impl_rising.l0 x.1 l0 x.2 = some r ∧ x.1 < k + 1, fun x => x.1, [], fun x => [(3, .int .i64 x.2)], fun x => [], fun x => [], ⟨(k, x3), rn, ⟨H, Nat.lt_succ_self _⟩, h1⟩, ?_⟩
  rintro ⟨k, x3⟩ ⟨H, hk⟩
  exact h2 k x3 hk H
theorem impl_rising.ac {k : Nat} {l0 : List ByteArray} {r : Bool} (H : impl_rising.f k l0 = some r) : ACalls Try.prog G 183 [] [(sv_str l0)] [] (.bool r) := by
  refine acalls_of tok hP Try.func183 rfl (by kernel_rfl) [.tmp 2] rfl (by kernel_rfl) (Nat.le_of_ble_eq_true rfl) (.l .n (.l (.l .n (.l .n (.l (.c .n .n) .n))) .n)) rfl ?_
  unfold impl_rising.f at H
  conv => whnf
  refine impl_rising.l0_lp (l0 := l0) (k := k) H [] (fits_of ⟨.inl ⟨rfl, rfl⟩, trivial⟩ trivial fi_ trivial rfl) ?_
  intro k x3 hk H; rcases k with _ | k; exact none_elim H; rw [impl_rising.l0] at H; conv => whnf
  refine br_d H (fun c H => ?_) (fun c H => ?_)
  conv => whnf
  refine nd_ H (fun c H => ?_)
  conv => whnf
  refine nd_ H (fun c H => ?_)
  conv => whnf
  refine El.mk (rdm_en_str _ _ nf_ nf_) ?_
  conv => whnf
  refine nd_ H (fun c H => ?_)
  conv => whnf
  refine Nd.mk nf_ ?_
  conv => whnf
  refine El.mk (rdm_en_str _ _ nf_ nf_) ?_
  conv => whnf
  refine cut_ 128 [(0, (sv_str l0)), (3, .int .i64 x3), (19, .bool (!(Op.bytesLess (rdOf ByteArray.empty l0 (wrap64 (x3 - 1))).toList (rdOf ByteArray.empty l0 x3).toList)))] [] rfl ⟨.inl rfl, ⟨.inl rfl, ⟨.inl rfl, trivial⟩⟩⟩ trivial ?_
  conv => whnf
  refine br_nt H (fun c H => ?_) (fun c H => ?_)
  conv => whnf
  exact ⟨(k, wrap64 (x3 + 1)), [], ⟨H, lt_⟩, lt_, (fits_of ⟨.inl ⟨rfl, rfl⟩, trivial⟩ trivial fi_ trivial rfl)⟩
  conv => whnf
  injection H with H; subst H
  exact ret_fz [] (rtA_eq rfl)
  conv => whnf
  injection H with H; subst H
  exact ret_fz [] (rtA_eq rfl)
theorem impl_names.l0_lp {F : (Exit → St → Prop) → St → Prop} {hv : List Tmp} {Q : Exit → St → Prop} {σ : St} {r : Bool} {k : Nat} {l0 : List ByteArray} {x7 : Int} (H : impl_names.l0 k l0 x7 = some r) (rn : List (Option Nat)) (h1 : Fits σ σ [] [(7, .int .i64 x7)] [] [] rn)
    (h2 : ∀ (k0 : Nat) (x7 : Int), k0 < k + 1 → impl_names.l0 k0 l0 x7 = some r → headN σ hv [] [(7, .int .i64 x7)] [] [] (F (fun e σ' => match e with | .normal => ∃ (y : Nat × Int) (rn : List (Option Nat)), (impl_names.l0 y.1 l0 y.2 = some r ∧ y.1 < k + 1) ∧ y.1 < k0 ∧ Fits σ σ' [] [(7, .int .i64 y.2)] [] [] rn | e => Q e σ'))) : Lp F hv Q σ := by
  unfold Lp
  refine ⟨Nat × Int, fun x => impl_names.l0 x.1 l0 x.2 = some r ∧ x.1 < k + 1, fun x => x.1, [], fun x => [(7, .int .i64 x.2)], fun x => [], fun x => [], ⟨(k, x7), rn, ⟨H, Nat.lt_succ_self _⟩, h1⟩, ?_⟩
  rintro ⟨k, x7⟩ ⟨H, hk⟩
  exact h2 k x7 hk H
theorem impl_names.ac {k : Nat} {l0 : List ByteArray} {r : Bool} (H : impl_names.f k l0 = some r) : ACalls Try.prog G 140 [] [(sv_str l0)] [] (.bool r) := by
  refine acalls_of tok hP Try.func140 rfl (by kernel_rfl) [.tmp 2] rfl (by kernel_rfl) (Nat.le_of_ble_eq_true rfl) (.l .n (.l (.l .n (.l .n (.l .n (.l (.l .n (.c .n .n)) .n)))) .n)) rfl ?_
  unfold impl_names.f at H
  conv => whnf
  refine impl_names.l0_lp (l0 := l0) (k := k) H [] (fits_of ⟨.inl ⟨rfl, rfl⟩, trivial⟩ trivial fi_ trivial rfl) ?_
  intro k x7 hk H; rcases k with _ | k; exact none_elim H; rw [impl_names.l0] at H; conv => whnf
  refine br_d H (fun c H => ?_) (fun c H => ?_)
  conv => whnf
  refine nd_ H (fun c H => ?_)
  conv => whnf
  refine Nd.mk nf_ ?_
  conv => whnf
  refine El.mk (rdm_en_str _ _ nf_ nf_) ?_
  conv => whnf
  revert H; refine bind_elim (fun t551 A H => ?_)
  refine call_mk (impl_isName.ac A) (avAL_cons (avA_shut' rfl) (avAL_nil)) (Or.inl rfl) rfl rfl (Nat.le_of_ble_eq_true rfl) ?_
  conv => whnf
  refine cut_ 88 [(0, (sv_str l0)), (5, (sv_str l0)), (6, .int .i64 (l0.length : Int)), (7, .int .i64 x7), (13, .bool (!t551))] [] rfl ⟨.inl rfl, ⟨.inl rfl, ⟨.inl rfl, ⟨.inl rfl, ⟨.inl rfl, trivial⟩⟩⟩⟩⟩ trivial ?_
  conv => whnf
  refine br_nt H (fun c H => ?_) (fun c H => ?_)
  conv => whnf
  exact ⟨(k, wrap64 (x7 + 1)), [], ⟨H, lt_⟩, lt_, (fits_of ⟨.inl ⟨rfl, rfl⟩, trivial⟩ trivial fi_ trivial rfl)⟩
  conv => whnf
  injection H with H; subst H
  exact ret_fz [] (rtA_eq rfl)
  conv => whnf
  revert H; refine bind_elim (fun t553 A H => ?_)
  refine call_mk (impl_rising.ac A) (avAL_cons (avA_shut' rfl) (avAL_nil)) (Or.inl rfl) rfl rfl (Nat.le_of_ble_eq_true rfl) ?_
  conv => whnf
  injection H with H; subst H
  exact ret_fz [] (rtA_eq rfl)
theorem impl_Plant_pairs.l0_lp {F : (Exit → St → Prop) → St → Prop} {hv : List Tmp} {Q : Exit → St → Prop} {σ : St} {r : List S_A2_string} {k : Nat} {a0_1 : List S_impl_PlantFoe} {x2 : List S_A2_string} {x8 : Int} (H : impl_Plant_pairs.l0 k a0_1 x2 x8 = some r) (rn : List (Option Nat)) (h1 : Fits σ σ [0] [(2, .own 0 x2.length), (8, .int .i64 x8)] [] [.arr 204 2 (x2.map en_S_A2_string)] rn)
    (h2 : ∀ (k0 : Nat) (x2 : List S_A2_string) (x8 : Int), k0 < k + 1 → impl_Plant_pairs.l0 k0 a0_1 x2 x8 = some r → headN σ hv [0] [(2, .own 0 x2.length), (8, .int .i64 x8)] [] [.arr 204 2 (x2.map en_S_A2_string)] (F (fun e σ' => match e with | .normal => ∃ (y : Nat × (List S_A2_string) × Int) (rn : List (Option Nat)), (impl_Plant_pairs.l0 y.1 a0_1 y.2.1 y.2.2 = some r ∧ y.1 < k + 1) ∧ y.1 < k0 ∧ Fits σ σ' [0] [(2, .own 0 y.2.1.length), (8, .int .i64 y.2.2)] [] [.arr 204 2 (y.2.1.map en_S_A2_string)] rn | e => Q e σ'))) : Lp F hv Q σ := by
  unfold Lp
  refine ⟨Nat × (List S_A2_string) × Int, fun x => impl_Plant_pairs.l0 x.1 a0_1 x.2.1 x.2.2 = some r ∧ x.1 < k + 1, fun x => x.1, [0], fun x => [(2, .own 0 x.2.1.length), (8, .int .i64 x.2.2)], fun x => [], fun x => [.arr 204 2 (x.2.1.map en_S_A2_string)], ⟨(k, x2, x8), rn, ⟨H, Nat.lt_succ_self _⟩, h1⟩, ?_⟩
  rintro ⟨k, x2, x8⟩ ⟨H, hk⟩
  exact h2 k x2 x8 hk H
theorem impl_Plant_pairs.ac {k : Nat} {a0_0 : List ByteArray} {a0_1 : List S_impl_PlantFoe} {a0_2 : List S_impl_PlantPlace} {a0_3 : List S_impl_PlantValve} {r : List S_A2_string} (H : impl_Plant_pairs.f k a0_0 a0_1 a0_2 a0_3 = some r) : ACalls Try.prog G 142 [] [.agg [(sv_str a0_0), (sv_S_impl_PlantFoe a0_1), (sv_S_impl_PlantPlace a0_2), (sv_S_impl_PlantValve a0_3)]] [] ((sv_S_A2_string r)) := by
  refine acalls_of tok hP Try.func142 rfl (by kernel_rfl) [.tmp 2] rfl (by kernel_rfl) (Nat.le_of_ble_eq_true rfl) (.l .n (.l (.l .n (.l .n (.l .n (.l (.c .n .n) .n)))) .n)) rfl ?_
  unfold impl_Plant_pairs.f at H
  conv => whnf
  refine impl_Plant_pairs.l0_lp (a0_1 := a0_1) (k := k) H [none] (fits_of ⟨⟨rfl, rfl⟩, ⟨.inl ⟨rfl, rfl⟩, trivial⟩⟩ ⟨rfl, trivial⟩ fi_ trivial rfl) ?_
  intro k x2 x8 hk H; rcases k with _ | k; exact none_elim H; rw [impl_Plant_pairs.l0] at H; conv => whnf
  refine br_d H (fun c H => ?_) (fun c H => ?_)
  conv => whnf
  refine nd_ H (fun c H => ?_)
  conv => whnf
  refine Nd.mk nf_ ?_
  conv => whnf
  refine El.mk (rdm_en_S_impl_PlantFoe _ _ nf_ nf_) ?_
  conv => whnf
  refine cut_ 89 [(2, .own 48 x2.length), (4, .bp 73 0), (6, (sv_S_impl_PlantFoe a0_1)), (7, .int .i64 (a0_1.length : Int)), (8, .int .i64 x8)] [(48, .arr 204 2 (x2.map en_S_A2_string)), (73, .box [.str ((rd_impl_PlantFoe a0_1 x8).f0), .str ((rd_impl_PlantFoe a0_1 x8).f1)])] rfl ⟨.inl rfl, ⟨.inl rfl, ⟨.inl rfl, ⟨.inl rfl, ⟨.inl rfl, trivial⟩⟩⟩⟩⟩ ⟨rfl, ⟨rfl, trivial⟩⟩ ?_
  conv => whnf
  refine Or.inl ?_
  conv => whnf
  refine nd_ H (fun c H => ?_)
  conv => whnf
  exact ⟨(k, (x2 ++ ([(⟨(rd_impl_PlantFoe a0_1 x8).f0, (rd_impl_PlantFoe a0_1 x8).f1⟩ : S_A2_string)] : List S_A2_string)), wrap64 (x8 + 1)), [some 145], ⟨H, lt_⟩, lt_, (fits_of ⟨mt_own lm_, ⟨.inl ⟨rfl, rfl⟩, trivial⟩⟩ ⟨fm_, trivial⟩ fi_ trivial rfl)⟩
  conv => whnf
  injection H with H; subst H
  exact ret_fz [48] (rtA_fz' rfl rfl)
theorem impl_foesOk.l0_lp {F : (Exit → St → Prop) → St → Prop} {hv : List Tmp} {Q : Exit → St → Prop} {σ : St} {r : Bool} {k : Nat} {l0 : List S_A2_string} {a1 : Int} {x9 : Int} (H : impl_foesOk.l0 k l0 a1 x9 = some r) (rn : List (Option Nat)) (h1 : Fits σ σ [] [(9, .int .i64 x9)] [] [] rn)
    (h2 : ∀ (k0 : Nat) (x9 : Int), k0 < k + 1 → impl_foesOk.l0 k0 l0 a1 x9 = some r → headN σ hv [] [(9, .int .i64 x9)] [] [] (F (fun e σ' => match e with | .normal => ∃ (y : Nat × Int) (rn : List (Option Nat)), (impl_foesOk.l0 y.1 l0 a1 y.2 = some r ∧ y.1 < k + 1) ∧ y.1 < k0 ∧ Fits σ σ' [] [(9, .int .i64 y.2)] [] [] rn | e => Q e σ'))) : Lp F hv Q σ := by
  unfold Lp
  refine ⟨Nat × Int, fun x => impl_foesOk.l0 x.1 l0 a1 x.2 = some r ∧ x.1 < k + 1, fun x => x.1, [], fun x => [(9, .int .i64 x.2)], fun x => [], fun x => [], ⟨(k, x9), rn, ⟨H, Nat.lt_succ_self _⟩, h1⟩, ?_⟩
  rintro ⟨k, x9⟩ ⟨H, hk⟩
  exact h2 k x9 hk H
theorem impl_foesOk.ac {k : Nat} {l0 : List S_A2_string} {a1 : Int} {r : Bool} (H : impl_foesOk.f k l0 a1 = some r) : ACalls Try.prog G 141 [] [(sv_S_A2_string l0), .int .i64 a1] [] (.bool r) := by
  refine acalls_of tok hP Try.func141 rfl (by kernel_rfl) [.tmp 4] rfl (by kernel_rfl) (Nat.le_of_ble_eq_true rfl) (.l .n (.l (.l .n (.l .n (.l .n (.l (.c .n (.l (.c .n (.l (.c .n .n) .n)) (.c .n (.l (.c .n .n) .n)))) .n)))) (.c .n .n))) rfl ?_
  unfold impl_foesOk.f at H
  conv => whnf
  refine impl_foesOk.l0_lp (l0 := l0) (a1 := a1) (k := k) H [] (fits_of ⟨.inl ⟨rfl, rfl⟩, trivial⟩ trivial fi_ trivial rfl) ?_
  intro k x9 hk H; rcases k with _ | k; exact none_elim H; rw [impl_foesOk.l0] at H; conv => whnf
  refine br_d H (fun c H => ?_) (fun c H => ?_)
  conv => whnf
  refine nd_ H (fun c H => ?_)
  conv => whnf
  refine Nd.mk nf_ ?_
  conv => whnf
  refine El.mk (rdm_en_S_A2_string _ _ nf_ nf_) ?_
  conv => whnf
  refine cut_ 88 [(0, (sv_S_A2_string l0)), (1, .int .i64 a1), (5, .int .i64 x9), (6, .bp 64 0), (7, (sv_S_A2_string l0)), (8, .int .i64 (l0.length : Int)), (9, .int .i64 x9)] [(64, .box [.str ((rd_A2_string l0 x9).f0), .str ((rd_A2_string l0 x9).f1)])] rfl ⟨.inl rfl, ⟨.inl rfl, ⟨.inl rfl, ⟨.inl rfl, ⟨.inl rfl, ⟨.inl rfl, ⟨.inl rfl, trivial⟩⟩⟩⟩⟩⟩⟩ ⟨rfl, trivial⟩ ?_
  conv => whnf
  revert H; refine bind_elim (fun t593 A H => ?_)
  refine call_mk (impl_isName.ac A) (avAL_cons (avA_shut' rfl) (avAL_nil)) (Or.inl rfl) rfl rfl (Nat.le_of_ble_eq_true rfl) ?_
  conv => whnf
  refine br_nt H (fun c H => ?_) (fun c H => ?_)
  conv => whnf
  refine Br.f ff_ ?_
  conv => whnf
  refine Br.f ff_ ?_
  conv => whnf
  revert H; refine bind_elim (fun t594 A H => ?_)
  refine call_mk (impl_isName.ac A) (avAL_cons (avA_shut' rfl) (avAL_nil)) (Or.inl rfl) rfl rfl (Nat.le_of_ble_eq_true rfl) ?_
  conv => whnf
  refine Br.f ff_ ?_
  conv => whnf
  refine Br.f ff_ ?_
  conv => whnf
  refine br_nt H (fun c H => ?_) (fun c H => ?_)
  conv => whnf
  refine Br.f ff_ ?_
  conv => whnf
  refine Br.f ff_ ?_
  conv => whnf
  refine Br.f ff_ ?_
  conv => whnf
  refine Br.f ff_ ?_
  conv => whnf
  refine Br.f ff_ ?_
  conv => whnf
  refine cut_ 224 [(0, (sv_S_A2_string l0)), (1, .int .i64 a1), (5, .int .i64 x9), (6, .bp 64 0), (7, (sv_S_A2_string l0)), (8, .int .i64 (l0.length : Int)), (9, .int .i64 x9), (30, .bool (!(Op.bytesLess ((rd_A2_string l0 x9).f0).toList ((rd_A2_string l0 x9).f1).toList)))] [(64, .box [.str ((rd_A2_string l0 x9).f0), .str ((rd_A2_string l0 x9).f1)])] rfl ⟨.inl rfl, ⟨.inl rfl, ⟨.inl rfl, ⟨.inl rfl, ⟨.inl rfl, ⟨.inl rfl, ⟨.inl rfl, ⟨.inl rfl, trivial⟩⟩⟩⟩⟩⟩⟩⟩ ⟨rfl, trivial⟩ ?_
  conv => whnf
  refine br_nt H (fun c H => ?_) (fun c H => ?_)
  conv => whnf
  refine br_d H (fun c H => ?_) (fun c H => ?_)
  conv => whnf
  refine Br.t ft_ ?_
  conv => whnf
  refine Br.t ft_ ?_
  conv => whnf
  refine Br.t ft_ ?_
  conv => whnf
  refine nd_ H (fun c H => ?_)
  conv => whnf
  refine nd_ H (fun c H => ?_)
  conv => whnf
  refine El.mk (rdm_en_S_A2_string _ _ nf_ nf_) ?_
  conv => whnf
  refine Br.t ft_ ?_
  conv => whnf
  refine Br.t ft_ ?_
  conv => whnf
  refine Br.t ft_ ?_
  conv => whnf
  refine Br.t ft_ ?_
  conv => whnf
  refine Br.t ft_ ?_
  conv => whnf
  refine Br.t ft_ ?_
  conv => whnf
  refine br_t H (fun c H => ?_) (fun c H => ?_)
  conv => whnf
  refine Br.t ft_ ?_
  conv => whnf
  refine Br.t ft_ ?_
  conv => whnf
  refine Br.t ft_ ?_
  conv => whnf
  refine Br.t ft_ ?_
  conv => whnf
  refine Br.t ft_ ?_
  conv => whnf
  refine Br.t ft_ ?_
  conv => whnf
  refine Br.t ft_ ?_
  conv => whnf
  refine Br.t ft_ ?_
  conv => whnf
  refine Br.t ft_ ?_
  conv => whnf
  refine Br.t ft_ ?_
  conv => whnf
  refine Br.t ft_ ?_
  conv => whnf
  refine Br.t ft_ ?_
  conv => whnf
  refine Br.t ft_ ?_
  conv => whnf
  refine cut_ 504 [(0, (sv_S_A2_string l0)), (1, .int .i64 a1), (7, (sv_S_A2_string l0)), (8, .int .i64 (l0.length : Int)), (9, .int .i64 x9), (65, .bool true)] [] rfl ⟨.inl rfl, ⟨.inl rfl, ⟨.inl rfl, ⟨.inl rfl, ⟨.inl rfl, ⟨.inl rfl, trivial⟩⟩⟩⟩⟩⟩ trivial ?_
  conv => whnf
  refine Br.t rfl ?_
  conv => whnf
  refine cut_ 512 [(4, .bool false)] [] rfl ⟨.inl rfl, trivial⟩ trivial ?_
  conv => whnf
  injection H with H; subst H
  exact ret_fz [] (rtA_eq rfl)
  conv => whnf
  refine Br.f ff_ ?_
  conv => whnf
  refine Br.f ff_ ?_
  conv => whnf
  refine Br.f ff_ ?_
  conv => whnf
  refine Nd.mk nf_ ?_
  conv => whnf
  refine Nd.mk nf_ ?_
  conv => whnf
  refine El.mk (rdm_en_S_A2_string _ _ nf_ nf_) ?_
  conv => whnf
  refine Br.f ff_ ?_
  conv => whnf
  refine Br.f ff_ ?_
  conv => whnf
  refine Br.f ff_ ?_
  conv => whnf
  refine Br.f ff_ ?_
  conv => whnf
  refine Br.f ff_ ?_
  conv => whnf
  refine Br.f ff_ ?_
  conv => whnf
  refine br_d H (fun c H => ?_) (fun c H => ?_)
  conv => whnf
  refine Br.t ft_ ?_
  conv => whnf
  refine Br.t ft_ ?_
  conv => whnf
  refine Br.t ft_ ?_
  conv => whnf
  refine Nd.mk nf_ ?_
  conv => whnf
  refine Nd.mk nf_ ?_
  conv => whnf
  refine El.mk (rdm_en_S_A2_string _ _ nf_ nf_) ?_
  conv => whnf
  refine Br.t ft_ ?_
  conv => whnf
  refine Br.t ft_ ?_
  conv => whnf
  refine Br.t ft_ ?_
  conv => whnf
  refine Br.t ft_ ?_
  conv => whnf
  refine Br.t ft_ ?_
  conv => whnf
  refine Br.f ff_ ?_
  conv => whnf
  refine Br.t ft_ ?_
  conv => whnf
  refine Br.t ft_ ?_
  conv => whnf
  refine Br.f ff_ ?_
  conv => whnf
  refine Br.t ft_ ?_
  conv => whnf
  refine cut_ 504 [(0, (sv_S_A2_string l0)), (1, .int .i64 a1), (7, (sv_S_A2_string l0)), (8, .int .i64 (l0.length : Int)), (9, .int .i64 x9), (65, .bool (!(Op.bytesLess ((rd_A2_string l0 (wrap64 (x9 - 1))).f1).toList ((rd_A2_string l0 x9).f1).toList)))] [] rfl ⟨.inl rfl, ⟨.inl rfl, ⟨.inl rfl, ⟨.inl rfl, ⟨.inl rfl, ⟨.inl rfl, trivial⟩⟩⟩⟩⟩⟩ trivial ?_
  conv => whnf
  refine br_nt H (fun c H => ?_) (fun c H => ?_)
  conv => whnf
  exact ⟨(k, wrap64 (x9 + 1)), [], ⟨H, lt_⟩, lt_, (fits_of ⟨.inl ⟨rfl, rfl⟩, trivial⟩ trivial fi_ trivial rfl)⟩
  conv => whnf
  refine cut_ 512 [(4, .bool false)] [] rfl ⟨.inl rfl, trivial⟩ trivial ?_
  conv => whnf
  injection H with H; subst H
  exact ret_fz [] (rtA_eq rfl)
  conv => whnf
  refine Br.f ff_ ?_
  conv => whnf
  refine Br.f ff_ ?_
  conv => whnf
  refine Br.f ff_ ?_
  conv => whnf
  refine Br.f ff_ ?_
  conv => whnf
  refine Br.f ff_ ?_
  conv => whnf
  refine Br.f ff_ ?_
  conv => whnf
  refine Br.f ff_ ?_
  conv => whnf
  refine Br.f ff_ ?_
  conv => whnf
  refine Br.f ff_ ?_
  conv => whnf
  refine Br.f ff_ ?_
  conv => whnf
  refine Br.t ft_ ?_
  conv => whnf
  refine Br.f ff_ ?_
  conv => whnf
  refine Br.t ft_ ?_
  conv => whnf
  refine cut_ 504 [(0, (sv_S_A2_string l0)), (1, .int .i64 a1), (7, (sv_S_A2_string l0)), (8, .int .i64 (l0.length : Int)), (9, .int .i64 x9), (65, .bool false)] [] rfl ⟨.inl rfl, ⟨.inl rfl, ⟨.inl rfl, ⟨.inl rfl, ⟨.inl rfl, ⟨.inl rfl, trivial⟩⟩⟩⟩⟩⟩ trivial ?_
  conv => whnf
  refine Br.f rfl ?_
  conv => whnf
  exact ⟨(k, wrap64 (x9 + 1)), [], ⟨H, lt_⟩, lt_, (fits_of ⟨.inl ⟨rfl, rfl⟩, trivial⟩ trivial fi_ trivial rfl)⟩
  conv => whnf
  refine Br.f ff_ ?_
  conv => whnf
  refine Br.f ff_ ?_
  conv => whnf
  refine Br.f ff_ ?_
  conv => whnf
  refine Br.f ff_ ?_
  conv => whnf
  refine Br.f ff_ ?_
  conv => whnf
  refine Br.f ff_ ?_
  conv => whnf
  refine Br.f ff_ ?_
  conv => whnf
  refine Br.f ff_ ?_
  conv => whnf
  refine Br.f ff_ ?_
  conv => whnf
  refine Br.f ff_ ?_
  conv => whnf
  refine Br.f ff_ ?_
  conv => whnf
  refine cut_ 504 [(0, (sv_S_A2_string l0)), (1, .int .i64 a1), (7, (sv_S_A2_string l0)), (8, .int .i64 (l0.length : Int)), (9, .int .i64 x9), (65, .bool false)] [] rfl ⟨.inl rfl, ⟨.inl rfl, ⟨.inl rfl, ⟨.inl rfl, ⟨.inl rfl, ⟨.inl rfl, trivial⟩⟩⟩⟩⟩⟩ trivial ?_
  conv => whnf
  refine Br.f rfl ?_
  conv => whnf
  exact ⟨(k, wrap64 (x9 + 1)), [], ⟨H, lt_⟩, lt_, (fits_of ⟨.inl ⟨rfl, rfl⟩, trivial⟩ trivial fi_ trivial rfl)⟩
  conv => whnf
  refine cut_ 232 [(4, .bool false)] [] rfl ⟨.inl rfl, trivial⟩ trivial ?_
  conv => whnf
  injection H with H; subst H
  exact ret_fz [] (rtA_eq rfl)
  conv => whnf
  refine Br.t ft_ ?_
  conv => whnf
  refine Br.t ft_ ?_
  conv => whnf
  refine Br.t ft_ ?_
  conv => whnf
  refine Br.t ft_ ?_
  conv => whnf
  refine Br.t ft_ ?_
  conv => whnf
  refine cut_ 224 [(0, (sv_S_A2_string l0)), (1, .int .i64 a1), (5, .int .i64 x9), (6, .bp 64 0), (7, (sv_S_A2_string l0)), (8, .int .i64 (l0.length : Int)), (9, .int .i64 x9), (30, .bool true)] [(64, .box [.str ((rd_A2_string l0 x9).f0), .str ((rd_A2_string l0 x9).f1)])] rfl ⟨.inl rfl, ⟨.inl rfl, ⟨.inl rfl, ⟨.inl rfl, ⟨.inl rfl, ⟨.inl rfl, ⟨.inl rfl, ⟨.inl rfl, trivial⟩⟩⟩⟩⟩⟩⟩⟩ ⟨rfl, trivial⟩ ?_
  conv => whnf
  refine Br.t rfl ?_
  conv => whnf
  refine cut_ 232 [(4, .bool false)] [] rfl ⟨.inl rfl, trivial⟩ trivial ?_
  conv => whnf
  injection H with H; subst H
  exact ret_fz [] (rtA_eq rfl)
  conv => whnf
  refine Br.t ft_ ?_
  conv => whnf
  refine Br.t ft_ ?_
  conv => whnf
  refine Br.t ft_ ?_
  conv => whnf
  refine Br.t ft_ ?_
  conv => whnf
  refine Br.t rfl ?_
  conv => whnf
  refine Br.t rfl ?_
  conv => whnf
  refine Br.t rfl ?_
  conv => whnf
  refine Br.t rfl ?_
  conv => whnf
  refine Br.t rfl ?_
  conv => whnf
  refine Br.t rfl ?_
  conv => whnf
  refine cut_ 224 [(0, (sv_S_A2_string l0)), (1, .int .i64 a1), (5, .int .i64 x9), (6, .bp 64 0), (7, (sv_S_A2_string l0)), (8, .int .i64 (l0.length : Int)), (9, .int .i64 x9), (30, .bool true)] [(64, .box [.str ((rd_A2_string l0 x9).f0), .str ((rd_A2_string l0 x9).f1)])] rfl ⟨.inl rfl, ⟨.inl rfl, ⟨.inl rfl, ⟨.inl rfl, ⟨.inl rfl, ⟨.inl rfl, ⟨.inl rfl, ⟨.inl rfl, trivial⟩⟩⟩⟩⟩⟩⟩⟩ ⟨rfl, trivial⟩ ?_
  conv => whnf
  refine Br.t rfl ?_
  conv => whnf
  refine cut_ 232 [(4, .bool false)] [] rfl ⟨.inl rfl, trivial⟩ trivial ?_
  conv => whnf
  injection H with H; subst H
  exact ret_fz [] (rtA_eq rfl)
  conv => whnf
  refine cut_ 80 [(4, .bool (decide ((l0.length : Int) ≤ a1)))] [] rfl ⟨.inl rfl, trivial⟩ trivial ?_
  conv => whnf
  injection H with H; subst H
  exact ret_fz [] (rtA_eq rfl)
theorem slices_Index_string_string.l0_lp {F : (Exit → St → Prop) → St → Prop} {hv : List Tmp} {Q : Exit → St → Prop} {σ : St} {r : Int} {k : Nat} {l0 : List ByteArray} {a1 : ByteArray} {x8 : Int} (H : slices_Index_string_string.l0 k l0 a1 x8 = some r) (rn : List (Option Nat)) (h1 : Fits σ σ [] [(8, .int .i64 x8)] [] [] rn)
    (h2 : ∀ (k0 : Nat) (x8 : Int), k0 < k + 1 → slices_Index_string_string.l0 k0 l0 a1 x8 = some r → headN σ hv [] [(8, .int .i64 x8)] [] [] (F (fun e σ' => match e with | .normal => ∃ (y : Nat × Int) (rn : List (Option Nat)), (slices_Index_string_string.l0 y.1 l0 a1 y.2 = some r ∧ y.1 < k + 1) ∧ y.1 < k0 ∧ Fits σ σ' [] [(8, .int .i64 y.2)] [] [] rn | e => Q e σ'))) : Lp F hv Q σ := by
  unfold Lp
  refine ⟨Nat × Int, fun x => slices_Index_string_string.l0 x.1 l0 a1 x.2 = some r ∧ x.1 < k + 1, fun x => x.1, [], fun x => [(8, .int .i64 x.2)], fun x => [], fun x => [], ⟨(k, x8), rn, ⟨H, Nat.lt_succ_self _⟩, h1⟩, ?_⟩
  rintro ⟨k, x8⟩ ⟨H, hk⟩
  exact h2 k x8 hk H
theorem slices_Index_string_string.ac {k : Nat} {l0 : List ByteArray} {a1 : ByteArray} {r : Int} (H : slices_Index_string_string.f k l0 a1 = some r) : ACalls Try.prog G 191 [] [(sv_str l0), .str a1] [] (.int .i64 r) := by
  refine acalls_of tok hP Try.func191 rfl (by kernel_rfl) [.tmp 4] rfl (by kernel_rfl) (Nat.le_of_ble_eq_true rfl) (.l .n (.l (.l .n (.l .n (.l .n (.l (.l .n (.c .n .n)) .n)))) .n)) rfl ?_
  unfold slices_Index_string_string.f at H
  conv => whnf
  refine slices_Index_string_string.l0_lp (l0 := l0) (a1 := a1) (k := k) H [] (fits_of ⟨.inl ⟨rfl, rfl⟩, trivial⟩ trivial fi_ trivial rfl) ?_
  intro k x8 hk H; rcases k with _ | k; exact none_elim H; rw [slices_Index_string_string.l0] at H; conv => whnf
  refine br_d H (fun c H => ?_) (fun c H => ?_)
  conv => whnf
  refine nd_ H (fun c H => ?_)
  conv => whnf
  refine Nd.mk nf_ ?_
  conv => whnf
  refine El.mk (rdm_en_str _ _ nf_ nf_) ?_
  conv => whnf
  refine cut_ 104 [(0, (sv_str l0)), (1, .str a1), (5, .int .i64 x8), (7, .int .i64 (l0.length : Int)), (8, .int .i64 x8), (16, .bool (decide (a1.toList = (rdOf ByteArray.empty l0 x8).toList)))] [] rfl ⟨.inl rfl, ⟨.inl rfl, ⟨.inl rfl, ⟨.inl rfl, ⟨.inl rfl, ⟨.inl rfl, trivial⟩⟩⟩⟩⟩⟩ trivial ?_
  conv => whnf
  refine br_d H (fun c H => ?_) (fun c H => ?_)
  conv => whnf
  injection H with H; subst H
  exact ret_fz [] (rtA_eq rfl)
  conv => whnf
  exact ⟨(k, wrap64 (x8 + 1)), [], ⟨H, lt_⟩, lt_, (fits_of ⟨.inl ⟨rfl, rfl⟩, trivial⟩ trivial fi_ trivial rfl)⟩
  conv => whnf
  injection H with H; subst H
  exact ret_fz [] (rtA_eq rfl)
theorem slices_Contains_string_string.ac {k : Nat} {l0 : List ByteArray} {a1 : ByteArray} {r : Bool} (H : slices_Contains_string_string.f k l0 a1 = some r) : ACalls Try.prog G 166 [] [(sv_str l0), .str a1] [] (.bool r) := by
  refine acalls_of tok hP Try.func166 rfl (by kernel_rfl) [.tmp 4] rfl (by kernel_rfl) (Nat.le_of_ble_eq_true rfl) .n rfl ?_
  unfold slices_Contains_string_string.f at H
  conv => whnf
  revert H; refine bind_elim (fun t665 A H => ?_)
  refine call_mk (slices_Index_string_string.ac A) (avAL_cons (avA_shut' rfl) (avAL_cons (avA_shut' rfl) (avAL_nil))) (Or.inl rfl) rfl rfl (Nat.le_of_ble_eq_true rfl) ?_
  conv => whnf
  injection H with H; subst H
  exact ret_fz [] (rtA_eq rfl)
theorem impl_has.ac {k : Nat} {l0 : List ByteArray} {a1 : ByteArray} {r : Bool} (H : impl_has.f k l0 a1 = some r) : ACalls Try.prog G 105 [] [(sv_str l0), .str a1] [] (.bool r) := by
  refine acalls_of tok hP Try.func105 rfl (by kernel_rfl) [.tmp 4] rfl (by kernel_rfl) (Nat.le_of_ble_eq_true rfl) .n rfl ?_
  unfold impl_has.f at H
  conv => whnf
  revert H; refine bind_elim (fun t667 A H => ?_)
  refine call_mk (slices_Contains_string_string.ac A) (avAL_cons (avA_shut' rfl) (avAL_cons (avA_shut' rfl) (avAL_nil))) (Or.inl rfl) rfl rfl (Nat.le_of_ble_eq_true rfl) ?_
  conv => whnf
  injection H with H; subst H
  exact ret_fz [] (rtA_eq rfl)
theorem impl_Plant_place.l0_lp {F : (Exit → St → Prop) → St → Prop} {hv : List Tmp} {Q : Exit → St → Prop} {σ : St} {r : ByteArray × Int × ByteArray × Bool} {k : Nat} {a0_2 : List S_impl_PlantPlace} {a1 : ByteArray} {x11 : Int} (H : impl_Plant_place.l0 k a0_2 a1 x11 = some r) (rn : List (Option Nat)) (h1 : Fits σ σ [0] [(11, .int .i64 x11)] [] [] rn)
    (h2 : ∀ (k0 : Nat) (x11 : Int), k0 < k + 1 → impl_Plant_place.l0 k0 a0_2 a1 x11 = some r → headN σ hv [0] [(11, .int .i64 x11)] [] [] (F (fun e σ' => match e with | .normal => ∃ (y : Nat × Int) (rn : List (Option Nat)), (impl_Plant_place.l0 y.1 a0_2 a1 y.2 = some r ∧ y.1 < k + 1) ∧ y.1 < k0 ∧ Fits σ σ' [0] [(11, .int .i64 y.2)] [] [] rn | e => Q e σ'))) : Lp F hv Q σ := by
  unfold Lp
  refine ⟨Nat × Int, fun x => impl_Plant_place.l0 x.1 a0_2 a1 x.2 = some r ∧ x.1 < k + 1, fun x => x.1, [0], fun x => [(11, .int .i64 x.2)], fun x => [], fun x => [], ⟨(k, x11), rn, ⟨H, Nat.lt_succ_self _⟩, h1⟩, ?_⟩
  rintro ⟨k, x11⟩ ⟨H, hk⟩
  exact h2 k x11 hk H
theorem impl_Plant_place.ac {k : Nat} {a0_0 : List ByteArray} {a0_1 : List S_impl_PlantFoe} {a0_2 : List S_impl_PlantPlace} {a0_3 : List S_impl_PlantValve} {a1 : ByteArray} {r : ByteArray × Int × ByteArray × Bool} (H : impl_Plant_place.f k a0_0 a0_1 a0_2 a0_3 a1 = some r) : ACalls Try.prog G 144 [] [.agg [(sv_str a0_0), (sv_S_impl_PlantFoe a0_1), (sv_S_impl_PlantPlace a0_2), (sv_S_impl_PlantValve a0_3)], .str a1] [] (.tup [.agg [.str r.1, .int .i64 r.2.1, .str r.2.2.1], .bool r.2.2.2]) := by
  refine acalls_of tok hP Try.func144 rfl (by kernel_rfl) [.cell 4 109, .tmp 5] rfl (by kernel_rfl) (Nat.le_of_ble_eq_true rfl) (.l .n (.l (.l .n (.l .n (.l .n (.l (.c .n .n) .n)))) (.c .n .n))) rfl ?_
  unfold impl_Plant_place.f at H
  conv => whnf
  refine impl_Plant_place.l0_lp (a0_2 := a0_2) (a1 := a1) (k := k) H [] (fits_of ⟨.inl ⟨rfl, rfl⟩, trivial⟩ trivial fi_ trivial rfl) ?_
  intro k x11 hk H; rcases k with _ | k; exact none_elim H; rw [impl_Plant_place.l0] at H; conv => whnf
  refine br_d H (fun c H => ?_) (fun c H => ?_)
  conv => whnf
  refine nd_ H (fun c H => ?_)
  conv => whnf
  refine Nd.mk nf_ ?_
  conv => whnf
  refine El.mk (rdm_en_S_impl_PlantPlace _ _ nf_ nf_) ?_
  conv => whnf
  refine cut_ 96 [(1, .str a1), (4, .bp 8 0), (7, .bp 80 0), (9, (sv_S_impl_PlantPlace a0_2)), (10, .int .i64 (a0_2.length : Int)), (11, .int .i64 x11)] [(8, .box [.str (⟨#[]⟩ : ByteArray), .int .i64 0, .str (⟨#[]⟩ : ByteArray)]), (80, .box [.str ((rd_impl_PlantPlace a0_2 x11).f0), .int .i64 ((rd_impl_PlantPlace a0_2 x11).f1), .str ((rd_impl_PlantPlace a0_2 x11).f2)])] rfl ⟨.inl rfl, ⟨.inl rfl, ⟨.inl rfl, ⟨.inl rfl, ⟨.inl rfl, ⟨.inl rfl, trivial⟩⟩⟩⟩⟩⟩ ⟨rfl, ⟨rfl, trivial⟩⟩ ?_
  conv => whnf
  refine br_d H (fun c H => ?_) (fun c H => ?_)
  conv => whnf
  injection H with H; subst H
  exact ret_tup [] (rtAL_cons (rtA_agg (rtL_cons (rt_eq rfl) (rtL_cons (rt_eq rfl) (rtL_cons (rt_eq rfl) (rtL_nil))))) (rtAL_cons (rtA_eq rfl) (rtAL_nil)))
  conv => whnf
  exact ⟨(k, wrap64 (x11 + 1)), [], ⟨H, lt_⟩, lt_, (fits_of ⟨.inl ⟨rfl, rfl⟩, trivial⟩ trivial fi_ trivial rfl)⟩
  conv => whnf
  refine cut_ 88 [(4, .bp 8 0), (5, .bool false)] [(8, .box [.str (⟨#[]⟩ : ByteArray), .int .i64 0, .str (⟨#[]⟩ : ByteArray)])] rfl ⟨.inl rfl, ⟨.inl rfl, trivial⟩⟩ ⟨rfl, trivial⟩ ?_
  conv => whnf
  injection H with H; subst H
  exact ret_tup [] (rtAL_cons (rtA_agg (rtL_cons (rt_eq rfl) (rtL_cons (rt_eq rfl) (rtL_cons (rt_eq rfl) (rtL_nil))))) (rtAL_cons (rtA_eq rfl) (rtAL_nil)))
theorem impl_PlantValid.j0_sq {F : (Exit → St → Prop) → St → Prop} {hv : List Tmp} {K : St → Prop} {Q : Exit → St → Prop} {σ : St} {r : Bool} {KK : Nat} {a0_0 : List ByteArray} {a0_1 : List S_impl_PlantFoe} {a0_2 : List S_impl_PlantPlace} {a0_3 : List S_impl_PlantValve} {x111 : Int}
    (h1 : F (fun e σ' => match e with | .normal => ∃ (y : Nat × Bool) (rn : List (Option Nat)), (impl_PlantValid.j0 y.1 a0_0 a0_1 a0_2 a0_3 x111 y.2 = some r ∧ y.1 < KK) ∧ Fits σ σ' [] [(170, .bool y.2)] [] [] rn | e => Q e σ') σ)
    (h2 : ∀ (k : Nat) (x170 : Bool), k < KK → impl_PlantValid.j0 k a0_0 a0_1 a0_2 a0_3 x111 x170 = some r → headN σ hv [] [(170, .bool x170)] [] [] K) : Sq F hv K Q σ := by
  unfold Sq
  refine ⟨Nat × Bool, fun x => impl_PlantValid.j0 x.1 a0_0 a0_1 a0_2 a0_3 x111 x.2 = some r ∧ x.1 < KK, [], fun x => [(170, .bool x.2)], fun x => [], fun x => [], h1, ?_⟩
  rintro ⟨k, x170⟩ ⟨H, hk⟩
  exact h2 k x170 hk H
theorem impl_PlantValid.l2_lp {F : (Exit → St → Prop) → St → Prop} {hv : List Tmp} {Q : Exit → St → Prop} {σ : St} {r : Bool} {k : Nat} {a0_0 : List ByteArray} {a0_1 : List S_impl_PlantFoe} {a0_2 : List S_impl_PlantPlace} {a0_3 : List S_impl_PlantValve} {x111 : Int} (H : impl_PlantValid.l2 k a0_0 a0_1 a0_2 a0_3 x111 = some r) (rn : List (Option Nat)) (h1 : Fits σ σ [] [(111, .int .i64 x111)] [] [] rn)
    (h2 : ∀ (k0 : Nat) (x111 : Int), k0 < k + 1 → impl_PlantValid.l2 k0 a0_0 a0_1 a0_2 a0_3 x111 = some r → headN σ hv [] [(111, .int .i64 x111)] [] [] (F (fun e σ' => match e with | .normal => ∃ (y : Nat × Int) (rn : List (Option Nat)), (impl_PlantValid.l2 y.1 a0_0 a0_1 a0_2 a0_3 y.2 = some r ∧ y.1 < k + 1) ∧ y.1 < k0 ∧ Fits σ σ' [] [(111, .int .i64 y.2)] [] [] rn | e => Q e σ'))) : Lp F hv Q σ := by
  unfold Lp
  refine ⟨Nat × Int, fun x => impl_PlantValid.l2 x.1 a0_0 a0_1 a0_2 a0_3 x.2 = some r ∧ x.1 < k + 1, fun x => x.1, [], fun x => [(111, .int .i64 x.2)], fun x => [], fun x => [], ⟨(k, x111), rn, ⟨H, Nat.lt_succ_self _⟩, h1⟩, ?_⟩
  rintro ⟨k, x111⟩ ⟨H, hk⟩
  exact h2 k x111 hk H
theorem impl_PlantValid.l1_lp {F : (Exit → St → Prop) → St → Prop} {hv : List Tmp} {Q : Exit → St → Prop} {σ : St} {r : Bool} {k : Nat} {a0_0 : List ByteArray} {a0_1 : List S_impl_PlantFoe} {a0_2 : List S_impl_PlantPlace} {a0_3 : List S_impl_PlantValve} {x66 : Int} (H : impl_PlantValid.l1 k a0_0 a0_1 a0_2 a0_3 x66 = some r) (rn : List (Option Nat)) (h1 : Fits σ σ [] [(66, .int .i64 x66)] [] [] rn)
    (h2 : ∀ (k0 : Nat) (x66 : Int), k0 < k + 1 → impl_PlantValid.l1 k0 a0_0 a0_1 a0_2 a0_3 x66 = some r → headN σ hv [] [(66, .int .i64 x66)] [] [] (F (fun e σ' => match e with | .normal => ∃ (y : Nat × Int) (rn : List (Option Nat)), (impl_PlantValid.l1 y.1 a0_0 a0_1 a0_2 a0_3 y.2 = some r ∧ y.1 < k + 1) ∧ y.1 < k0 ∧ Fits σ σ' [] [(66, .int .i64 y.2)] [] [] rn | e => Q e σ'))) : Lp F hv Q σ := by
  unfold Lp
  refine ⟨Nat × Int, fun x => impl_PlantValid.l1 x.1 a0_0 a0_1 a0_2 a0_3 x.2 = some r ∧ x.1 < k + 1, fun x => x.1, [], fun x => [(66, .int .i64 x.2)], fun x => [], fun x => [], ⟨(k, x66), rn, ⟨H, Nat.lt_succ_self _⟩, h1⟩, ?_⟩
  rintro ⟨k, x66⟩ ⟨H, hk⟩
  exact h2 k x66 hk H
theorem impl_PlantValid.l0_lp {F : (Exit → St → Prop) → St → Prop} {hv : List Tmp} {Q : Exit → St → Prop} {σ : St} {r : Bool} {k : Nat} {a0_0 : List ByteArray} {a0_1 : List S_impl_PlantFoe} {a0_2 : List S_impl_PlantPlace} {a0_3 : List S_impl_PlantValve} {x44 : Int} (H : impl_PlantValid.l0 k a0_0 a0_1 a0_2 a0_3 x44 = some r) (rn : List (Option Nat)) (h1 : Fits σ σ [] [(44, .int .i64 x44)] [] [] rn)
    (h2 : ∀ (k0 : Nat) (x44 : Int), k0 < k + 1 → impl_PlantValid.l0 k0 a0_0 a0_1 a0_2 a0_3 x44 = some r → headN σ hv [] [(44, .int .i64 x44)] [] [] (F (fun e σ' => match e with | .normal => ∃ (y : Nat × Int) (rn : List (Option Nat)), (impl_PlantValid.l0 y.1 a0_0 a0_1 a0_2 a0_3 y.2 = some r ∧ y.1 < k + 1) ∧ y.1 < k0 ∧ Fits σ σ' [] [(44, .int .i64 y.2)] [] [] rn | e => Q e σ'))) : Lp F hv Q σ := by
  unfold Lp
  refine ⟨Nat × Int, fun x => impl_PlantValid.l0 x.1 a0_0 a0_1 a0_2 a0_3 x.2 = some r ∧ x.1 < k + 1, fun x => x.1, [], fun x => [(44, .int .i64 x.2)], fun x => [], fun x => [], ⟨(k, x44), rn, ⟨H, Nat.lt_succ_self _⟩, h1⟩, ?_⟩
  rintro ⟨k, x44⟩ ⟨H, hk⟩
  exact h2 k x44 hk H
theorem impl_PlantValid.ac {k : Nat} {a0_0 : List ByteArray} {a0_1 : List S_impl_PlantFoe} {a0_2 : List S_impl_PlantPlace} {a0_3 : List S_impl_PlantValve} {r : Bool} (H : impl_PlantValid.f k a0_0 a0_1 a0_2 a0_3 = some r) : ACalls Try.prog G 71 [] [.agg [(sv_str a0_0), (sv_S_impl_PlantFoe a0_1), (sv_S_impl_PlantPlace a0_2), (sv_S_impl_PlantValve a0_3)]] [] (.bool r) := by
  refine acalls_of tok hP Try.func71 rfl (by kernel_rfl) [.tmp 2] rfl (by kernel_rfl) (Nat.le_of_ble_eq_true rfl) (.l .n (.l (.c .n (.l (.c .n .n) .n)) (.l (.l .n (.l .n (.l .n (.l (.l .n (.c .n (.l (.c .n .n) .n))) .n)))) (.l (.l .n (.c .n (.l .n (.l (.l .n (.c .n (.l (.c .n .n) .n))) .n)))) (.l (.l .n (.l .n (.l .n (.l (.c .n (.l .n (.c .n (.j .n (.l (.c .n .n) .n))))) .n)))) .n))))) rfl ?_
  unfold impl_PlantValid.f at H
  conv => whnf
  refine br_d H (fun c H => ?_) (fun c H => ?_)
  conv => whnf
  refine Br.t ft_ ?_
  conv => whnf
  refine Br.t ft_ ?_
  conv => whnf
  refine Br.t ft_ ?_
  conv => whnf
  refine Br.t ft_ ?_
  conv => whnf
  refine Br.t rfl ?_
  conv => whnf
  refine Br.t rfl ?_
  conv => whnf
  refine Br.t rfl ?_
  conv => whnf
  refine Br.t rfl ?_
  conv => whnf
  refine Br.t rfl ?_
  conv => whnf
  refine Br.t rfl ?_
  conv => whnf
  refine Br.t rfl ?_
  conv => whnf
  refine Br.t rfl ?_
  conv => whnf
  refine Br.t rfl ?_
  conv => whnf
  refine Br.t rfl ?_
  conv => whnf
  refine Br.t rfl ?_
  conv => whnf
  refine Br.t rfl ?_
  conv => whnf
  refine Br.t rfl ?_
  conv => whnf
  refine Br.t rfl ?_
  conv => whnf
  refine Br.t rfl ?_
  conv => whnf
  refine cut_ 240 [(1, .bp 0 0), (40, .bool true)] [(0, .box [(sv_str a0_0), (sv_S_impl_PlantFoe a0_1), (sv_S_impl_PlantPlace a0_2), (sv_S_impl_PlantValve a0_3)])] rfl ⟨.inl rfl, ⟨.inl rfl, trivial⟩⟩ ⟨rfl, trivial⟩ ?_
  conv => whnf
  refine Br.t rfl ?_
  conv => whnf
  refine cut_ 248 [(2, .bool false)] [] rfl ⟨.inl rfl, trivial⟩ trivial ?_
  conv => whnf
  injection H with H; subst H
  exact ret_fz [] (rtA_eq rfl)
  conv => whnf
  refine Br.f ff_ ?_
  conv => whnf
  refine Br.f ff_ ?_
  conv => whnf
  revert H; refine bind_elim (fun t713 A H => ?_)
  refine call_mk (impl_names.ac A) (avAL_cons (avA_shut' rfl) (avAL_nil)) (Or.inl rfl) rfl rfl (Nat.le_of_ble_eq_true rfl) ?_
  conv => whnf
  refine Br.f ff_ ?_
  conv => whnf
  refine Br.f ff_ ?_
  conv => whnf
  refine br_nt H (fun c H => ?_) (fun c H => ?_)
  conv => whnf
  refine Br.f ff_ ?_
  conv => whnf
  revert H; refine bind_elim (fun t714 A H => ?_)
  refine call_mk (impl_Plant_pairs.ac A) (avAL_cons (avA_agg (avL_cons (av_shut' rfl) (avL_cons (av_shut' rfl) (avL_cons (av_shut' rfl) (avL_cons (av_shut' rfl) (avL_nil)))))) (avAL_nil)) (Or.inl rfl) rfl rfl (Nat.le_of_ble_eq_true rfl) ?_
  conv => whnf
  refine Br.f ff_ ?_
  conv => whnf
  revert H; refine bind_elim (fun t715 A H => ?_)
  refine call_mk (impl_foesOk.ac A) (avAL_cons (avA_shut' rfl) (avAL_cons (avA_shut' rfl) (avAL_nil))) (Or.inl rfl) rfl rfl (Nat.le_of_ble_eq_true rfl) ?_
  conv => whnf
  refine Br.f ff_ ?_
  conv => whnf
  refine Br.f ff_ ?_
  conv => whnf
  refine br_nt H (fun c H => ?_) (fun c H => ?_)
  conv => whnf
  refine Br.f ff_ ?_
  conv => whnf
  refine Br.f ff_ ?_
  conv => whnf
  refine Br.f ff_ ?_
  conv => whnf
  refine Br.f ff_ ?_
  conv => whnf
  refine br_d H (fun c H => ?_) (fun c H => ?_)
  conv => whnf
  refine Br.t ft_ ?_
  conv => whnf
  refine Br.t ft_ ?_
  conv => whnf
  refine Br.t ft_ ?_
  conv => whnf
  refine Br.t ft_ ?_
  conv => whnf
  refine cut_ 240 [(1, .bp 0 0), (40, .bool true)] [(0, .box [(sv_str a0_0), (sv_S_impl_PlantFoe a0_1), (sv_S_impl_PlantPlace a0_2), (sv_S_impl_PlantValve a0_3)])] rfl ⟨.inl rfl, ⟨.inl rfl, trivial⟩⟩ ⟨rfl, trivial⟩ ?_
  conv => whnf
  refine Br.t rfl ?_
  conv => whnf
  refine cut_ 248 [(2, .bool false)] [] rfl ⟨.inl rfl, trivial⟩ trivial ?_
  conv => whnf
  injection H with H; subst H
  exact ret_fz [] (rtA_eq rfl)
  conv => whnf
  refine Br.f ff_ ?_
  conv => whnf
  refine Br.f ff_ ?_
  conv => whnf
  refine Br.f ff_ ?_
  conv => whnf
  refine Br.f ff_ ?_
  conv => whnf
  refine cut_ 240 [(1, .bp 0 0), (40, .bool (decide ((a0_3.length : Int) > 18)))] [(0, .box [(sv_str a0_0), (sv_S_impl_PlantFoe a0_1), (sv_S_impl_PlantPlace a0_2), (sv_S_impl_PlantValve a0_3)])] rfl ⟨.inl rfl, ⟨.inl rfl, trivial⟩⟩ ⟨rfl, trivial⟩ ?_
  conv => whnf
  refine br_d H (fun c H => ?_) (fun c H => ?_)
  conv => whnf
  refine cut_ 248 [(2, .bool false)] [] rfl ⟨.inl rfl, trivial⟩ trivial ?_
  conv => whnf
  injection H with H; subst H
  exact ret_fz [] (rtA_eq rfl)
  conv => whnf
  refine impl_PlantValid.l0_lp (a0_0 := a0_0) (a0_1 := a0_1) (a0_2 := a0_2) (a0_3 := a0_3) (k := k) H [] (fits_of ⟨.inl ⟨rfl, rfl⟩, trivial⟩ trivial fi_ trivial rfl) ?_
  intro k x44 hk H; rcases k with _ | k; exact none_elim H; rw [impl_PlantValid.l0] at H; conv => whnf
  refine br_d H (fun c H => ?_) (fun c H => ?_)
  conv => whnf
  refine nd_ H (fun c H => ?_)
  conv => whnf
  refine Nd.mk nf_ ?_
  conv => whnf
  refine El.mk (rdm_en_S_impl_PlantFoe _ _ nf_ nf_) ?_
  conv => whnf
  revert H; refine bind_elim (fun t722 A H => ?_)
  refine call_mk (impl_has.ac A) (avAL_cons (avA_shut' rfl) (avAL_cons (avA_shut' rfl) (avAL_nil))) (Or.inl rfl) rfl rfl (Nat.le_of_ble_eq_true rfl) ?_
  conv => whnf
  refine br_nt H (fun c H => ?_) (fun c H => ?_)
  conv => whnf
  refine Br.f ff_ ?_
  conv => whnf
  refine Br.f ff_ ?_
  conv => whnf
  refine Br.f ff_ ?_
  conv => whnf
  refine Br.f ff_ ?_
  conv => whnf
  revert H; refine bind_elim (fun t723 A H => ?_)
  refine call_mk (impl_has.ac A) (avAL_cons (avA_shut' rfl) (avAL_cons (avA_shut' rfl) (avAL_nil))) (Or.inl rfl) rfl rfl (Nat.le_of_ble_eq_true rfl) ?_
  conv => whnf
  refine Br.f ff_ ?_
  conv => whnf
  refine Br.f ff_ ?_
  conv => whnf
  refine cut_ 424 [(1, .bp 0 0), (42, (sv_S_impl_PlantFoe a0_1)), (43, .int .i64 (a0_1.length : Int)), (44, .int .i64 x44), (61, .bool (!t723))] [(0, .box [(sv_str a0_0), (sv_S_impl_PlantFoe a0_1), (sv_S_impl_PlantPlace a0_2), (sv_S_impl_PlantValve a0_3)])] rfl ⟨.inl rfl, ⟨.inl rfl, ⟨.inl rfl, ⟨.inl rfl, ⟨.inl rfl, trivial⟩⟩⟩⟩⟩ ⟨rfl, trivial⟩ ?_
  conv => whnf
  refine br_nt H (fun c H => ?_) (fun c H => ?_)
  conv => whnf
  exact ⟨(k, wrap64 (x44 + 1)), [], ⟨H, lt_⟩, lt_, (fits_of ⟨.inl ⟨rfl, rfl⟩, trivial⟩ trivial fi_ trivial rfl)⟩
  conv => whnf
  refine cut_ 432 [(2, .bool false)] [] rfl ⟨.inl rfl, trivial⟩ trivial ?_
  conv => whnf
  injection H with H; subst H
  exact ret_fz [] (rtA_eq rfl)
  conv => whnf
  refine Br.t ft_ ?_
  conv => whnf
  refine Br.t ft_ ?_
  conv => whnf
  refine Br.t ft_ ?_
  conv => whnf
  refine Br.t ft_ ?_
  conv => whnf
  refine Br.t ft_ ?_
  conv => whnf
  refine Br.t ft_ ?_
  conv => whnf
  refine cut_ 424 [(1, .bp 0 0), (42, (sv_S_impl_PlantFoe a0_1)), (43, .int .i64 (a0_1.length : Int)), (44, .int .i64 x44), (61, .bool true)] [(0, .box [(sv_str a0_0), (sv_S_impl_PlantFoe a0_1), (sv_S_impl_PlantPlace a0_2), (sv_S_impl_PlantValve a0_3)])] rfl ⟨.inl rfl, ⟨.inl rfl, ⟨.inl rfl, ⟨.inl rfl, ⟨.inl rfl, trivial⟩⟩⟩⟩⟩ ⟨rfl, trivial⟩ ?_
  conv => whnf
  refine Br.t rfl ?_
  conv => whnf
  refine cut_ 432 [(2, .bool false)] [] rfl ⟨.inl rfl, trivial⟩ trivial ?_
  conv => whnf
  injection H with H; subst H
  exact ret_fz [] (rtA_eq rfl)
  conv => whnf
  refine impl_PlantValid.l1_lp (a0_0 := a0_0) (a0_1 := a0_1) (a0_2 := a0_2) (a0_3 := a0_3) (k := k) H [] (fits_of ⟨.inl ⟨rfl, rfl⟩, trivial⟩ trivial fi_ trivial rfl) ?_
  intro k x66 hk H; rcases k with _ | k; exact none_elim H; rw [impl_PlantValid.l1] at H; conv => whnf
  refine cut_ 320 [(1, .bp 0 0), (64, (sv_S_impl_PlantPlace a0_2)), (65, .int .i64 (a0_2.length : Int)), (66, .int .i64 x66), (67, .bool (decide (x66 < (a0_2.length : Int))))] [(0, .box [(sv_str a0_0), (sv_S_impl_PlantFoe a0_1), (sv_S_impl_PlantPlace a0_2), (sv_S_impl_PlantValve a0_3)])] rfl ⟨.inl rfl, ⟨.inl rfl, ⟨.inl rfl, ⟨.inl rfl, ⟨.inl rfl, trivial⟩⟩⟩⟩⟩ ⟨rfl, trivial⟩ ?_
  conv => whnf
  refine br_d H (fun c H => ?_) (fun c H => ?_)
  conv => whnf
  refine nd_ H (fun c H => ?_)
  conv => whnf
  refine Nd.mk nf_ ?_
  conv => whnf
  refine El.mk (rdm_en_S_impl_PlantPlace _ _ nf_ nf_) ?_
  conv => whnf
  revert H; refine bind_elim (fun t730 A H => ?_)
  refine call_mk (impl_isName.ac A) (avAL_cons (avA_shut' rfl) (avAL_nil)) (Or.inl rfl) rfl rfl (Nat.le_of_ble_eq_true rfl) ?_
  conv => whnf
  refine br_nt H (fun c H => ?_) (fun c H => ?_)
  conv => whnf
  refine Br.f ff_ ?_
  conv => whnf
  refine Br.f ff_ ?_
  conv => whnf
  refine Br.f ff_ ?_
  conv => whnf
  refine br_d H (fun c H => ?_) (fun c H => ?_)
  conv => whnf
  refine Br.t ft_ ?_
  conv => whnf
  refine Br.t ft_ ?_
  conv => whnf
  refine Br.t ft_ ?_
  conv => whnf
  refine Br.t rfl ?_
  conv => whnf
  refine Br.t rfl ?_
  conv => whnf
  refine Br.t rfl ?_
  conv => whnf
  refine Br.t rfl ?_
  conv => whnf
  refine Br.t rfl ?_
  conv => whnf
  refine Br.t rfl ?_
  conv => whnf
  refine Br.t rfl ?_
  conv => whnf
  refine Br.t rfl ?_
  conv => whnf
  refine Br.t rfl ?_
  conv => whnf
  refine Br.t rfl ?_
  conv => whnf
  refine cut_ 656 [(1, .bp 0 0), (64, (sv_S_impl_PlantPlace a0_2)), (65, .int .i64 (a0_2.length : Int)), (66, .int .i64 x66), (106, .bool true)] [(0, .box [(sv_str a0_0), (sv_S_impl_PlantFoe a0_1), (sv_S_impl_PlantPlace a0_2), (sv_S_impl_PlantValve a0_3)])] rfl ⟨.inl rfl, ⟨.inl rfl, ⟨.inl rfl, ⟨.inl rfl, ⟨.inl rfl, trivial⟩⟩⟩⟩⟩ ⟨rfl, trivial⟩ ?_
  conv => whnf
  refine Br.t rfl ?_
  conv => whnf
  refine cut_ 664 [(2, .bool false)] [] rfl ⟨.inl rfl, trivial⟩ trivial ?_
  conv => whnf
  injection H with H; subst H
  exact ret_fz [] (rtA_eq rfl)
  conv => whnf
  refine Br.f ff_ ?_
  conv => whnf
  refine Br.f ff_ ?_
  conv => whnf
  refine Br.f ff_ ?_
  conv => whnf
  refine br_d H (fun c H => ?_) (fun c H => ?_)
  conv => whnf
  refine Br.t ft_ ?_
  conv => whnf
  refine Br.t ft_ ?_
  conv => whnf
  refine Br.t ft_ ?_
  conv => whnf
  refine Br.t ft_ ?_
  conv => whnf
  refine Br.t rfl ?_
  conv => whnf
  refine Br.t rfl ?_
  conv => whnf
  refine Br.t rfl ?_
  conv => whnf
  refine Br.t rfl ?_
  conv => whnf
  refine Br.t rfl ?_
  conv => whnf
  refine cut_ 656 [(1, .bp 0 0), (64, (sv_S_impl_PlantPlace a0_2)), (65, .int .i64 (a0_2.length : Int)), (66, .int .i64 x66), (106, .bool true)] [(0, .box [(sv_str a0_0), (sv_S_impl_PlantFoe a0_1), (sv_S_impl_PlantPlace a0_2), (sv_S_impl_PlantValve a0_3)])] rfl ⟨.inl rfl, ⟨.inl rfl, ⟨.inl rfl, ⟨.inl rfl, ⟨.inl rfl, trivial⟩⟩⟩⟩⟩ ⟨rfl, trivial⟩ ?_
  conv => whnf
  refine Br.t rfl ?_
  conv => whnf
  refine cut_ 664 [(2, .bool false)] [] rfl ⟨.inl rfl, trivial⟩ trivial ?_
  conv => whnf
  injection H with H; subst H
  exact ret_fz [] (rtA_eq rfl)
  conv => whnf
  refine Br.f ff_ ?_
  conv => whnf
  refine Br.f ff_ ?_
  conv => whnf
  revert H; refine bind_elim (fun t731 A H => ?_)
  refine call_mk (impl_isName.ac A) (avAL_cons (avA_shut' rfl) (avAL_nil)) (Or.inl rfl) rfl rfl (Nat.le_of_ble_eq_true rfl) ?_
  conv => whnf
  refine Br.f ff_ ?_
  conv => whnf
  refine Br.f ff_ ?_
  conv => whnf
  refine br_nt H (fun c H => ?_) (fun c H => ?_)
  conv => whnf
  refine Br.f ff_ ?_
  conv => whnf
  refine Br.f ff_ ?_
  conv => whnf
  refine br_d H (fun c H => ?_) (fun c H => ?_)
  conv => whnf
  refine Br.t ft_ ?_
  conv => whnf
  refine Br.t ft_ ?_
  conv => whnf
  refine Br.t ft_ ?_
  conv => whnf
  refine Br.t ft_ ?_
  conv => whnf
  refine nd_ H (fun c H => ?_)
  conv => whnf
  refine nd_ H (fun c H => ?_)
  conv => whnf
  refine El.mk (rdm_en_S_impl_PlantPlace _ _ nf_ nf_) ?_
  conv => whnf
  refine Br.t ft_ ?_
  conv => whnf
  refine Br.t ft_ ?_
  conv => whnf
  refine Br.t ft_ ?_
  conv => whnf
  refine Br.t ft_ ?_
  conv => whnf
  refine Br.t ft_ ?_
  conv => whnf
  refine Br.f ff_ ?_
  conv => whnf
  refine Br.t ft_ ?_
  conv => whnf
  refine Br.f ff_ ?_
  conv => whnf
  refine cut_ 656 [(1, .bp 0 0), (64, (sv_S_impl_PlantPlace a0_2)), (65, .int .i64 (a0_2.length : Int)), (66, .int .i64 x66), (106, .bool (!(Op.bytesLess ((rd_impl_PlantPlace a0_2 (wrap64 (x66 - 1))).f0).toList ((rd_impl_PlantPlace a0_2 x66).f0).toList)))] [(0, .box [(sv_str a0_0), (sv_S_impl_PlantFoe a0_1), (sv_S_impl_PlantPlace a0_2), (sv_S_impl_PlantValve a0_3)])] rfl ⟨.inl rfl, ⟨.inl rfl, ⟨.inl rfl, ⟨.inl rfl, ⟨.inl rfl, trivial⟩⟩⟩⟩⟩ ⟨rfl, trivial⟩ ?_
  conv => whnf
  refine br_nt H (fun c H => ?_) (fun c H => ?_)
  conv => whnf
  exact ⟨(k, wrap64 (x66 + 1)), [], ⟨H, lt_⟩, lt_, (fits_of ⟨.inl ⟨rfl, rfl⟩, trivial⟩ trivial fi_ trivial rfl)⟩
  conv => whnf
  refine cut_ 664 [(2, .bool false)] [] rfl ⟨.inl rfl, trivial⟩ trivial ?_
  conv => whnf
  injection H with H; subst H
  exact ret_fz [] (rtA_eq rfl)
  conv => whnf
  refine Br.f ff_ ?_
  conv => whnf
  refine Br.f ff_ ?_
  conv => whnf
  refine Br.f ff_ ?_
  conv => whnf
  refine Br.f ff_ ?_
  conv => whnf
  refine Br.f ff_ ?_
  conv => whnf
  refine Br.f ff_ ?_
  conv => whnf
  refine Br.f ff_ ?_
  conv => whnf
  refine Br.f ff_ ?_
  conv => whnf
  refine Br.f ff_ ?_
  conv => whnf
  refine Br.f ff_ ?_
  conv => whnf
  refine Br.f ff_ ?_
  conv => whnf
  refine Br.f ff_ ?_
  conv => whnf
  refine cut_ 656 [(1, .bp 0 0), (64, (sv_S_impl_PlantPlace a0_2)), (65, .int .i64 (a0_2.length : Int)), (66, .int .i64 x66), (106, .bool false)] [(0, .box [(sv_str a0_0), (sv_S_impl_PlantFoe a0_1), (sv_S_impl_PlantPlace a0_2), (sv_S_impl_PlantValve a0_3)])] rfl ⟨.inl rfl, ⟨.inl rfl, ⟨.inl rfl, ⟨.inl rfl, ⟨.inl rfl, trivial⟩⟩⟩⟩⟩ ⟨rfl, trivial⟩ ?_
  conv => whnf
  refine Br.f rfl ?_
  conv => whnf
  exact ⟨(k, wrap64 (x66 + 1)), [], ⟨H, lt_⟩, lt_, (fits_of ⟨.inl ⟨rfl, rfl⟩, trivial⟩ trivial fi_ trivial rfl)⟩
  conv => whnf
  refine Br.t ft_ ?_
  conv => whnf
  refine Br.t ft_ ?_
  conv => whnf
  refine Br.t ft_ ?_
  conv => whnf
  refine Br.t ft_ ?_
  conv => whnf
  refine cut_ 656 [(1, .bp 0 0), (64, (sv_S_impl_PlantPlace a0_2)), (65, .int .i64 (a0_2.length : Int)), (66, .int .i64 x66), (106, .bool true)] [(0, .box [(sv_str a0_0), (sv_S_impl_PlantFoe a0_1), (sv_S_impl_PlantPlace a0_2), (sv_S_impl_PlantValve a0_3)])] rfl ⟨.inl rfl, ⟨.inl rfl, ⟨.inl rfl, ⟨.inl rfl, ⟨.inl rfl, trivial⟩⟩⟩⟩⟩ ⟨rfl, trivial⟩ ?_
  conv => whnf
  refine Br.t rfl ?_
  conv => whnf
  refine cut_ 664 [(2, .bool false)] [] rfl ⟨.inl rfl, trivial⟩ trivial ?_
  conv => whnf
  injection H with H; subst H
  exact ret_fz [] (rtA_eq rfl)
  conv => whnf
  refine Br.t ft_ ?_
  conv => whnf
  refine Br.t ft_ ?_
  conv => whnf
  refine Br.t ft_ ?_
  conv => whnf
  refine Br.t rfl ?_
  conv => whnf
  refine Br.t rfl ?_
  conv => whnf
  refine Br.t rfl ?_
  conv => whnf
  refine Br.t rfl ?_
  conv => whnf
  refine Br.t rfl ?_
  conv => whnf
  refine Br.t rfl ?_
  conv => whnf
  refine Br.t rfl ?_
  conv => whnf
  refine Br.t rfl ?_
  conv => whnf
  refine Br.t rfl ?_
  conv => whnf
  refine Br.t rfl ?_
  conv => whnf
  refine Br.t rfl ?_
  conv => whnf
  refine Br.t rfl ?_
  conv => whnf
  refine Br.t rfl ?_
  conv => whnf
  refine Br.t rfl ?_
  conv => whnf
  refine cut_ 656 [(1, .bp 0 0), (64, (sv_S_impl_PlantPlace a0_2)), (65, .int .i64 (a0_2.length : Int)), (66, .int .i64 x66), (106, .bool true)] [(0, .box [(sv_str a0_0), (sv_S_impl_PlantFoe a0_1), (sv_S_impl_PlantPlace a0_2), (sv_S_impl_PlantValve a0_3)])] rfl ⟨.inl rfl, ⟨.inl rfl, ⟨.inl rfl, ⟨.inl rfl, ⟨.inl rfl, trivial⟩⟩⟩⟩⟩ ⟨rfl, trivial⟩ ?_
  conv => whnf
  refine Br.t rfl ?_
  conv => whnf
  refine cut_ 664 [(2, .bool false)] [] rfl ⟨.inl rfl, trivial⟩ trivial ?_
  conv => whnf
  injection H with H; subst H
  exact ret_fz [] (rtA_eq rfl)
  conv => whnf
  refine impl_PlantValid.l2_lp (a0_0 := a0_0) (a0_1 := a0_1) (a0_2 := a0_2) (a0_3 := a0_3) (k := k) H [] (fits_of ⟨.inl ⟨rfl, rfl⟩, trivial⟩ trivial fi_ trivial rfl) ?_
  intro k x111 hk H; rcases k with _ | k; exact none_elim H; rw [impl_PlantValid.l2] at H; conv => whnf
  refine br_d H (fun c H => ?_) (fun c H => ?_)
  conv => whnf
  refine nd_ H (fun c H => ?_)
  conv => whnf
  refine Nd.mk nf_ ?_
  conv => whnf
  refine El.mk (rdm_en_S_impl_PlantValve _ _ nf_ nf_) ?_
  conv => whnf
  refine cut_ 408 [(1, .bp 0 0), (7, .int .i64 x111), (8, .bp 384 0), (109, (sv_S_impl_PlantValve a0_3)), (110, .int .i64 (a0_3.length : Int)), (111, .int .i64 x111)] [(0, .box [(sv_str a0_0), (sv_S_impl_PlantFoe a0_1), (sv_S_impl_PlantPlace a0_2), (sv_S_impl_PlantValve a0_3)]), (384, .box [.str ((rd_impl_PlantValve a0_3 x111).f0), .str ((rd_impl_PlantValve a0_3 x111).f1), .str ((rd_impl_PlantValve a0_3 x111).f2), .str ((rd_impl_PlantValve a0_3 x111).f3)])] rfl ⟨.inl rfl, ⟨.inl rfl, ⟨.inl rfl, ⟨.inl rfl, ⟨.inl rfl, ⟨.inl rfl, trivial⟩⟩⟩⟩⟩⟩ ⟨rfl, ⟨rfl, trivial⟩⟩ ?_
  conv => whnf
  revert H; refine bind_elim (fun t748 A H => ?_)
  refine call_mk (impl_Plant_place.ac A) (avAL_cons (avA_agg (avL_cons (av_shut' rfl) (avL_cons (av_shut' rfl) (avL_cons (av_shut' rfl) (avL_cons (av_shut' rfl) (avL_nil)))))) (avAL_cons (avA_shut' rfl) (avAL_nil))) (Or.inl rfl) rfl rfl (Nat.le_of_ble_eq_true rfl) ?_
  conv => whnf
  revert H; refine bind_elim (fun t749 A H => ?_)
  refine call_mk (impl_Plant_place.ac A) (avAL_cons (avA_agg (avL_cons (av_shut' rfl) (avL_cons (av_shut' rfl) (avL_cons (av_shut' rfl) (avL_cons (av_shut' rfl) (avL_nil)))))) (avAL_cons (avA_shut' rfl) (avAL_nil))) (Or.inl rfl) rfl rfl (Nat.le_of_ble_eq_true rfl) ?_
  conv => whnf
  refine cut_ 568 [(1, .bp 0 0), (7, .int .i64 x111), (8, .bp 384 0), (10, .bool t748.2.2.2), (12, .bool t749.2.2.2), (109, (sv_S_impl_PlantValve a0_3)), (110, .int .i64 (a0_3.length : Int)), (111, .int .i64 x111)] [(0, .box [(sv_str a0_0), (sv_S_impl_PlantFoe a0_1), (sv_S_impl_PlantPlace a0_2), (sv_S_impl_PlantValve a0_3)]), (384, .box [.str ((rd_impl_PlantValve a0_3 x111).f0), .str ((rd_impl_PlantValve a0_3 x111).f1), .str ((rd_impl_PlantValve a0_3 x111).f2), .str ((rd_impl_PlantValve a0_3 x111).f3)])] rfl ⟨.inl rfl, ⟨.inl rfl, ⟨.inl rfl, ⟨.inl rfl, ⟨.inl rfl, ⟨.inl rfl, ⟨.inl rfl, ⟨.inl rfl, trivial⟩⟩⟩⟩⟩⟩⟩⟩ ⟨rfl, ⟨rfl, trivial⟩⟩ ?_
  conv => whnf
  refine impl_PlantValid.j0_sq (a0_0 := a0_0) (a0_1 := a0_1) (a0_2 := a0_2) (a0_3 := a0_3) (x111 := x111) (KK := k + 1) (r := r) ?_ ?_
  conv => whnf
  revert H; refine bind_elim (fun t752 A H => ?_)
  refine call_mk (impl_isName.ac A) (avAL_cons (avA_shut' rfl) (avAL_nil)) (Or.inl rfl) rfl rfl (Nat.le_of_ble_eq_true rfl) ?_
  conv => whnf
  refine br_nt H (fun c H => ?_) (fun c H => ?_)
  conv => whnf
  refine Br.f ff_ ?_
  conv => whnf
  refine Br.f ff_ ?_
  conv => whnf
  refine br_nt H (fun c H => ?_) (fun c H => ?_)
  conv => whnf
  refine Br.f ff_ ?_
  conv => whnf
  refine Br.f ff_ ?_
  conv => whnf
  refine br_nt H (fun c H => ?_) (fun c H => ?_)
  conv => whnf
  refine Br.f ff_ ?_
  conv => whnf
  refine Br.f ff_ ?_
  conv => whnf
  refine Br.f ff_ ?_
  conv => whnf
  refine Br.f ff_ ?_
  conv => whnf
  refine Br.f ff_ ?_
  conv => whnf
  refine br_nt H (fun c H => ?_) (fun c H => ?_)
  conv => whnf
  refine Br.f ff_ ?_
  conv => whnf
  refine Br.f ff_ ?_
  conv => whnf
  revert H; refine bind_elim (fun t753 A H => ?_)
  refine call_mk (impl_isName.ac A) (avAL_cons (avA_shut' rfl) (avAL_nil)) (Or.inl rfl) rfl rfl (Nat.le_of_ble_eq_true rfl) ?_
  conv => whnf
  refine Br.f ff_ ?_
  conv => whnf
  refine Br.f ff_ ?_
  conv => whnf
  refine br_nt H (fun c H => ?_) (fun c H => ?_)
  conv => whnf
  refine Br.f ff_ ?_
  conv => whnf
  refine Br.f ff_ ?_
  conv => whnf
  refine br_d H (fun c H => ?_) (fun c H => ?_)
  conv => whnf
  refine Br.t ft_ ?_
  conv => whnf
  refine Br.t ft_ ?_
  conv => whnf
  refine Br.t ft_ ?_
  conv => whnf
  refine Br.t ft_ ?_
  conv => whnf
  refine nd_ H (fun c H => ?_)
  conv => whnf
  refine nd_ H (fun c H => ?_)
  conv => whnf
  refine El.mk (rdm_en_S_impl_PlantValve _ _ nf_ nf_) ?_
  conv => whnf
  refine Br.t ft_ ?_
  conv => whnf
  refine Br.t ft_ ?_
  conv => whnf
  refine Br.t ft_ ?_
  conv => whnf
  refine Br.t ft_ ?_
  conv => whnf
  refine Br.t ft_ ?_
  conv => whnf
  refine Br.f ff_ ?_
  conv => whnf
  refine Br.t ft_ ?_
  conv => whnf
  refine Br.f ff_ ?_
  conv => whnf
  exact ⟨(k, !(Op.bytesLess ((rd_impl_PlantValve a0_3 (wrap64 (x111 - 1))).f0).toList ((rd_impl_PlantValve a0_3 x111).f0).toList)), [], ⟨H, lt_⟩, (fits_of ⟨.inl ⟨rfl, rfl⟩, trivial⟩ trivial fi_ trivial rfl)⟩
  conv => whnf
  refine Br.f ff_ ?_
  conv => whnf
  refine Br.f ff_ ?_
  conv => whnf
  refine Br.f ff_ ?_
  conv => whnf
  refine Br.f ff_ ?_
  conv => whnf
  refine Br.f ff_ ?_
  conv => whnf
  refine Br.f ff_ ?_
  conv => whnf
  refine Br.f ff_ ?_
  conv => whnf
  refine Br.f ff_ ?_
  conv => whnf
  refine Br.f ff_ ?_
  conv => whnf
  refine Br.f ff_ ?_
  conv => whnf
  refine Br.f ff_ ?_
  conv => whnf
  refine Br.f ff_ ?_
  conv => whnf
  exact ⟨(k, false), [], ⟨H, lt_⟩, (fits_of ⟨.inl ⟨rfl, rfl⟩, trivial⟩ trivial fi_ trivial rfl)⟩
  conv => whnf
  refine Br.t ft_ ?_
  conv => whnf
  refine Br.t ft_ ?_
  conv => whnf
  refine Br.t ft_ ?_
  conv => whnf
  refine Br.t ft_ ?_
  conv => whnf
  exact ⟨(k, true), [], ⟨H, lt_⟩, (fits_of ⟨.inl ⟨rfl, rfl⟩, trivial⟩ trivial fi_ trivial rfl)⟩
  conv => whnf
  refine Br.t ft_ ?_
  conv => whnf
  refine Br.t ft_ ?_
  conv => whnf
  refine Br.t ft_ ?_
  conv => whnf
  refine Br.t ft_ ?_
  conv => whnf
  refine Br.t rfl ?_
  conv => whnf
  refine Br.t rfl ?_
  conv => whnf
  refine Br.t rfl ?_
  conv => whnf
  refine Br.t rfl ?_
  conv => whnf
  refine Br.t rfl ?_
  conv => whnf
  exact ⟨(k, true), [], ⟨H, lt_⟩, (fits_of ⟨.inl ⟨rfl, rfl⟩, trivial⟩ trivial fi_ trivial rfl)⟩
  conv => whnf
  refine Br.t ft_ ?_
  conv => whnf
  refine Br.t ft_ ?_
  conv => whnf
  refine Br.t ft_ ?_
  conv => whnf
  refine Br.t ft_ ?_
  conv => whnf
  refine Br.t ft_ ?_
  conv => whnf
  refine Br.t rfl ?_
  conv => whnf
  refine Br.t rfl ?_
  conv => whnf
  refine Br.t rfl ?_
  conv => whnf
  refine Br.t rfl ?_
  conv => whnf
  refine Br.t rfl ?_
  conv => whnf
  refine Br.t rfl ?_
  conv => whnf
  refine Br.t rfl ?_
  conv => whnf
  refine Br.t rfl ?_
  conv => whnf
  refine Br.t rfl ?_
  conv => whnf
  refine Br.t rfl ?_
  conv => whnf
  exact ⟨(k, true), [], ⟨H, lt_⟩, (fits_of ⟨.inl ⟨rfl, rfl⟩, trivial⟩ trivial fi_ trivial rfl)⟩
  conv => whnf
  refine Br.t ft_ ?_
  conv => whnf
  refine Br.t ft_ ?_
  conv => whnf
  refine Br.t rfl ?_
  conv => whnf
  refine Br.t rfl ?_
  conv => whnf
  refine Br.t rfl ?_
  conv => whnf
  refine Br.t rfl ?_
  conv => whnf
  refine Br.t rfl ?_
  conv => whnf
  refine Br.t rfl ?_
  conv => whnf
  refine Br.t rfl ?_
  conv => whnf
  refine Br.t rfl ?_
  conv => whnf
  refine Br.t rfl ?_
  conv => whnf
  refine Br.t rfl ?_
  conv => whnf
  refine Br.t rfl ?_
  conv => whnf
  refine Br.t rfl ?_
  conv => whnf
  refine Br.t rfl ?_
  conv => whnf
  refine Br.t rfl ?_
  conv => whnf
  refine Br.t rfl ?_
  conv => whnf
  refine Br.t rfl ?_
  conv => whnf
  exact ⟨(k, true), [], ⟨H, lt_⟩, (fits_of ⟨.inl ⟨rfl, rfl⟩, trivial⟩ trivial fi_ trivial rfl)⟩
  conv => whnf
  refine Br.t ft_ ?_
  conv => whnf
  refine Br.t ft_ ?_
  conv => whnf
  refine Br.t rfl ?_
  conv => whnf
  refine Br.t rfl ?_
  conv => whnf
  refine Br.t rfl ?_
  conv => whnf
  refine Br.t rfl ?_
  conv => whnf
  refine Br.t rfl ?_
  conv => whnf
  refine Br.t rfl ?_
  conv => whnf
  refine Br.t rfl ?_
  conv => whnf
  refine Br.t rfl ?_
  conv => whnf
  refine Br.t rfl ?_
  conv => whnf
  refine Br.t rfl ?_
  conv => whnf
  refine Br.t rfl ?_
  conv => whnf
  refine Br.t rfl ?_
  conv => whnf
  refine Br.t rfl ?_
  conv => whnf
  refine Br.t rfl ?_
  conv => whnf
  refine Br.t rfl ?_
  conv => whnf
  refine Br.t rfl ?_
  conv => whnf
  refine Br.t rfl ?_
  conv => whnf
  refine Br.t rfl ?_
  conv => whnf
  refine Br.t rfl ?_
  conv => whnf
  exact ⟨(k, true), [], ⟨H, lt_⟩, (fits_of ⟨.inl ⟨rfl, rfl⟩, trivial⟩ trivial fi_ trivial rfl)⟩
  intro k x170 hk H; rcases k with _ | k; exact none_elim H; rw [impl_PlantValid.j0] at H; conv => whnf
  refine br_t H (fun c H => ?_) (fun c H => ?_)
  conv => whnf
  refine cut_ 576 [(2, .bool false)] [] rfl ⟨.inl rfl, trivial⟩ trivial ?_
  conv => whnf
  injection H with H; subst H
  exact ret_fz [] (rtA_eq rfl)
  conv => whnf
  exact ⟨(k, wrap64 (x111 + 1)), [], ⟨H, lt_⟩, lt_, (fits_of ⟨.inl ⟨rfl, rfl⟩, trivial⟩ trivial fi_ trivial rfl)⟩
  conv => whnf
  injection H with H; subst H
  exact ret_fz [] (rtA_eq rfl)
  conv => whnf
  refine Br.t ft_ ?_
  conv => whnf
  refine Br.t ft_ ?_
  conv => whnf
  refine Br.t ft_ ?_
  conv => whnf
  refine Br.t ft_ ?_
  conv => whnf
  refine Br.t rfl ?_
  conv => whnf
  refine Br.t rfl ?_
  conv => whnf
  refine Br.t rfl ?_
  conv => whnf
  refine Br.t rfl ?_
  conv => whnf
  refine Br.t rfl ?_
  conv => whnf
  refine cut_ 240 [(1, .bp 0 0), (40, .bool true)] [(0, .box [(sv_str a0_0), (sv_S_impl_PlantFoe a0_1), (sv_S_impl_PlantPlace a0_2), (sv_S_impl_PlantValve a0_3)])] rfl ⟨.inl rfl, ⟨.inl rfl, trivial⟩⟩ ⟨rfl, trivial⟩ ?_
  conv => whnf
  refine Br.t rfl ?_
  conv => whnf
  refine cut_ 248 [(2, .bool false)] [] rfl ⟨.inl rfl, trivial⟩ trivial ?_
  conv => whnf
  injection H with H; subst H
  exact ret_fz [] (rtA_eq rfl)
  conv => whnf
  refine Br.t ft_ ?_
  conv => whnf
  refine Br.t ft_ ?_
  conv => whnf
  refine Br.t ft_ ?_
  conv => whnf
  refine Br.t ft_ ?_
  conv => whnf
  refine Br.t rfl ?_
  conv => whnf
  refine Br.t rfl ?_
  conv => whnf
  refine Br.t rfl ?_
  conv => whnf
  refine Br.t rfl ?_
  conv => whnf
  refine Br.t rfl ?_
  conv => whnf
  refine Br.t rfl ?_
  conv => whnf
  refine Br.t rfl ?_
  conv => whnf
  refine Br.t rfl ?_
  conv => whnf
  refine Br.t rfl ?_
  conv => whnf
  refine Br.t rfl ?_
  conv => whnf
  refine cut_ 240 [(1, .bp 0 0), (40, .bool true)] [(0, .box [(sv_str a0_0), (sv_S_impl_PlantFoe a0_1), (sv_S_impl_PlantPlace a0_2), (sv_S_impl_PlantValve a0_3)])] rfl ⟨.inl rfl, ⟨.inl rfl, trivial⟩⟩ ⟨rfl, trivial⟩ ?_
  conv => whnf
  refine Br.t rfl ?_
  conv => whnf
  refine cut_ 248 [(2, .bool false)] [] rfl ⟨.inl rfl, trivial⟩ trivial ?_
  conv => whnf
  injection H with H; subst H
  exact ret_fz [] (rtA_eq rfl)
end Go.Proofs.Ytodeegjblililaa.PS
namespace Go.Proofs
open Go.Shelf Go.Sort Go.RowKit in
shelf_lay Lays.n192 Nm 192 at Try as Try.gx192
end Go.Proofs
namespace Go.Proofs.Ytodeegjblililaa.PS
open Go Go.Aw Go.RowKit Go.Proofs
set_option maxRecDepth 100000
set_option maxHeartbeats 40000000
variable {G : Nat → Option Obj}
attribute [local irreducible] callE Lp Sq Cut RetOk Fits
theorem sort_Strings.ac {l0 : List ByteArray} {r : List ByteArray} (H : sort_Strings.f l0 = some r) : ACalls Try.prog G 165 [.arr 9 1 (l0.map en_str)] [.own 0 l0.length] [.arr 9 1 (r.map en_str)] .und := by
  exact sortS_ac Try.gx192 ⟨_, Try.func165, by kernel_rfl, by kernel_rfl⟩ G 9 rfl H (fun _ => rfl)
theorem impl_with.l0_lp {F : (Exit → St → Prop) → St → Prop} {hv : List Tmp} {Q : Exit → St → Prop} {σ : St} {r : List ByteArray} {k : Nat} {l0 : List ByteArray} {l1 : List ByteArray} {x5 : List ByteArray} {x12 : Int} (H : impl_with.l0 k l0 l1 x5 x12 = some r) (rn : List (Option Nat)) (h1 : Fits σ σ [16] [(5, .own 0 x5.length), (12, .int .i64 x12)] [] [.arr 9 1 (x5.map en_str)] rn)
    (h2 : ∀ (k0 : Nat) (x5 : List ByteArray) (x12 : Int), k0 < k + 1 → impl_with.l0 k0 l0 l1 x5 x12 = some r → headN σ hv [16] [(5, .own 0 x5.length), (12, .int .i64 x12)] [] [.arr 9 1 (x5.map en_str)] (F (fun e σ' => match e with | .normal => ∃ (y : Nat × (List ByteArray) × Int) (rn : List (Option Nat)), (impl_with.l0 y.1 l0 l1 y.2.1 y.2.2 = some r ∧ y.1 < k + 1) ∧ y.1 < k0 ∧ Fits σ σ' [16] [(5, .own 0 y.2.1.length), (12, .int .i64 y.2.2)] [] [.arr 9 1 (y.2.1.map en_str)] rn | e => Q e σ'))) : Lp F hv Q σ := by
  unfold Lp
  refine ⟨Nat × (List ByteArray) × Int, fun x => impl_with.l0 x.1 l0 l1 x.2.1 x.2.2 = some r ∧ x.1 < k + 1, fun x => x.1, [16], fun x => [(5, .own 0 x.2.1.length), (12, .int .i64 x.2.2)], fun x => [], fun x => [.arr 9 1 (x.2.1.map en_str)], ⟨(k, x5, x12), rn, ⟨H, Nat.lt_succ_self _⟩, h1⟩, ?_⟩
  rintro ⟨k, x5, x12⟩ ⟨H, hk⟩
  exact h2 k x5 x12 hk H
theorem impl_with.ac {k : Nat} {l0 : List ByteArray} {l1 : List ByteArray} {r : List ByteArray} (H : impl_with.f k l0 l1 = some r) : ACalls Try.prog G 103 [] [(sv_str l0), (sv_str l1)] [] ((sv_str r)) := by
  refine acalls_of tok hP Try.func103 rfl (by kernel_rfl) [.tmp 4] rfl (by kernel_rfl) (Nat.le_of_ble_eq_true rfl) (.l .n (.l .n (.l (.l .n (.l .n (.l .n (.l (.c .n .n) .n)))) (.c .n .n)))) rfl ?_
  unfold impl_with.f at H
  conv => whnf
  refine nd_ H (fun c H => ?_)
  conv => whnf
  refine impl_with.l0_lp (l0 := l0) (l1 := l1) (k := k) H [some 16] (fits_of ⟨mt_own lm_, ⟨.inl ⟨rfl, rfl⟩, trivial⟩⟩ ⟨fm_, trivial⟩ fi_ trivial rfl) ?_
  intro k x5 x12 hk H; rcases k with _ | k; exact none_elim H; rw [impl_with.l0] at H; conv => whnf
  refine br_d H (fun c H => ?_) (fun c H => ?_)
  conv => whnf
  refine nd_ H (fun c H => ?_)
  conv => whnf
  refine Nd.mk nf_ ?_
  conv => whnf
  refine El.mk (rdm_en_str _ _ nf_ nf_) ?_
  conv => whnf
  refine cut_ 89 [(5, .own 56 x5.length), (7, .str (rdOf ByteArray.empty l1 x12)), (10, (sv_str l1)), (11, .int .i64 (l1.length : Int)), (12, .int .i64 x12)] [(56, .arr 9 1 (x5.map en_str))] rfl ⟨.inl rfl, ⟨.inl rfl, ⟨.inl rfl, ⟨.inl rfl, ⟨.inl rfl, trivial⟩⟩⟩⟩⟩ ⟨rfl, trivial⟩ ?_
  conv => whnf
  revert H; refine bind_elim (fun t799 A H => ?_)
  refine call_mk (impl_has.ac A) (avAL_cons (avA_own rfl rfl) (avAL_cons (avA_shut' rfl) (avAL_nil))) (Or.inr ⟨rfl, bo_nil⟩) rfl rfl (Nat.le_of_ble_eq_true rfl) ?_
  conv => whnf
  refine br_nt H (fun c H => ?_) (fun c H => ?_)
  conv => whnf
  exact ⟨(k, x5, wrap64 (x12 + 1)), [some 56], ⟨H, lt_⟩, lt_, (fits_of ⟨rfl, ⟨.inl ⟨rfl, rfl⟩, trivial⟩⟩ ⟨rfl, trivial⟩ fi_ trivial rfl)⟩
  conv => whnf
  refine Or.inl ?_
  conv => whnf
  refine nd_ H (fun c H => ?_)
  conv => whnf
  exact ⟨(k, (x5 ++ ([rdOf ByteArray.empty l1 x12] : List ByteArray)), wrap64 (x12 + 1)), [some 145], ⟨H, lt_⟩, lt_, (fits_of ⟨mt_own lm_, ⟨.inl ⟨rfl, rfl⟩, trivial⟩⟩ ⟨fm_, trivial⟩ fi_ trivial rfl)⟩
  conv => whnf
  revert H; refine bind_elim (fun t801 A H => ?_)
  refine call_mk2 [56] (sort_Strings.ac A) ⟨rfl, trivial⟩ rfl rfl rfl rfl rfl rfl rfl rfl ?_
  have Lt801 := sortS_len A
  conv => whnf
  refine cut_ 81 [(5, .own 56 x5.length)] [(56, .arr 9 1 (t801.map en_str))] rfl ⟨.inl rfl, trivial⟩ ⟨rfl, trivial⟩ ?_
  conv => whnf
  injection H with H; subst H
  exact ret_fz [56] (rtA_fzD rfl lm_ lm_ rfl)
theorem impl_with.l0_lpO {F : (Exit → St → Prop) → St → Prop} {hv : List Tmp} {Q : Exit → St → Prop} {σ : St} {r : List ByteArray} {k : Nat} {l0 : List ByteArray} {l1 : List ByteArray} {x5 : List ByteArray} {x12 : Int} (H : impl_with.l0 k l0 l1 x5 x12 = some r) (rn : List (Option Nat)) (h1 : Fits σ σ [16] [(5, .own 0 x5.length), (12, .int .i64 x12)] [] [.arr 9 1 (x5.map en_str)] rn)
    (h2 : ∀ (k0 : Nat) (x5 : List ByteArray) (x12 : Int), k0 < k + 1 → impl_with.l0 k0 l0 l1 x5 x12 = some r → headN σ hv [16] [(5, .own 0 x5.length), (12, .int .i64 x12)] [] [.arr 9 1 (x5.map en_str)] (F (fun e σ' => match e with | .normal => ∃ (y : Nat × (List ByteArray) × Int) (rn : List (Option Nat)), (impl_with.l0 y.1 l0 l1 y.2.1 y.2.2 = some r ∧ y.1 < k + 1) ∧ y.1 < k0 ∧ Fits σ σ' [16] [(5, .own 0 y.2.1.length), (12, .int .i64 y.2.2)] [] [.arr 9 1 (y.2.1.map en_str)] rn | e => Q e σ'))) : Lp F hv Q σ := by
  unfold Lp
  refine ⟨Nat × (List ByteArray) × Int, fun x => impl_with.l0 x.1 l0 l1 x.2.1 x.2.2 = some r ∧ x.1 < k + 1, fun x => x.1, [16], fun x => [(5, .own 0 x.2.1.length), (12, .int .i64 x.2.2)], fun x => [], fun x => [.arr 9 1 (x.2.1.map en_str)], ⟨(k, x5, x12), rn, ⟨H, Nat.lt_succ_self _⟩, h1⟩, ?_⟩
  rintro ⟨k, x5, x12⟩ ⟨H, hk⟩
  exact h2 k x5 x12 hk H
theorem impl_with.acO {k : Nat} {l0 : List ByteArray} {l1 : List ByteArray} {r : List ByteArray} (H : impl_with.f k l0 l1 = some r) : ACalls Try.prog G 103 [] [(sv_str l0), (sv_str l1)] [.arr 9 1 (r.map en_str)] (.own 0 r.length) := by
  refine acalls_of tok hP Try.func103 rfl (by kernel_rfl) [.tmp 4] rfl (by kernel_rfl) (Nat.le_of_ble_eq_true rfl) (.l .n (.l .n (.l (.l .n (.l .n (.l .n (.l (.c .n .n) .n)))) (.c .n .n)))) rfl ?_
  unfold impl_with.f at H
  conv => whnf
  refine nd_ H (fun c H => ?_)
  conv => whnf
  refine impl_with.l0_lpO (l0 := l0) (l1 := l1) (k := k) H [some 16] (fits_of ⟨mt_own lm_, ⟨.inl ⟨rfl, rfl⟩, trivial⟩⟩ ⟨fm_, trivial⟩ fi_ trivial rfl) ?_
  intro k x5 x12 hk H; rcases k with _ | k; exact none_elim H; rw [impl_with.l0] at H; conv => whnf
  refine br_d H (fun c H => ?_) (fun c H => ?_)
  conv => whnf
  refine nd_ H (fun c H => ?_)
  conv => whnf
  refine Nd.mk nf_ ?_
  conv => whnf
  refine El.mk (rdm_en_str _ _ nf_ nf_) ?_
  conv => whnf
  refine cut_ 89 [(5, .own 56 x5.length), (7, .str (rdOf ByteArray.empty l1 x12)), (10, (sv_str l1)), (11, .int .i64 (l1.length : Int)), (12, .int .i64 x12)] [(56, .arr 9 1 (x5.map en_str))] rfl ⟨.inl rfl, ⟨.inl rfl, ⟨.inl rfl, ⟨.inl rfl, ⟨.inl rfl, trivial⟩⟩⟩⟩⟩ ⟨rfl, trivial⟩ ?_
  conv => whnf
  revert H; refine bind_elim (fun t860 A H => ?_)
  refine call_mk (impl_has.ac A) (avAL_cons (avA_own rfl rfl) (avAL_cons (avA_shut' rfl) (avAL_nil))) (Or.inr ⟨rfl, bo_nil⟩) rfl rfl (Nat.le_of_ble_eq_true rfl) ?_
  conv => whnf
  refine br_nt H (fun c H => ?_) (fun c H => ?_)
  conv => whnf
  exact ⟨(k, x5, wrap64 (x12 + 1)), [some 56], ⟨H, lt_⟩, lt_, (fits_of ⟨rfl, ⟨.inl ⟨rfl, rfl⟩, trivial⟩⟩ ⟨rfl, trivial⟩ fi_ trivial rfl)⟩
  conv => whnf
  refine Or.inl ?_
  conv => whnf
  refine nd_ H (fun c H => ?_)
  conv => whnf
  exact ⟨(k, (x5 ++ ([rdOf ByteArray.empty l1 x12] : List ByteArray)), wrap64 (x12 + 1)), [some 145], ⟨H, lt_⟩, lt_, (fits_of ⟨mt_own lm_, ⟨.inl ⟨rfl, rfl⟩, trivial⟩⟩ ⟨fm_, trivial⟩ fi_ trivial rfl)⟩
  conv => whnf
  revert H; refine bind_elim (fun t862 A H => ?_)
  refine call_mk2 [56] (sort_Strings.ac A) ⟨rfl, trivial⟩ rfl rfl rfl rfl rfl rfl rfl rfl ?_
  have Lt862 := sortS_len A
  conv => whnf
  refine cut_ 81 [(5, .own 56 x5.length)] [(56, .arr 9 1 (t862.map en_str))] rfl ⟨.inl rfl, trivial⟩ ⟨rfl, trivial⟩ ?_
  conv => whnf
  injection H with H; subst H
  exact ret_gen [some 56] [] ((mt_own lm_)) ⟨rfl, trivial⟩ rfl
theorem impl_group.l1_lp {F : (Exit → St → Prop) → St → Prop} {hv : List Tmp} {Q : Exit → St → Prop} {σ : St} {r : List ByteArray} {k : Nat} {a0_3 : List S_impl_PlantValve} {l1 : List ByteArray} {x9_1 : List ByteArray} {x10_1 : Bool} {x27 : Int} (H : impl_group.l1 k a0_3 l1 x9_1 x10_1 x27 = some r) (rn : List (Option Nat)) (h1 : Fits σ σ [136] [(9, .own 0 x9_1.length), (10, .bool x10_1), (27, .int .i64 x27)] [] [.arr 9 1 (x9_1.map en_str)] rn)
    (h2 : ∀ (k0 : Nat) (x9_1 : List ByteArray) (x10_1 : Bool) (x27 : Int), k0 < k + 1 → impl_group.l1 k0 a0_3 l1 x9_1 x10_1 x27 = some r → headN σ hv [136] [(9, .own 0 x9_1.length), (10, .bool x10_1), (27, .int .i64 x27)] [] [.arr 9 1 (x9_1.map en_str)] (F (fun e σ' => match e with | .normal => ∃ (y : Nat × (List ByteArray) × Bool × Int) (rn : List (Option Nat)), (impl_group.l1 y.1 a0_3 l1 y.2.1 y.2.2.1 y.2.2.2 = some r ∧ y.1 < k + 1) ∧ y.1 < k0 ∧ Fits σ σ' [136] [(9, .own 0 y.2.1.length), (10, .bool y.2.2.1), (27, .int .i64 y.2.2.2)] [] [.arr 9 1 (y.2.1.map en_str)] rn | e => Q e σ'))) : Lp F hv Q σ := by
  unfold Lp
  refine ⟨Nat × (List ByteArray) × Bool × Int, fun x => impl_group.l1 x.1 a0_3 l1 x.2.1 x.2.2.1 x.2.2.2 = some r ∧ x.1 < k + 1, fun x => x.1, [136], fun x => [(9, .own 0 x.2.1.length), (10, .bool x.2.2.1), (27, .int .i64 x.2.2.2)], fun x => [], fun x => [.arr 9 1 (x.2.1.map en_str)], ⟨(k, x9_1, x10_1, x27), rn, ⟨H, Nat.lt_succ_self _⟩, h1⟩, ?_⟩
  rintro ⟨k, x9_1, x10_1, x27⟩ ⟨H, hk⟩
  exact h2 k x9_1 x10_1 x27 hk H
theorem impl_group.l0_lp {F : (Exit → St → Prop) → St → Prop} {hv : List Tmp} {Q : Exit → St → Prop} {σ : St} {r : List ByteArray} {k : Nat} {a0_3 : List S_impl_PlantValve} {l1 : List ByteArray} {x9 : List ByteArray} {x10 : Bool} (H : impl_group.l0 k a0_3 l1 x9 x10 = some r) (rn : List (Option Nat)) (h1 : Fits σ σ [112] [(9, .own 0 x9.length), (10, .bool x10)] [] [.arr 9 1 (x9.map en_str)] rn)
    (h2 : ∀ (k0 : Nat) (x9 : List ByteArray) (x10 : Bool), k0 < k + 1 → impl_group.l0 k0 a0_3 l1 x9 x10 = some r → headN σ hv [112] [(9, .own 0 x9.length), (10, .bool x10)] [] [.arr 9 1 (x9.map en_str)] (F (fun e σ' => match e with | .normal => ∃ (y : Nat × (List ByteArray) × Bool) (rn : List (Option Nat)), (impl_group.l0 y.1 a0_3 l1 y.2.1 y.2.2 = some r ∧ y.1 < k + 1) ∧ y.1 < k0 ∧ Fits σ σ' [112] [(9, .own 0 y.2.1.length), (10, .bool y.2.2)] [] [.arr 9 1 (y.2.1.map en_str)] rn | e => Q e σ'))) : Lp F hv Q σ := by
  unfold Lp
  refine ⟨Nat × (List ByteArray) × Bool, fun x => impl_group.l0 x.1 a0_3 l1 x.2.1 x.2.2 = some r ∧ x.1 < k + 1, fun x => x.1, [112], fun x => [(9, .own 0 x.2.1.length), (10, .bool x.2.2)], fun x => [], fun x => [.arr 9 1 (x.2.1.map en_str)], ⟨(k, x9, x10), rn, ⟨H, Nat.lt_succ_self _⟩, h1⟩, ?_⟩
  rintro ⟨k, x9, x10⟩ ⟨H, hk⟩
  exact h2 k x9 x10 hk H
theorem impl_group.ac {k : Nat} {a0_0 : List ByteArray} {a0_1 : List S_impl_PlantFoe} {a0_2 : List S_impl_PlantPlace} {a0_3 : List S_impl_PlantValve} {l1 : List ByteArray} {a2 : ByteArray} {r : List ByteArray} (H : impl_group.f k a0_0 a0_1 a0_2 a0_3 l1 a2 = some r) : ACalls Try.prog G 90 [] [.agg [(sv_str a0_0), (sv_S_impl_PlantFoe a0_1), (sv_S_impl_PlantPlace a0_2), (sv_S_impl_PlantValve a0_3)], (sv_str l1), .str a2] [] ((sv_str r)) := by
  refine acalls_of tok hP Try.func90 rfl (by kernel_rfl) [.tmp 6] rfl (by kernel_rfl) (Nat.le_of_ble_eq_true rfl) (.l .n (.l (.c .n .n) (.l .n (.l (.l .n (.l .n (.l .n (.c .n (.l .n (.l .n (.l (.l .n (.c .n (.l (.c .n .n) .n))) .n))))))) .n)))) rfl ?_
  unfold impl_group.f at H
  conv => whnf
  revert H; refine bind_elim (fun t865 A H => ?_)
  refine call_mk (impl_Plant_place.ac A) (avAL_cons (avA_agg (avL_cons (av_shut' rfl) (avL_cons (av_shut' rfl) (avL_cons (av_shut' rfl) (avL_cons (av_shut' rfl) (avL_nil)))))) (avAL_cons (avA_shut' rfl) (avAL_nil))) (Or.inl rfl) rfl rfl (Nat.le_of_ble_eq_true rfl) ?_
  conv => whnf
  refine cut_ 88 [(1, (sv_str l1)), (2, .str a2), (3, .bp 0 0), (8, .bool t865.2.2.2)] [(0, .box [(sv_str a0_0), (sv_S_impl_PlantFoe a0_1), (sv_S_impl_PlantPlace a0_2), (sv_S_impl_PlantValve a0_3)])] rfl ⟨.inl rfl, ⟨.inl rfl, ⟨.inl rfl, ⟨.inl rfl, trivial⟩⟩⟩⟩ ⟨rfl, trivial⟩ ?_
  conv => whnf
  refine br_nt H (fun c H => ?_) (fun c H => ?_)
  conv => whnf
  refine Or.inl ?_
  conv => whnf
  refine impl_group.l0_lp (a0_3 := a0_3) (l1 := l1) (k := k) H [some 112] (fits_of ⟨mt_own lm_, ⟨.inl ⟨rfl, rfl⟩, trivial⟩⟩ ⟨fm_, trivial⟩ fi_ trivial rfl) ?_
  intro k x9 x10 hk H; rcases k with _ | k; exact none_elim H; rw [impl_group.l0] at H; conv => whnf
  refine br_t H (fun c H => ?_) (fun c H => ?_)
  conv => whnf
  refine cut_ 185 [(1, (sv_str l1)), (3, .bp 0 0), (9, .own 136 x9.length), (10, .bool false), (25, (sv_S_impl_PlantValve a0_3)), (26, .int .i64 (a0_3.length : Int)), (27, .int .i64 0)] [(0, .box [(sv_str a0_0), (sv_S_impl_PlantFoe a0_1), (sv_S_impl_PlantPlace a0_2), (sv_S_impl_PlantValve a0_3)]), (136, .arr 9 1 (x9.map en_str))] rfl ⟨.inl rfl, ⟨.inl rfl, ⟨.inl rfl, ⟨.inl rfl, ⟨.inl rfl, ⟨.inl rfl, ⟨.inl rfl, trivial⟩⟩⟩⟩⟩⟩⟩ ⟨rfl, ⟨rfl, trivial⟩⟩ ?_
  conv => whnf
  refine impl_group.l1_lp (a0_3 := a0_3) (l1 := l1) (k := k) H [some 136] (fits_of ⟨rfl, ⟨.inl ⟨rfl, rfl⟩, ⟨.inl ⟨rfl, rfl⟩, trivial⟩⟩⟩ ⟨rfl, trivial⟩ fi_ trivial rfl) ?_
  intro k x9_1 x10_1 x27 hk H; rcases k with _ | k; exact none_elim H; rw [impl_group.l1] at H; conv => whnf
  refine br_d H (fun c H => ?_) (fun c H => ?_)
  conv => whnf
  refine nd_ H (fun c H => ?_)
  conv => whnf
  refine Nd.mk nf_ ?_
  conv => whnf
  refine El.mk (rdm_en_S_impl_PlantValve _ _ nf_ nf_) ?_
  conv => whnf
  revert H; refine bind_elim (fun t891 A H => ?_)
  refine call_mk (impl_has.ac A) (avAL_cons (avA_shut' rfl) (avAL_cons (avA_shut' rfl) (avAL_nil))) (Or.inl rfl) rfl rfl (Nat.le_of_ble_eq_true rfl) ?_
  conv => whnf
  refine br_t H (fun c H => ?_) (fun c H => ?_)
  conv => whnf
  refine Br.t ft_ ?_
  conv => whnf
  refine Br.t ft_ ?_
  conv => whnf
  refine Br.t ft_ ?_
  conv => whnf
  revert H; refine bind_elim (fun t892 A H => ?_)
  refine call_mk (impl_has.ac A) (avAL_cons (avA_own rfl rfl) (avAL_cons (avA_shut' rfl) (avAL_nil))) (Or.inr ⟨rfl, bo_nil⟩) rfl rfl (Nat.le_of_ble_eq_true rfl) ?_
  conv => whnf
  refine Br.t ft_ ?_
  conv => whnf
  refine Br.t ft_ ?_
  conv => whnf
  refine Br.t ft_ ?_
  conv => whnf
  refine Br.t ft_ ?_
  conv => whnf
  revert H; refine bind_elim (fun t893 A H => ?_)
  refine call_mk (impl_has.ac A) (avAL_cons (avA_own rfl rfl) (avAL_cons (avA_shut' rfl) (avAL_nil))) (Or.inr ⟨rfl, bo_nil⟩) rfl rfl (Nat.le_of_ble_eq_true rfl) ?_
  conv => whnf
  refine Br.t ft_ ?_
  conv => whnf
  refine Br.t ft_ ?_
  conv => whnf
  refine cut_ 346 [(1, (sv_str l1)), (3, .bp 0 0), (9, .own 185 x9_1.length), (10, .bool x10_1), (12, .bp 210 0), (25, (sv_S_impl_PlantValve a0_3)), (26, .int .i64 (a0_3.length : Int)), (27, .int .i64 x27), (45, .bool (t892 != t893))] [(0, .box [(sv_str a0_0), (sv_S_impl_PlantFoe a0_1), (sv_S_impl_PlantPlace a0_2), (sv_S_impl_PlantValve a0_3)]), (185, .arr 9 1 (x9_1.map en_str)), (210, .box [.str ((rd_impl_PlantValve a0_3 x27).f0), .str ((rd_impl_PlantValve a0_3 x27).f1), .str ((rd_impl_PlantValve a0_3 x27).f2), .str ((rd_impl_PlantValve a0_3 x27).f3)])] rfl ⟨.inl rfl, ⟨.inl rfl, ⟨.inl rfl, ⟨.inl rfl, ⟨.inl rfl, ⟨.inl rfl, ⟨.inl rfl, ⟨.inl rfl, ⟨.inl rfl, trivial⟩⟩⟩⟩⟩⟩⟩⟩⟩ ⟨rfl, ⟨rfl, ⟨rfl, trivial⟩⟩⟩ ?_
  conv => whnf
  refine br_t H (fun c H => ?_) (fun c H => ?_)
  conv => whnf
  refine Or.inl ?_
  conv => whnf
  revert H; refine bind_elim (fun t894 A H => ?_)
  refine call_mk (impl_with.acO A) (avAL_cons (avA_own rfl rfl) (avAL_cons (avA_ownX rfl rfl lm_ lm_) (avAL_nil))) (Or.inr ⟨rfl, bo_cons (bo_arr bare_en_str) (bo_nil)⟩) rfl rfl (Nat.le_of_ble_eq_true rfl) ?_
  conv => whnf
  refine cut_ 410 [(1, (sv_str l1)), (3, .bp 0 0), (9, .own 394 t894.length), (25, (sv_S_impl_PlantValve a0_3)), (26, .int .i64 (a0_3.length : Int)), (27, .int .i64 x27)] [(0, .box [(sv_str a0_0), (sv_S_impl_PlantFoe a0_1), (sv_S_impl_PlantPlace a0_2), (sv_S_impl_PlantValve a0_3)]), (394, .arr 9 1 (t894.map en_str))] rfl ⟨.inl rfl, ⟨.inl rfl, ⟨.inl rfl, ⟨.inl rfl, ⟨.inl rfl, ⟨.inl rfl, trivial⟩⟩⟩⟩⟩⟩ ⟨rfl, ⟨rfl, trivial⟩⟩ ?_
  conv => whnf
  exact ⟨(k, t894, true, wrap64 (x27 + 1)), [some 394], ⟨H, lt_⟩, lt_, (fits_of ⟨rfl, ⟨.inl ⟨rfl, rfl⟩, ⟨.inl ⟨rfl, rfl⟩, trivial⟩⟩⟩ ⟨rfl, trivial⟩ fi_ trivial rfl)⟩
  conv => whnf
  exact ⟨(k, x9_1, _, wrap64 (x27 + 1)), [some 185], ⟨H, lt_⟩, lt_, (fits_of ⟨rfl, ⟨.inl ⟨rfl, rfl⟩, ⟨.inl ⟨rfl, rfl⟩, trivial⟩⟩⟩ ⟨rfl, trivial⟩ fi_ trivial rfl)⟩
  conv => whnf
  refine Br.f ff_ ?_
  conv => whnf
  refine Br.f ff_ ?_
  conv => whnf
  refine Br.f ff_ ?_
  conv => whnf
  refine Br.f ff_ ?_
  conv => whnf
  refine Br.f ff_ ?_
  conv => whnf
  refine Br.f ff_ ?_
  conv => whnf
  refine Br.f ff_ ?_
  conv => whnf
  refine Br.f ff_ ?_
  conv => whnf
  refine Br.f ff_ ?_
  conv => whnf
  refine cut_ 346 [(1, (sv_str l1)), (3, .bp 0 0), (9, .own 185 x9_1.length), (10, .bool x10_1), (12, .bp 210 0), (25, (sv_S_impl_PlantValve a0_3)), (26, .int .i64 (a0_3.length : Int)), (27, .int .i64 x27), (45, .bool false)] [(0, .box [(sv_str a0_0), (sv_S_impl_PlantFoe a0_1), (sv_S_impl_PlantPlace a0_2), (sv_S_impl_PlantValve a0_3)]), (185, .arr 9 1 (x9_1.map en_str)), (210, .box [.str ((rd_impl_PlantValve a0_3 x27).f0), .str ((rd_impl_PlantValve a0_3 x27).f1), .str ((rd_impl_PlantValve a0_3 x27).f2), .str ((rd_impl_PlantValve a0_3 x27).f3)])] rfl ⟨.inl rfl, ⟨.inl rfl, ⟨.inl rfl, ⟨.inl rfl, ⟨.inl rfl, ⟨.inl rfl, ⟨.inl rfl, ⟨.inl rfl, ⟨.inl rfl, trivial⟩⟩⟩⟩⟩⟩⟩⟩⟩ ⟨rfl, ⟨rfl, ⟨rfl, trivial⟩⟩⟩ ?_
  conv => whnf
  refine Br.f rfl ?_
  conv => whnf
  exact ⟨(k, x9_1, _, wrap64 (x27 + 1)), [some 185], ⟨H, lt_⟩, lt_, (fits_of ⟨rfl, ⟨.inl ⟨rfl, rfl⟩, ⟨.inl ⟨rfl, rfl⟩, trivial⟩⟩⟩ ⟨rfl, trivial⟩ fi_ trivial rfl)⟩
  conv => whnf
  exact ⟨(k, x9_1, x10_1), [some 185], ⟨H, lt_⟩, lt_, (fits_of ⟨rfl, ⟨.inl ⟨rfl, rfl⟩, trivial⟩⟩ ⟨rfl, trivial⟩ fi_ trivial rfl)⟩
  conv => whnf
  injection H with H; subst H
  exact ret_fz [136] (rtA_fz' rfl rfl)
  conv => whnf
  injection H with H; subst H
  exact ret_fz [] (rtA_nil)
theorem impl_group.l1_lpO {F : (Exit → St → Prop) → St → Prop} {hv : List Tmp} {Q : Exit → St → Prop} {σ : St} {r : List ByteArray} {k : Nat} {a0_3 : List S_impl_PlantValve} {l1 : List ByteArray} {x9_1 : List ByteArray} {x10_1 : Bool} {x27 : Int} (H : impl_group.l1 k a0_3 l1 x9_1 x10_1 x27 = some r) (rn : List (Option Nat)) (h1 : Fits σ σ [136] [(9, .own 0 x9_1.length), (10, .bool x10_1), (27, .int .i64 x27)] [] [.arr 9 1 (x9_1.map en_str)] rn)
    (h2 : ∀ (k0 : Nat) (x9_1 : List ByteArray) (x10_1 : Bool) (x27 : Int), k0 < k + 1 → impl_group.l1 k0 a0_3 l1 x9_1 x10_1 x27 = some r → headN σ hv [136] [(9, .own 0 x9_1.length), (10, .bool x10_1), (27, .int .i64 x27)] [] [.arr 9 1 (x9_1.map en_str)] (F (fun e σ' => match e with | .normal => ∃ (y : Nat × (List ByteArray) × Bool × Int) (rn : List (Option Nat)), (impl_group.l1 y.1 a0_3 l1 y.2.1 y.2.2.1 y.2.2.2 = some r ∧ y.1 < k + 1) ∧ y.1 < k0 ∧ Fits σ σ' [136] [(9, .own 0 y.2.1.length), (10, .bool y.2.2.1), (27, .int .i64 y.2.2.2)] [] [.arr 9 1 (y.2.1.map en_str)] rn | e => Q e σ'))) : Lp F hv Q σ := by
  unfold Lp
  refine ⟨Nat × (List ByteArray) × Bool × Int, fun x => impl_group.l1 x.1 a0_3 l1 x.2.1 x.2.2.1 x.2.2.2 = some r ∧ x.1 < k + 1, fun x => x.1, [136], fun x => [(9, .own 0 x.2.1.length), (10, .bool x.2.2.1), (27, .int .i64 x.2.2.2)], fun x => [], fun x => [.arr 9 1 (x.2.1.map en_str)], ⟨(k, x9_1, x10_1, x27), rn, ⟨H, Nat.lt_succ_self _⟩, h1⟩, ?_⟩
  rintro ⟨k, x9_1, x10_1, x27⟩ ⟨H, hk⟩
  exact h2 k x9_1 x10_1 x27 hk H
theorem impl_group.l0_lpO {F : (Exit → St → Prop) → St → Prop} {hv : List Tmp} {Q : Exit → St → Prop} {σ : St} {r : List ByteArray} {k : Nat} {a0_3 : List S_impl_PlantValve} {l1 : List ByteArray} {x9 : List ByteArray} {x10 : Bool} (H : impl_group.l0 k a0_3 l1 x9 x10 = some r) (rn : List (Option Nat)) (h1 : Fits σ σ [112] [(9, .own 0 x9.length), (10, .bool x10)] [] [.arr 9 1 (x9.map en_str)] rn)
    (h2 : ∀ (k0 : Nat) (x9 : List ByteArray) (x10 : Bool), k0 < k + 1 → impl_group.l0 k0 a0_3 l1 x9 x10 = some r → headN σ hv [112] [(9, .own 0 x9.length), (10, .bool x10)] [] [.arr 9 1 (x9.map en_str)] (F (fun e σ' => match e with | .normal => ∃ (y : Nat × (List ByteArray) × Bool) (rn : List (Option Nat)), (impl_group.l0 y.1 a0_3 l1 y.2.1 y.2.2 = some r ∧ y.1 < k + 1) ∧ y.1 < k0 ∧ Fits σ σ' [112] [(9, .own 0 y.2.1.length), (10, .bool y.2.2)] [] [.arr 9 1 (y.2.1.map en_str)] rn | e => Q e σ'))) : Lp F hv Q σ := by
  unfold Lp
  refine ⟨Nat × (List ByteArray) × Bool, fun x => impl_group.l0 x.1 a0_3 l1 x.2.1 x.2.2 = some r ∧ x.1 < k + 1, fun x => x.1, [112], fun x => [(9, .own 0 x.2.1.length), (10, .bool x.2.2)], fun x => [], fun x => [.arr 9 1 (x.2.1.map en_str)], ⟨(k, x9, x10), rn, ⟨H, Nat.lt_succ_self _⟩, h1⟩, ?_⟩
  rintro ⟨k, x9, x10⟩ ⟨H, hk⟩
  exact h2 k x9 x10 hk H
theorem impl_group.acO {k : Nat} {a0_0 : List ByteArray} {a0_1 : List S_impl_PlantFoe} {a0_2 : List S_impl_PlantPlace} {a0_3 : List S_impl_PlantValve} {l1 : List ByteArray} {a2 : ByteArray} {r : List ByteArray} (H : impl_group.f k a0_0 a0_1 a0_2 a0_3 l1 a2 = some r) : ACalls Try.prog G 90 [] [.agg [(sv_str a0_0), (sv_S_impl_PlantFoe a0_1), (sv_S_impl_PlantPlace a0_2), (sv_S_impl_PlantValve a0_3)], (sv_str l1), .str a2] [.arr 9 1 (r.map en_str)] (.own 0 r.length) := by
  refine acalls_of tok hP Try.func90 rfl (by kernel_rfl) [.tmp 6] rfl (by kernel_rfl) (Nat.le_of_ble_eq_true rfl) (.l .n (.l (.c .n .n) (.l .n (.l (.l .n (.l .n (.l .n (.c .n (.l .n (.l .n (.l (.l .n (.c .n (.l (.c .n .n) .n))) .n))))))) .n)))) rfl ?_
  unfold impl_group.f at H
  conv => whnf
  revert H; refine bind_elim (fun t2022 A H => ?_)
  refine call_mk (impl_Plant_place.ac A) (avAL_cons (avA_agg (avL_cons (av_shut' rfl) (avL_cons (av_shut' rfl) (avL_cons (av_shut' rfl) (avL_cons (av_shut' rfl) (avL_nil)))))) (avAL_cons (avA_shut' rfl) (avAL_nil))) (Or.inl rfl) rfl rfl (Nat.le_of_ble_eq_true rfl) ?_
  conv => whnf
  refine cut_ 88 [(1, (sv_str l1)), (2, .str a2), (3, .bp 0 0), (8, .bool t2022.2.2.2)] [(0, .box [(sv_str a0_0), (sv_S_impl_PlantFoe a0_1), (sv_S_impl_PlantPlace a0_2), (sv_S_impl_PlantValve a0_3)])] rfl ⟨.inl rfl, ⟨.inl rfl, ⟨.inl rfl, ⟨.inl rfl, trivial⟩⟩⟩⟩ ⟨rfl, trivial⟩ ?_
  conv => whnf
  refine br_nt H (fun c H => ?_) (fun c H => ?_)
  conv => whnf
  refine Or.inl ?_
  conv => whnf
  refine impl_group.l0_lpO (a0_3 := a0_3) (l1 := l1) (k := k) H [some 112] (fits_of ⟨mt_own lm_, ⟨.inl ⟨rfl, rfl⟩, trivial⟩⟩ ⟨fm_, trivial⟩ fi_ trivial rfl) ?_
  intro k x9 x10 hk H; rcases k with _ | k; exact none_elim H; rw [impl_group.l0] at H; conv => whnf
  refine br_t H (fun c H => ?_) (fun c H => ?_)
  conv => whnf
  refine cut_ 185 [(1, (sv_str l1)), (3, .bp 0 0), (9, .own 136 x9.length), (10, .bool false), (25, (sv_S_impl_PlantValve a0_3)), (26, .int .i64 (a0_3.length : Int)), (27, .int .i64 0)] [(0, .box [(sv_str a0_0), (sv_S_impl_PlantFoe a0_1), (sv_S_impl_PlantPlace a0_2), (sv_S_impl_PlantValve a0_3)]), (136, .arr 9 1 (x9.map en_str))] rfl ⟨.inl rfl, ⟨.inl rfl, ⟨.inl rfl, ⟨.inl rfl, ⟨.inl rfl, ⟨.inl rfl, ⟨.inl rfl, trivial⟩⟩⟩⟩⟩⟩⟩ ⟨rfl, ⟨rfl, trivial⟩⟩ ?_
  conv => whnf
  refine impl_group.l1_lpO (a0_3 := a0_3) (l1 := l1) (k := k) H [some 136] (fits_of ⟨rfl, ⟨.inl ⟨rfl, rfl⟩, ⟨.inl ⟨rfl, rfl⟩, trivial⟩⟩⟩ ⟨rfl, trivial⟩ fi_ trivial rfl) ?_
  intro k x9_1 x10_1 x27 hk H; rcases k with _ | k; exact none_elim H; rw [impl_group.l1] at H; conv => whnf
  refine br_d H (fun c H => ?_) (fun c H => ?_)
  conv => whnf
  refine nd_ H (fun c H => ?_)
  conv => whnf
  refine Nd.mk nf_ ?_
  conv => whnf
  refine El.mk (rdm_en_S_impl_PlantValve _ _ nf_ nf_) ?_
  conv => whnf
  revert H; refine bind_elim (fun t2048 A H => ?_)
  refine call_mk (impl_has.ac A) (avAL_cons (avA_shut' rfl) (avAL_cons (avA_shut' rfl) (avAL_nil))) (Or.inl rfl) rfl rfl (Nat.le_of_ble_eq_true rfl) ?_
  conv => whnf
  refine br_t H (fun c H => ?_) (fun c H => ?_)
  conv => whnf
  refine Br.t ft_ ?_
  conv => whnf
  refine Br.t ft_ ?_
  conv => whnf
  refine Br.t ft_ ?_
  conv => whnf
  revert H; refine bind_elim (fun t2049 A H => ?_)
  refine call_mk (impl_has.ac A) (avAL_cons (avA_own rfl rfl) (avAL_cons (avA_shut' rfl) (avAL_nil))) (Or.inr ⟨rfl, bo_nil⟩) rfl rfl (Nat.le_of_ble_eq_true rfl) ?_
  conv => whnf
  refine Br.t ft_ ?_
  conv => whnf
  refine Br.t ft_ ?_
  conv => whnf
  refine Br.t ft_ ?_
  conv => whnf
  refine Br.t ft_ ?_
  conv => whnf
  revert H; refine bind_elim (fun t2050 A H => ?_)
  refine call_mk (impl_has.ac A) (avAL_cons (avA_own rfl rfl) (avAL_cons (avA_shut' rfl) (avAL_nil))) (Or.inr ⟨rfl, bo_nil⟩) rfl rfl (Nat.le_of_ble_eq_true rfl) ?_
  conv => whnf
  refine Br.t ft_ ?_
  conv => whnf
  refine Br.t ft_ ?_
  conv => whnf
  refine cut_ 346 [(1, (sv_str l1)), (3, .bp 0 0), (9, .own 185 x9_1.length), (10, .bool x10_1), (12, .bp 210 0), (25, (sv_S_impl_PlantValve a0_3)), (26, .int .i64 (a0_3.length : Int)), (27, .int .i64 x27), (45, .bool (t2049 != t2050))] [(0, .box [(sv_str a0_0), (sv_S_impl_PlantFoe a0_1), (sv_S_impl_PlantPlace a0_2), (sv_S_impl_PlantValve a0_3)]), (185, .arr 9 1 (x9_1.map en_str)), (210, .box [.str ((rd_impl_PlantValve a0_3 x27).f0), .str ((rd_impl_PlantValve a0_3 x27).f1), .str ((rd_impl_PlantValve a0_3 x27).f2), .str ((rd_impl_PlantValve a0_3 x27).f3)])] rfl ⟨.inl rfl, ⟨.inl rfl, ⟨.inl rfl, ⟨.inl rfl, ⟨.inl rfl, ⟨.inl rfl, ⟨.inl rfl, ⟨.inl rfl, ⟨.inl rfl, trivial⟩⟩⟩⟩⟩⟩⟩⟩⟩ ⟨rfl, ⟨rfl, ⟨rfl, trivial⟩⟩⟩ ?_
  conv => whnf
  refine br_t H (fun c H => ?_) (fun c H => ?_)
  conv => whnf
  refine Or.inl ?_
  conv => whnf
  revert H; refine bind_elim (fun t2051 A H => ?_)
  refine call_mk (impl_with.acO A) (avAL_cons (avA_own rfl rfl) (avAL_cons (avA_ownX rfl rfl lm_ lm_) (avAL_nil))) (Or.inr ⟨rfl, bo_cons (bo_arr bare_en_str) (bo_nil)⟩) rfl rfl (Nat.le_of_ble_eq_true rfl) ?_
  conv => whnf
  refine cut_ 410 [(1, (sv_str l1)), (3, .bp 0 0), (9, .own 394 t2051.length), (25, (sv_S_impl_PlantValve a0_3)), (26, .int .i64 (a0_3.length : Int)), (27, .int .i64 x27)] [(0, .box [(sv_str a0_0), (sv_S_impl_PlantFoe a0_1), (sv_S_impl_PlantPlace a0_2), (sv_S_impl_PlantValve a0_3)]), (394, .arr 9 1 (t2051.map en_str))] rfl ⟨.inl rfl, ⟨.inl rfl, ⟨.inl rfl, ⟨.inl rfl, ⟨.inl rfl, ⟨.inl rfl, trivial⟩⟩⟩⟩⟩⟩ ⟨rfl, ⟨rfl, trivial⟩⟩ ?_
  conv => whnf
  exact ⟨(k, t2051, true, wrap64 (x27 + 1)), [some 394], ⟨H, lt_⟩, lt_, (fits_of ⟨rfl, ⟨.inl ⟨rfl, rfl⟩, ⟨.inl ⟨rfl, rfl⟩, trivial⟩⟩⟩ ⟨rfl, trivial⟩ fi_ trivial rfl)⟩
  conv => whnf
  exact ⟨(k, x9_1, _, wrap64 (x27 + 1)), [some 185], ⟨H, lt_⟩, lt_, (fits_of ⟨rfl, ⟨.inl ⟨rfl, rfl⟩, ⟨.inl ⟨rfl, rfl⟩, trivial⟩⟩⟩ ⟨rfl, trivial⟩ fi_ trivial rfl)⟩
  conv => whnf
  refine Br.f ff_ ?_
  conv => whnf
  refine Br.f ff_ ?_
  conv => whnf
  refine Br.f ff_ ?_
  conv => whnf
  refine Br.f ff_ ?_
  conv => whnf
  refine Br.f ff_ ?_
  conv => whnf
  refine Br.f ff_ ?_
  conv => whnf
  refine Br.f ff_ ?_
  conv => whnf
  refine Br.f ff_ ?_
  conv => whnf
  refine Br.f ff_ ?_
  conv => whnf
  refine cut_ 346 [(1, (sv_str l1)), (3, .bp 0 0), (9, .own 185 x9_1.length), (10, .bool x10_1), (12, .bp 210 0), (25, (sv_S_impl_PlantValve a0_3)), (26, .int .i64 (a0_3.length : Int)), (27, .int .i64 x27), (45, .bool false)] [(0, .box [(sv_str a0_0), (sv_S_impl_PlantFoe a0_1), (sv_S_impl_PlantPlace a0_2), (sv_S_impl_PlantValve a0_3)]), (185, .arr 9 1 (x9_1.map en_str)), (210, .box [.str ((rd_impl_PlantValve a0_3 x27).f0), .str ((rd_impl_PlantValve a0_3 x27).f1), .str ((rd_impl_PlantValve a0_3 x27).f2), .str ((rd_impl_PlantValve a0_3 x27).f3)])] rfl ⟨.inl rfl, ⟨.inl rfl, ⟨.inl rfl, ⟨.inl rfl, ⟨.inl rfl, ⟨.inl rfl, ⟨.inl rfl, ⟨.inl rfl, ⟨.inl rfl, trivial⟩⟩⟩⟩⟩⟩⟩⟩⟩ ⟨rfl, ⟨rfl, ⟨rfl, trivial⟩⟩⟩ ?_
  conv => whnf
  refine Br.f rfl ?_
  conv => whnf
  exact ⟨(k, x9_1, _, wrap64 (x27 + 1)), [some 185], ⟨H, lt_⟩, lt_, (fits_of ⟨rfl, ⟨.inl ⟨rfl, rfl⟩, ⟨.inl ⟨rfl, rfl⟩, trivial⟩⟩⟩ ⟨rfl, trivial⟩ fi_ trivial rfl)⟩
  conv => whnf
  exact ⟨(k, x9_1, x10_1), [some 185], ⟨H, lt_⟩, lt_, (fits_of ⟨rfl, ⟨.inl ⟨rfl, rfl⟩, trivial⟩⟩ ⟨rfl, trivial⟩ fi_ trivial rfl)⟩
  conv => whnf
  injection H with H; subst H
  exact ret_gen [some 136] [] ((rfl)) ⟨rfl, trivial⟩ rfl
  conv => whnf
  injection H with H; subst H
  exact ret_gen [none] [] ((⟨rfl, rfl⟩)) ⟨rfl, trivial⟩ rfl
theorem impl_PlantGroups.l0_lp {F : (Exit → St → Prop) → St → Prop} {hv : List Tmp} {Q : Exit → St → Prop} {σ : St} {r : List S_impl_PlantSet} {k : Nat} {a0_0 : List ByteArray} {a0_1 : List S_impl_PlantFoe} {a0_2 : List S_impl_PlantPlace} {a0_3 : List S_impl_PlantValve} {l1 : List ByteArray} {x5 : List S_impl_PlantSet} {x15 : Int} (H : impl_PlantGroups.l0 k a0_0 a0_1 a0_2 a0_3 l1 x5 x15 = some r) (rn : List (Option Nat)) (h1 : Fits σ σ [] [(5, .own 0 x5.length), (15, .int .i64 x15)] [] [.arr 107 1 (x5.map en_S_impl_PlantSet)] rn)
    (h2 : ∀ (k0 : Nat) (x5 : List S_impl_PlantSet) (x15 : Int), k0 < k + 1 → impl_PlantGroups.l0 k0 a0_0 a0_1 a0_2 a0_3 l1 x5 x15 = some r → headN σ hv [] [(5, .own 0 x5.length), (15, .int .i64 x15)] [] [.arr 107 1 (x5.map en_S_impl_PlantSet)] (F (fun e σ' => match e with | .normal => ∃ (y : Nat × (List S_impl_PlantSet) × Int) (rn : List (Option Nat)), (impl_PlantGroups.l0 y.1 a0_0 a0_1 a0_2 a0_3 l1 y.2.1 y.2.2 = some r ∧ y.1 < k + 1) ∧ y.1 < k0 ∧ Fits σ σ' [] [(5, .own 0 y.2.1.length), (15, .int .i64 y.2.2)] [] [.arr 107 1 (y.2.1.map en_S_impl_PlantSet)] rn | e => Q e σ'))) : Lp F hv Q σ := by
  unfold Lp
  refine ⟨Nat × (List S_impl_PlantSet) × Int, fun x => impl_PlantGroups.l0 x.1 a0_0 a0_1 a0_2 a0_3 l1 x.2.1 x.2.2 = some r ∧ x.1 < k + 1, fun x => x.1, [], fun x => [(5, .own 0 x.2.1.length), (15, .int .i64 x.2.2)], fun x => [], fun x => [.arr 107 1 (x.2.1.map en_S_impl_PlantSet)], ⟨(k, x5, x15), rn, ⟨H, Nat.lt_succ_self _⟩, h1⟩, ?_⟩
  rintro ⟨k, x5, x15⟩ ⟨H, hk⟩
  exact h2 k x5 x15 hk H
theorem impl_PlantGroups.ac {k : Nat} {a0_0 : List ByteArray} {a0_1 : List S_impl_PlantFoe} {a0_2 : List S_impl_PlantPlace} {a0_3 : List S_impl_PlantValve} {l1 : List ByteArray} {r : List S_impl_PlantSet} (H : impl_PlantGroups.f k a0_0 a0_1 a0_2 a0_3 l1 = some r) : ACalls Try.prog G 32 [] [.agg [(sv_str a0_0), (sv_S_impl_PlantFoe a0_1), (sv_S_impl_PlantPlace a0_2), (sv_S_impl_PlantValve a0_3)], (sv_str l1)] [] ((sv_S_impl_PlantSet r)) := by
  refine acalls_of tok hP Try.func32 rfl (by kernel_rfl) [.tmp 4] rfl (by kernel_rfl) (Nat.le_of_ble_eq_true rfl) (.l .n (.l .n (.l .n (.l (.c .n (.l .n (.l .n (.c (.l .n (.c .n .n)) .n)))) .n)))) rfl ?_
  unfold impl_PlantGroups.f at H
  conv => whnf
  revert H; refine bind_elim (fun t2054 A H => ?_)
  refine call_mk (impl_PlantValid.ac A) (avAL_cons (avA_agg (avL_cons (av_shut' rfl) (avL_cons (av_shut' rfl) (avL_cons (av_shut' rfl) (avL_cons (av_shut' rfl) (avL_nil)))))) (avAL_nil)) (Or.inl rfl) rfl rfl (Nat.le_of_ble_eq_true rfl) ?_
  conv => whnf
  refine br_nt H (fun c H => ?_) (fun c H => ?_)
  conv => whnf
  refine cut_ 80 [(1, (sv_str l1)), (2, .bp 0 0), (5, .nil), (13, (sv_S_impl_PlantPlace a0_2)), (14, .int .i64 (a0_2.length : Int)), (15, .int .i64 0)] [(0, .box [(sv_str a0_0), (sv_S_impl_PlantFoe a0_1), (sv_S_impl_PlantPlace a0_2), (sv_S_impl_PlantValve a0_3)])] rfl ⟨.inl rfl, ⟨.inl rfl, ⟨.inl rfl, ⟨.inl rfl, ⟨.inl rfl, ⟨.inl rfl, trivial⟩⟩⟩⟩⟩⟩ ⟨rfl, trivial⟩ ?_
  conv => whnf
  refine impl_PlantGroups.l0_lp (a0_0 := a0_0) (a0_1 := a0_1) (a0_2 := a0_2) (a0_3 := a0_3) (l1 := l1) (k := k) H [none] (fits_of ⟨⟨rfl, rfl⟩, ⟨.inl ⟨rfl, rfl⟩, trivial⟩⟩ ⟨rfl, trivial⟩ fi_ trivial rfl) ?_
  intro k x5 x15 hk H; rcases k with _ | k; exact none_elim H; rw [impl_PlantGroups.l0] at H; conv => whnf
  refine br_d H (fun c H => ?_) (fun c H => ?_)
  conv => whnf
  refine nd_ H (fun c H => ?_)
  conv => whnf
  refine Nd.mk nf_ ?_
  conv => whnf
  refine El.mk (rdm_en_S_impl_PlantPlace _ _ nf_ nf_) ?_
  conv => whnf
  revert H; refine bind_elim (fun t2060 A H => ?_)
  refine call_mk (impl_group.ac A) (avAL_cons (avA_agg (avL_cons (av_shut' rfl) (avL_cons (av_shut' rfl) (avL_cons (av_shut' rfl) (avL_cons (av_shut' rfl) (avL_nil)))))) (avAL_cons (avA_shut' rfl) (avAL_cons (avA_shut' rfl) (avAL_nil)))) (Or.inl rfl) rfl rfl (Nat.le_of_ble_eq_true rfl) ?_
  conv => whnf
  refine cut_ 169 [(1, (sv_str l1)), (2, .bp 0 0), (5, .own 80 x5.length), (7, .bp 105 0), (8, (sv_str t2060)), (13, (sv_S_impl_PlantPlace a0_2)), (14, .int .i64 (a0_2.length : Int)), (15, .int .i64 x15)] [(0, .box [(sv_str a0_0), (sv_S_impl_PlantFoe a0_1), (sv_S_impl_PlantPlace a0_2), (sv_S_impl_PlantValve a0_3)]), (80, .arr 107 1 (x5.map en_S_impl_PlantSet)), (105, .box [.str ((rd_impl_PlantPlace a0_2 x15).f0), .int .i64 ((rd_impl_PlantPlace a0_2 x15).f1), .str ((rd_impl_PlantPlace a0_2 x15).f2)])] rfl ⟨.inl rfl, ⟨.inl rfl, ⟨.inl rfl, ⟨.inl rfl, ⟨.inl rfl, ⟨.inl rfl, ⟨.inl rfl, ⟨.inl rfl, trivial⟩⟩⟩⟩⟩⟩⟩⟩ ⟨rfl, ⟨rfl, ⟨rfl, trivial⟩⟩⟩ ?_
  conv => whnf
  refine Nd.mk (by decide) ?_
  conv => whnf
  refine nd_ H (fun c H => ?_)
  conv => whnf
  refine El.mk (rdm_en_str _ _ nf_ nf_) ?_
  conv => whnf
  refine br_d H (fun c H => ?_) (fun c H => ?_)
  conv => whnf
  refine Or.inl ?_
  conv => whnf
  refine nd_ H (fun c H => ?_)
  conv => whnf
  refine cut_ 265 [(1, (sv_str l1)), (2, .bp 0 0), (5, .own 249 (x5.length + 1)), (13, (sv_S_impl_PlantPlace a0_2)), (14, .int .i64 (a0_2.length : Int)), (15, .int .i64 x15)] [(0, .box [(sv_str a0_0), (sv_S_impl_PlantFoe a0_1), (sv_S_impl_PlantPlace a0_2), (sv_S_impl_PlantValve a0_3)]), (249, .arr 107 1 ((x5 ++ ([(⟨t2060⟩ : S_impl_PlantSet)] : List S_impl_PlantSet)).map en_S_impl_PlantSet))] rfl ⟨.inl rfl, ⟨.inl rfl, ⟨.inl rfl, ⟨.inl rfl, ⟨.inl rfl, ⟨.inl rfl, trivial⟩⟩⟩⟩⟩⟩ ⟨rfl, ⟨fm_, trivial⟩⟩ ?_
  conv => whnf
  exact ⟨(k, (x5 ++ ([(⟨t2060⟩ : S_impl_PlantSet)] : List S_impl_PlantSet)), wrap64 (x15 + 1)), [some 249], ⟨H, lt_⟩, lt_, (fits_of ⟨mt_own lm_, ⟨.inl ⟨rfl, rfl⟩, trivial⟩⟩ ⟨rfl, trivial⟩ fi_ trivial rfl)⟩
  conv => whnf
  refine cut_ 217 [(1, (sv_str l1)), (2, .bp 0 0), (5, .own 80 x5.length), (13, (sv_S_impl_PlantPlace a0_2)), (14, .int .i64 (a0_2.length : Int)), (15, .int .i64 x15)] [(0, .box [(sv_str a0_0), (sv_S_impl_PlantFoe a0_1), (sv_S_impl_PlantPlace a0_2), (sv_S_impl_PlantValve a0_3)]), (80, .arr 107 1 (x5.map en_S_impl_PlantSet))] rfl ⟨.inl rfl, ⟨.inl rfl, ⟨.inl rfl, ⟨.inl rfl, ⟨.inl rfl, ⟨.inl rfl, trivial⟩⟩⟩⟩⟩⟩ ⟨rfl, ⟨rfl, trivial⟩⟩ ?_
  conv => whnf
  exact ⟨(k, x5, wrap64 (x15 + 1)), [some 80], ⟨H, lt_⟩, lt_, (fits_of ⟨rfl, ⟨.inl ⟨rfl, rfl⟩, trivial⟩⟩ ⟨rfl, trivial⟩ fi_ trivial rfl)⟩
  conv => whnf
  injection H with H; subst H
  exact ret_fz [80] (rtA_fz' rfl rfl)
  conv => whnf
  injection H with H; subst H
  exact ret_fz [] (rtA_nil)
theorem impl_PlantGroups.l0_lpO {F : (Exit → St → Prop) → St → Prop} {hv : List Tmp} {Q : Exit → St → Prop} {σ : St} {r : List S_impl_PlantSet} {k : Nat} {a0_0 : List ByteArray} {a0_1 : List S_impl_PlantFoe} {a0_2 : List S_impl_PlantPlace} {a0_3 : List S_impl_PlantValve} {l1 : List ByteArray} {x5 : List S_impl_PlantSet} {x15 : Int} (H : impl_PlantGroups.l0 k a0_0 a0_1 a0_2 a0_3 l1 x5 x15 = some r) (rn : List (Option Nat)) (h1 : Fits σ σ [] [(5, .own 0 x5.length), (15, .int .i64 x15)] [] [.deep 107 1 [9] (x5.map en_S_impl_PlantSet)] rn)
    (h2 : ∀ (k0 : Nat) (x5 : List S_impl_PlantSet) (x15 : Int), k0 < k + 1 → impl_PlantGroups.l0 k0 a0_0 a0_1 a0_2 a0_3 l1 x5 x15 = some r → headN σ hv [] [(5, .own 0 x5.length), (15, .int .i64 x15)] [] [.deep 107 1 [9] (x5.map en_S_impl_PlantSet)] (F (fun e σ' => match e with | .normal => ∃ (y : Nat × (List S_impl_PlantSet) × Int) (rn : List (Option Nat)), (impl_PlantGroups.l0 y.1 a0_0 a0_1 a0_2 a0_3 l1 y.2.1 y.2.2 = some r ∧ y.1 < k + 1) ∧ y.1 < k0 ∧ Fits σ σ' [] [(5, .own 0 y.2.1.length), (15, .int .i64 y.2.2)] [] [.deep 107 1 [9] (y.2.1.map en_S_impl_PlantSet)] rn | e => Q e σ'))) : Lp F hv Q σ := by
  unfold Lp
  refine ⟨Nat × (List S_impl_PlantSet) × Int, fun x => impl_PlantGroups.l0 x.1 a0_0 a0_1 a0_2 a0_3 l1 x.2.1 x.2.2 = some r ∧ x.1 < k + 1, fun x => x.1, [], fun x => [(5, .own 0 x.2.1.length), (15, .int .i64 x.2.2)], fun x => [], fun x => [.deep 107 1 [9] (x.2.1.map en_S_impl_PlantSet)], ⟨(k, x5, x15), rn, ⟨H, Nat.lt_succ_self _⟩, h1⟩, ?_⟩
  rintro ⟨k, x5, x15⟩ ⟨H, hk⟩
  exact h2 k x5 x15 hk H
theorem impl_PlantGroups.acO {k : Nat} {a0_0 : List ByteArray} {a0_1 : List S_impl_PlantFoe} {a0_2 : List S_impl_PlantPlace} {a0_3 : List S_impl_PlantValve} {l1 : List ByteArray} {r : List S_impl_PlantSet} (H : impl_PlantGroups.f k a0_0 a0_1 a0_2 a0_3 l1 = some r) : ACalls Try.prog G 32 [] [.agg [(sv_str a0_0), (sv_S_impl_PlantFoe a0_1), (sv_S_impl_PlantPlace a0_2), (sv_S_impl_PlantValve a0_3)], (sv_str l1)] [.deep 107 1 [9] (r.map en_S_impl_PlantSet)] (.own 0 r.length) := by
  refine acalls_of tok hP Try.func32 rfl (by kernel_rfl) [.tmp 4] rfl (by kernel_rfl) (Nat.le_of_ble_eq_true rfl) (.l .n (.l .n (.l .n (.l (.c .n (.l .n (.l .n (.f 0 (.l .n (.c .n .n)) .n)))) .n)))) rfl ?_
  unfold impl_PlantGroups.f at H
  conv => whnf
  revert H; refine bind_elim (fun t2083 A H => ?_)
  refine call_mk (impl_PlantValid.ac A) (avAL_cons (avA_agg (avL_cons (av_shut' rfl) (avL_cons (av_shut' rfl) (avL_cons (av_shut' rfl) (avL_cons (av_shut' rfl) (avL_nil)))))) (avAL_nil)) (Or.inl rfl) rfl rfl (Nat.le_of_ble_eq_true rfl) ?_
  conv => whnf
  refine br_nt H (fun c H => ?_) (fun c H => ?_)
  conv => whnf
  refine cut_ 80 [(1, (sv_str l1)), (2, .bp 0 0), (5, .nil), (13, (sv_S_impl_PlantPlace a0_2)), (14, .int .i64 (a0_2.length : Int)), (15, .int .i64 0)] [(0, .box [(sv_str a0_0), (sv_S_impl_PlantFoe a0_1), (sv_S_impl_PlantPlace a0_2), (sv_S_impl_PlantValve a0_3)])] rfl ⟨.inl rfl, ⟨.inl rfl, ⟨.inl rfl, ⟨.inl rfl, ⟨.inl rfl, ⟨.inl rfl, trivial⟩⟩⟩⟩⟩⟩ ⟨rfl, trivial⟩ ?_
  conv => whnf
  refine impl_PlantGroups.l0_lpO (a0_0 := a0_0) (a0_1 := a0_1) (a0_2 := a0_2) (a0_3 := a0_3) (l1 := l1) (k := k) H [none] (fits_of ⟨⟨rfl, rfl⟩, ⟨.inl ⟨rfl, rfl⟩, trivial⟩⟩ ⟨rfl, trivial⟩ fi_ trivial rfl) ?_
  intro k x5 x15 hk H; rcases k with _ | k; exact none_elim H; rw [impl_PlantGroups.l0] at H; conv => whnf
  refine br_d H (fun c H => ?_) (fun c H => ?_)
  conv => whnf
  refine nd_ H (fun c H => ?_)
  conv => whnf
  refine Nd.mk nf_ ?_
  conv => whnf
  refine El.mk (rdm_en_S_impl_PlantPlace _ _ nf_ nf_) ?_
  conv => whnf
  revert H; refine bind_elim (fun t2088 A H => ?_)
  refine call_mk (impl_group.acO A) (avAL_cons (avA_agg (avL_cons (av_shut' rfl) (avL_cons (av_shut' rfl) (avL_cons (av_shut' rfl) (avL_cons (av_shut' rfl) (avL_nil)))))) (avAL_cons (avA_shut' rfl) (avAL_cons (avA_shut' rfl) (avAL_nil)))) (Or.inl rfl) rfl rfl (Nat.le_of_ble_eq_true rfl) ?_
  conv => whnf
  refine cut_ 169 [(1, (sv_str l1)), (2, .bp 0 0), (5, .own 80 x5.length), (7, .bp 105 0), (8, .own 153 t2088.length), (13, (sv_S_impl_PlantPlace a0_2)), (14, .int .i64 (a0_2.length : Int)), (15, .int .i64 x15)] [(0, .box [(sv_str a0_0), (sv_S_impl_PlantFoe a0_1), (sv_S_impl_PlantPlace a0_2), (sv_S_impl_PlantValve a0_3)]), (80, .deep 107 1 [9] (x5.map en_S_impl_PlantSet)), (105, .box [.str ((rd_impl_PlantPlace a0_2 x15).f0), .int .i64 ((rd_impl_PlantPlace a0_2 x15).f1), .str ((rd_impl_PlantPlace a0_2 x15).f2)]), (153, .arr 9 1 (t2088.map en_str))] rfl ⟨.inl rfl, ⟨.inl rfl, ⟨.inl rfl, ⟨.inl rfl, ⟨.inl rfl, ⟨.inl rfl, ⟨.inl rfl, ⟨.inl rfl, trivial⟩⟩⟩⟩⟩⟩⟩⟩ ⟨rfl, ⟨rfl, ⟨rfl, ⟨rfl, trivial⟩⟩⟩⟩ ?_
  conv => whnf
  refine Nd.mk (by decide) ?_
  conv => whnf
  refine nd_ H (fun c H => ?_)
  conv => whnf
  refine El.mk (rdm_en_str _ _ nf_ nf_) ?_
  conv => whnf
  refine br_d H (fun c H => ?_) (fun c H => ?_)
  conv => whnf
  refine ⟨[9], ?_⟩
  conv => whnf
  refine nd_ H (fun c H => ?_)
  conv => whnf
  refine cutF_ 265 [1000000153, 2000000249] [(1, (sv_str l1)), (2, .bp 0 0), (5, .own 249 (x5.length + 1)), (13, (sv_S_impl_PlantPlace a0_2)), (14, .int .i64 (a0_2.length : Int)), (15, .int .i64 x15)] [(0, .box [(sv_str a0_0), (sv_S_impl_PlantFoe a0_1), (sv_S_impl_PlantPlace a0_2), (sv_S_impl_PlantValve a0_3)]), (249, .deep 107 1 [9] ((x5 ++ ([(⟨t2088⟩ : S_impl_PlantSet)] : List S_impl_PlantSet)).map en_S_impl_PlantSet))] rfl rfl ⟨.inl (.inl rfl), ⟨.inl (.inl rfl), ⟨.inl (.inl rfl), ⟨.inl (.inl rfl), ⟨.inl (.inl rfl), ⟨.inl (.inl rfl), trivial⟩⟩⟩⟩⟩⟩ ⟨.inl (rfl), ⟨mg_row [(sv_str t2088)] rfl rfl ⟨mg_own rfl rfl (.inr lm_) lm_ (bo_arr bare_en_str), trivial⟩ (set_app _ lm_) rfl, trivial⟩⟩ ?_
  conv => whnf
  exact ⟨(k, (x5 ++ ([(⟨t2088⟩ : S_impl_PlantSet)] : List S_impl_PlantSet)), wrap64 (x15 + 1)), [some 249], ⟨H, lt_⟩, lt_, (fits_of ⟨mt_own lm_, ⟨.inl ⟨rfl, rfl⟩, trivial⟩⟩ ⟨rfl, trivial⟩ fi_ trivial rfl)⟩
  conv => whnf
  refine cutF_ 217 [] [(1, (sv_str l1)), (2, .bp 0 0), (5, .own 80 x5.length), (13, (sv_S_impl_PlantPlace a0_2)), (14, .int .i64 (a0_2.length : Int)), (15, .int .i64 x15)] [(0, .box [(sv_str a0_0), (sv_S_impl_PlantFoe a0_1), (sv_S_impl_PlantPlace a0_2), (sv_S_impl_PlantValve a0_3)]), (80, .deep 107 1 [9] (x5.map en_S_impl_PlantSet))] rfl rfl ⟨.inl (.inl rfl), ⟨.inl (.inl rfl), ⟨.inl (.inl rfl), ⟨.inl (.inl rfl), ⟨.inl (.inl rfl), ⟨.inl (.inl rfl), trivial⟩⟩⟩⟩⟩⟩ ⟨.inl (rfl), ⟨.inl (rfl), trivial⟩⟩ ?_
  conv => whnf
  exact ⟨(k, x5, wrap64 (x15 + 1)), [some 80], ⟨H, lt_⟩, lt_, (fits_of ⟨rfl, ⟨.inl ⟨rfl, rfl⟩, trivial⟩⟩ ⟨rfl, trivial⟩ fi_ trivial rfl)⟩
  conv => whnf
  injection H with H; subst H
  exact ret_gen [some 80] [] ((rfl)) ⟨rfl, trivial⟩ rfl
  conv => whnf
  injection H with H; subst H
  exact ret_gen [none] [] ((⟨rfl, rfl⟩)) ⟨rfl, trivial⟩ rfl
theorem laws_eqStringS.l0_lp {F : (Exit → St → Prop) → St → Prop} {hv : List Tmp} {Q : Exit → St → Prop} {σ : St} {r : Bool} {k : Nat} {l0 : List ByteArray} {l1 : List ByteArray} {x5 : Int} (H : laws_eqStringS.l0 k l0 l1 x5 = some r) (rn : List (Option Nat)) (h1 : Fits σ σ [] [(5, .int .i64 x5)] [] [] rn)
    (h2 : ∀ (k0 : Nat) (x5 : Int), k0 < k + 1 → laws_eqStringS.l0 k0 l0 l1 x5 = some r → headN σ hv [] [(5, .int .i64 x5)] [] [] (F (fun e σ' => match e with | .normal => ∃ (y : Nat × Int) (rn : List (Option Nat)), (laws_eqStringS.l0 y.1 l0 l1 y.2 = some r ∧ y.1 < k + 1) ∧ y.1 < k0 ∧ Fits σ σ' [] [(5, .int .i64 y.2)] [] [] rn | e => Q e σ'))) : Lp F hv Q σ := by
  unfold Lp
  refine ⟨Nat × Int, fun x => laws_eqStringS.l0 x.1 l0 l1 x.2 = some r ∧ x.1 < k + 1, fun x => x.1, [], fun x => [(5, .int .i64 x.2)], fun x => [], fun x => [], ⟨(k, x5), rn, ⟨H, Nat.lt_succ_self _⟩, h1⟩, ?_⟩
  rintro ⟨k, x5⟩ ⟨H, hk⟩
  exact h2 k x5 hk H
theorem laws_eqStringS.ac {k : Nat} {l0 : List ByteArray} {l1 : List ByteArray} {r : Bool} (H : laws_eqStringS.f k l0 l1 = some r) : ACalls Try.prog G 18 [] [(sv_str l0), (sv_str l1)] [] (.bool r) := by
  refine acalls_of tok hP Try.func18 rfl (by kernel_rfl) [.tmp 4] rfl (by kernel_rfl) (Nat.le_of_ble_eq_true rfl) (.l .n (.l .n (.l (.l .n (.l (.c .n .n) (.l (.l .n (.l (.c .n .n) .n)) .n))) .n))) rfl ?_
  unfold laws_eqStringS.f at H
  conv => whnf
  refine br_nd H (fun c H => ?_) (fun c H => ?_)
  conv => whnf
  refine laws_eqStringS.l0_lp (l0 := l0) (l1 := l1) (k := k) H [] (fits_of ⟨.inl ⟨rfl, rfl⟩, trivial⟩ trivial fi_ trivial rfl) ?_
  intro k x5 hk H; rcases k with _ | k; exact none_elim H; rw [laws_eqStringS.l0] at H; conv => whnf
  refine cut_ 88 [(0, (sv_str l0)), (1, (sv_str l1)), (5, .int .i64 x5), (14, .bool (decide (x5 < (l0.length : Int))))] [] rfl ⟨.inl rfl, ⟨.inl rfl, ⟨.inl rfl, ⟨.inl rfl, trivial⟩⟩⟩⟩ trivial ?_
  conv => whnf
  refine br_d H (fun c H => ?_) (fun c H => ?_)
  conv => whnf
  refine nd_ H (fun c H => ?_)
  conv => whnf
  refine Nd.mk nf_ ?_
  conv => whnf
  refine El.mk (rdm_en_str _ _ nf_ nf_) ?_
  conv => whnf
  refine Nd.mk nf_ ?_
  conv => whnf
  refine nd_ H (fun c H => ?_)
  conv => whnf
  refine El.mk (rdm_en_str _ _ nf_ nf_) ?_
  conv => whnf
  refine br_nd H (fun c H => ?_) (fun c H => ?_)
  conv => whnf
  exact ⟨(k, wrap64 (x5 + 1)), [], ⟨H, lt_⟩, lt_, (fits_of ⟨.inl ⟨rfl, rfl⟩, trivial⟩ trivial fi_ trivial rfl)⟩
  conv => whnf
  refine cut_ 168 [(4, .bool false)] [] rfl ⟨.inl rfl, trivial⟩ trivial ?_
  conv => whnf
  injection H with H; subst H
  exact ret_fz [] (rtA_eq rfl)
  conv => whnf
  injection H with H; subst H
  exact ret_fz [] (rtA_eq rfl)
  conv => whnf
  injection H with H; subst H
  exact ret_fz [] (rtA_eq rfl)
theorem laws_eqPlantSet.ac {k : Nat} {a0_0 : List ByteArray} {a1_0 : List ByteArray} {r : Bool} (H : laws_eqPlantSet.f k a0_0 a1_0 = some r) : ACalls Try.prog G 97 [] [.agg [(sv_str a0_0)], .agg [(sv_str a1_0)]] [] (.bool r) := by
  refine acalls_of tok hP Try.func97 rfl (by kernel_rfl) [.tmp 4] rfl (by kernel_rfl) (Nat.le_of_ble_eq_true rfl) (.l .n (.l (.l .n (.l (.c .n .n) .n)) (.c .n .n))) rfl ?_
  unfold laws_eqPlantSet.f at H
  conv => whnf
  revert H; refine bind_elim (fun t954 A H => ?_)
  refine call_mk (laws_eqStringS.ac A) (avAL_cons (avA_shut' rfl) (avAL_cons (avA_shut' rfl) (avAL_nil))) (Or.inl rfl) rfl rfl (Nat.le_of_ble_eq_true rfl) ?_
  conv => whnf
  refine br_nt H (fun c H => ?_) (fun c H => ?_)
  conv => whnf
  refine cut_ 80 [(4, .bool true)] [] rfl ⟨.inl rfl, trivial⟩ trivial ?_
  conv => whnf
  injection H with H; subst H
  exact ret_fz [] (rtA_eq rfl)
  conv => whnf
  refine cut_ 80 [(4, .bool false)] [] rfl ⟨.inl rfl, trivial⟩ trivial ?_
  conv => whnf
  injection H with H; subst H
  exact ret_fz [] (rtA_eq rfl)
theorem laws_eqPlantSetS.l0_lp {F : (Exit → St → Prop) → St → Prop} {hv : List Tmp} {Q : Exit → St → Prop} {σ : St} {r : Bool} {k : Nat} {l0 : List S_impl_PlantSet} {l1 : List S_impl_PlantSet} {x5 : Int} (H : laws_eqPlantSetS.l0 k l0 l1 x5 = some r) (rn : List (Option Nat)) (h1 : Fits σ σ [] [(5, .int .i64 x5)] [] [] rn)
    (h2 : ∀ (k0 : Nat) (x5 : Int), k0 < k + 1 → laws_eqPlantSetS.l0 k0 l0 l1 x5 = some r → headN σ hv [] [(5, .int .i64 x5)] [] [] (F (fun e σ' => match e with | .normal => ∃ (y : Nat × Int) (rn : List (Option Nat)), (laws_eqPlantSetS.l0 y.1 l0 l1 y.2 = some r ∧ y.1 < k + 1) ∧ y.1 < k0 ∧ Fits σ σ' [] [(5, .int .i64 y.2)] [] [] rn | e => Q e σ'))) : Lp F hv Q σ := by
  unfold Lp
  refine ⟨Nat × Int, fun x => laws_eqPlantSetS.l0 x.1 l0 l1 x.2 = some r ∧ x.1 < k + 1, fun x => x.1, [], fun x => [(5, .int .i64 x.2)], fun x => [], fun x => [], ⟨(k, x5), rn, ⟨H, Nat.lt_succ_self _⟩, h1⟩, ?_⟩
  rintro ⟨k, x5⟩ ⟨H, hk⟩
  exact h2 k x5 hk H
theorem laws_eqPlantSetS.ac {k : Nat} {l0 : List S_impl_PlantSet} {l1 : List S_impl_PlantSet} {r : Bool} (H : laws_eqPlantSetS.f k l0 l1 = some r) : ACalls Try.prog G 33 [] [(sv_S_impl_PlantSet l0), (sv_S_impl_PlantSet l1)] [] (.bool r) := by
  refine acalls_of tok hP Try.func33 rfl (by kernel_rfl) [.tmp 4] rfl (by kernel_rfl) (Nat.le_of_ble_eq_true rfl) (.l .n (.l .n (.l (.l .n (.l (.c .n .n) (.l (.c .n .n) .n))) .n))) rfl ?_
  unfold laws_eqPlantSetS.f at H
  conv => whnf
  refine br_nd H (fun c H => ?_) (fun c H => ?_)
  conv => whnf
  refine laws_eqPlantSetS.l0_lp (l0 := l0) (l1 := l1) (k := k) H [] (fits_of ⟨.inl ⟨rfl, rfl⟩, trivial⟩ trivial fi_ trivial rfl) ?_
  intro k x5 hk H; rcases k with _ | k; exact none_elim H; rw [laws_eqPlantSetS.l0] at H; conv => whnf
  refine cut_ 88 [(0, (sv_S_impl_PlantSet l0)), (1, (sv_S_impl_PlantSet l1)), (5, .int .i64 x5), (14, .bool (decide (x5 < (l0.length : Int))))] [] rfl ⟨.inl rfl, ⟨.inl rfl, ⟨.inl rfl, ⟨.inl rfl, trivial⟩⟩⟩⟩ trivial ?_
  conv => whnf
  refine br_d H (fun c H => ?_) (fun c H => ?_)
  conv => whnf
  refine nd_ H (fun c H => ?_)
  conv => whnf
  refine Nd.mk nf_ ?_
  conv => whnf
  refine El.mk (rdm_en_S_impl_PlantSet _ _ nf_ nf_) ?_
  conv => whnf
  refine Nd.mk nf_ ?_
  conv => whnf
  refine nd_ H (fun c H => ?_)
  conv => whnf
  refine El.mk (rdm_en_S_impl_PlantSet _ _ nf_ nf_) ?_
  conv => whnf
  revert H; refine bind_elim (fun t958 A H => ?_)
  refine call_mk (laws_eqPlantSet.ac A) (avAL_cons (avA_agg (avL_cons (av_shut' rfl) (avL_nil))) (avAL_cons (avA_agg (avL_cons (av_shut' rfl) (avL_nil))) (avAL_nil))) (Or.inl rfl) rfl rfl (Nat.le_of_ble_eq_true rfl) ?_
  conv => whnf
  refine cut_ 168 [(0, (sv_S_impl_PlantSet l0)), (1, (sv_S_impl_PlantSet l1)), (5, .int .i64 x5), (26, .bool (!t958))] [] rfl ⟨.inl rfl, ⟨.inl rfl, ⟨.inl rfl, ⟨.inl rfl, trivial⟩⟩⟩⟩ trivial ?_
  conv => whnf
  refine br_nt H (fun c H => ?_) (fun c H => ?_)
  conv => whnf
  exact ⟨(k, wrap64 (x5 + 1)), [], ⟨H, lt_⟩, lt_, (fits_of ⟨.inl ⟨rfl, rfl⟩, trivial⟩ trivial fi_ trivial rfl)⟩
  conv => whnf
  injection H with H; subst H
  exact ret_fz [] (rtA_eq rfl)
  conv => whnf
  injection H with H; subst H
  exact ret_fz [] (rtA_eq rfl)
  conv => whnf
  injection H with H; subst H
  exact ret_fz [] (rtA_eq rfl)
theorem laws_eqPlantFoe.ac {a0_0 : ByteArray} {a0_1 : ByteArray} {a1_0 : ByteArray} {a1_1 : ByteArray} {r : Bool} (H : laws_eqPlantFoe.f a0_0 a0_1 a1_0 a1_1 = some r) : ACalls Try.prog G 159 [] [.agg [.str a0_0, .str a0_1], .agg [.str a1_0, .str a1_1]] [] (.bool r) := by
  refine acalls_of tok hP Try.func159 rfl (by kernel_rfl) [.tmp 4] rfl (by kernel_rfl) (Nat.le_of_ble_eq_true rfl) (.l .n (.l .n (.l (.c .n .n) .n))) rfl ?_
  unfold laws_eqPlantFoe.f at H
  conv => whnf
  refine br_nd H (fun c H => ?_) (fun c H => ?_)
  conv => whnf
  refine cut_ 104 [(14, .bool (!(decide (a0_1.toList = a1_1.toList))))] [] rfl ⟨.inl rfl, trivial⟩ trivial ?_
  conv => whnf
  refine br_nd H (fun c H => ?_) (fun c H => ?_)
  conv => whnf
  injection H with H; subst H
  exact ret_fz [] (rtA_eq rfl)
  conv => whnf
  injection H with H; subst H
  exact ret_fz [] (rtA_eq rfl)
  conv => whnf
  injection H with H; subst H
  exact ret_fz [] (rtA_eq rfl)
theorem laws_eqPlantFoeS.l0_lp {F : (Exit → St → Prop) → St → Prop} {hv : List Tmp} {Q : Exit → St → Prop} {σ : St} {r : Bool} {k : Nat} {l0 : List S_impl_PlantFoe} {l1 : List S_impl_PlantFoe} {x5 : Int} (H : laws_eqPlantFoeS.l0 k l0 l1 x5 = some r) (rn : List (Option Nat)) (h1 : Fits σ σ [] [(5, .int .i64 x5)] [] [] rn)
    (h2 : ∀ (k0 : Nat) (x5 : Int), k0 < k + 1 → laws_eqPlantFoeS.l0 k0 l0 l1 x5 = some r → headN σ hv [] [(5, .int .i64 x5)] [] [] (F (fun e σ' => match e with | .normal => ∃ (y : Nat × Int) (rn : List (Option Nat)), (laws_eqPlantFoeS.l0 y.1 l0 l1 y.2 = some r ∧ y.1 < k + 1) ∧ y.1 < k0 ∧ Fits σ σ' [] [(5, .int .i64 y.2)] [] [] rn | e => Q e σ'))) : Lp F hv Q σ := by
  unfold Lp
  refine ⟨Nat × Int, fun x => laws_eqPlantFoeS.l0 x.1 l0 l1 x.2 = some r ∧ x.1 < k + 1, fun x => x.1, [], fun x => [(5, .int .i64 x.2)], fun x => [], fun x => [], ⟨(k, x5), rn, ⟨H, Nat.lt_succ_self _⟩, h1⟩, ?_⟩
  rintro ⟨k, x5⟩ ⟨H, hk⟩
  exact h2 k x5 hk H
theorem laws_eqPlantFoeS.ac {k : Nat} {l0 : List S_impl_PlantFoe} {l1 : List S_impl_PlantFoe} {r : Bool} (H : laws_eqPlantFoeS.f k l0 l1 = some r) : ACalls Try.prog G 91 [] [(sv_S_impl_PlantFoe l0), (sv_S_impl_PlantFoe l1)] [] (.bool r) := by
  refine acalls_of tok hP Try.func91 rfl (by kernel_rfl) [.tmp 4] rfl (by kernel_rfl) (Nat.le_of_ble_eq_true rfl) (.l .n (.l .n (.l (.l .n (.l (.c .n .n) (.l (.c .n .n) .n))) .n))) rfl ?_
  unfold laws_eqPlantFoeS.f at H
  conv => whnf
  refine br_nd H (fun c H => ?_) (fun c H => ?_)
  conv => whnf
  refine laws_eqPlantFoeS.l0_lp (l0 := l0) (l1 := l1) (k := k) H [] (fits_of ⟨.inl ⟨rfl, rfl⟩, trivial⟩ trivial fi_ trivial rfl) ?_
  intro k x5 hk H; rcases k with _ | k; exact none_elim H; rw [laws_eqPlantFoeS.l0] at H; conv => whnf
  refine cut_ 88 [(0, (sv_S_impl_PlantFoe l0)), (1, (sv_S_impl_PlantFoe l1)), (5, .int .i64 x5), (14, .bool (decide (x5 < (l0.length : Int))))] [] rfl ⟨.inl rfl, ⟨.inl rfl, ⟨.inl rfl, ⟨.inl rfl, trivial⟩⟩⟩⟩ trivial ?_
  conv => whnf
  refine br_d H (fun c H => ?_) (fun c H => ?_)
  conv => whnf
  refine nd_ H (fun c H => ?_)
  conv => whnf
  refine Nd.mk nf_ ?_
  conv => whnf
  refine El.mk (rdm_en_S_impl_PlantFoe _ _ nf_ nf_) ?_
  conv => whnf
  refine Nd.mk nf_ ?_
  conv => whnf
  refine nd_ H (fun c H => ?_)
  conv => whnf
  refine El.mk (rdm_en_S_impl_PlantFoe _ _ nf_ nf_) ?_
  conv => whnf
  revert H; refine bind_elim (fun t1028 A H => ?_)
  refine call_mk (laws_eqPlantFoe.ac A) (avAL_cons (avA_agg (avL_cons (av_shut' rfl) (avL_cons (av_shut' rfl) (avL_nil)))) (avAL_cons (avA_agg (avL_cons (av_shut' rfl) (avL_cons (av_shut' rfl) (avL_nil)))) (avAL_nil))) (Or.inl rfl) rfl rfl (Nat.le_of_ble_eq_true rfl) ?_
  conv => whnf
  refine cut_ 168 [(0, (sv_S_impl_PlantFoe l0)), (1, (sv_S_impl_PlantFoe l1)), (5, .int .i64 x5), (26, .bool (!t1028))] [] rfl ⟨.inl rfl, ⟨.inl rfl, ⟨.inl rfl, ⟨.inl rfl, trivial⟩⟩⟩⟩ trivial ?_
  conv => whnf
  refine br_nt H (fun c H => ?_) (fun c H => ?_)
  conv => whnf
  exact ⟨(k, wrap64 (x5 + 1)), [], ⟨H, lt_⟩, lt_, (fits_of ⟨.inl ⟨rfl, rfl⟩, trivial⟩ trivial fi_ trivial rfl)⟩
  conv => whnf
  injection H with H; subst H
  exact ret_fz [] (rtA_eq rfl)
  conv => whnf
  injection H with H; subst H
  exact ret_fz [] (rtA_eq rfl)
  conv => whnf
  injection H with H; subst H
  exact ret_fz [] (rtA_eq rfl)
theorem laws_eqPlantPlace.ac {a0_0 : ByteArray} {a0_1 : Int} {a0_2 : ByteArray} {a1_0 : ByteArray} {a1_1 : Int} {a1_2 : ByteArray} {r : Bool} (H : laws_eqPlantPlace.f a0_0 a0_1 a0_2 a1_0 a1_1 a1_2 = some r) : ACalls Try.prog G 160 [] [.agg [.str a0_0, .int .i64 a0_1, .str a0_2], .agg [.str a1_0, .int .i64 a1_1, .str a1_2]] [] (.bool r) := by
  refine acalls_of tok hP Try.func160 rfl (by kernel_rfl) [.tmp 4] rfl (by kernel_rfl) (Nat.le_of_ble_eq_true rfl) (.l .n (.l .n (.l (.c .n .n) .n))) rfl ?_
  unfold laws_eqPlantPlace.f at H
  conv => whnf
  refine br_nd H (fun c H => ?_) (fun c H => ?_)
  conv => whnf
  refine cut_ 104 [(2, .bp 0 0), (3, .bp 8 0), (14, .bool (!(decide (a0_1 = a1_1))))] [(0, .box [.str a0_0, .int .i64 a0_1, .str a0_2]), (8, .box [.str a1_0, .int .i64 a1_1, .str a1_2])] rfl ⟨.inl rfl, ⟨.inl rfl, ⟨.inl rfl, trivial⟩⟩⟩ ⟨rfl, ⟨rfl, trivial⟩⟩ ?_
  conv => whnf
  refine br_nd H (fun c H => ?_) (fun c H => ?_)
  conv => whnf
  refine br_nd H (fun c H => ?_) (fun c H => ?_)
  conv => whnf
  injection H with H; subst H
  exact ret_fz [] (rtA_eq rfl)
  conv => whnf
  injection H with H; subst H
  exact ret_fz [] (rtA_eq rfl)
  conv => whnf
  injection H with H; subst H
  exact ret_fz [] (rtA_eq rfl)
  conv => whnf
  injection H with H; subst H
  exact ret_fz [] (rtA_eq rfl)
theorem laws_eqPlantPlaceS.l0_lp {F : (Exit → St → Prop) → St → Prop} {hv : List Tmp} {Q : Exit → St → Prop} {σ : St} {r : Bool} {k : Nat} {l0 : List S_impl_PlantPlace} {l1 : List S_impl_PlantPlace} {x5 : Int} (H : laws_eqPlantPlaceS.l0 k l0 l1 x5 = some r) (rn : List (Option Nat)) (h1 : Fits σ σ [] [(5, .int .i64 x5)] [] [] rn)
    (h2 : ∀ (k0 : Nat) (x5 : Int), k0 < k + 1 → laws_eqPlantPlaceS.l0 k0 l0 l1 x5 = some r → headN σ hv [] [(5, .int .i64 x5)] [] [] (F (fun e σ' => match e with | .normal => ∃ (y : Nat × Int) (rn : List (Option Nat)), (laws_eqPlantPlaceS.l0 y.1 l0 l1 y.2 = some r ∧ y.1 < k + 1) ∧ y.1 < k0 ∧ Fits σ σ' [] [(5, .int .i64 y.2)] [] [] rn | e => Q e σ'))) : Lp F hv Q σ := by
  unfold Lp
  refine ⟨Nat × Int, fun x => laws_eqPlantPlaceS.l0 x.1 l0 l1 x.2 = some r ∧ x.1 < k + 1, fun x => x.1, [], fun x => [(5, .int .i64 x.2)], fun x => [], fun x => [], ⟨(k, x5), rn, ⟨H, Nat.lt_succ_self _⟩, h1⟩, ?_⟩
  rintro ⟨k, x5⟩ ⟨H, hk⟩
  exact h2 k x5 hk H
theorem laws_eqPlantPlaceS.ac {k : Nat} {l0 : List S_impl_PlantPlace} {l1 : List S_impl_PlantPlace} {r : Bool} (H : laws_eqPlantPlaceS.f k l0 l1 = some r) : ACalls Try.prog G 92 [] [(sv_S_impl_PlantPlace l0), (sv_S_impl_PlantPlace l1)] [] (.bool r) := by
  refine acalls_of tok hP Try.func92 rfl (by kernel_rfl) [.tmp 4] rfl (by kernel_rfl) (Nat.le_of_ble_eq_true rfl) (.l .n (.l .n (.l (.l .n (.l (.c .n .n) (.l (.c .n .n) .n))) .n))) rfl ?_
  unfold laws_eqPlantPlaceS.f at H
  conv => whnf
  refine br_nd H (fun c H => ?_) (fun c H => ?_)
  conv => whnf
  refine laws_eqPlantPlaceS.l0_lp (l0 := l0) (l1 := l1) (k := k) H [] (fits_of ⟨.inl ⟨rfl, rfl⟩, trivial⟩ trivial fi_ trivial rfl) ?_
  intro k x5 hk H; rcases k with _ | k; exact none_elim H; rw [laws_eqPlantPlaceS.l0] at H; conv => whnf
  refine cut_ 88 [(0, (sv_S_impl_PlantPlace l0)), (1, (sv_S_impl_PlantPlace l1)), (5, .int .i64 x5), (14, .bool (decide (x5 < (l0.length : Int))))] [] rfl ⟨.inl rfl, ⟨.inl rfl, ⟨.inl rfl, ⟨.inl rfl, trivial⟩⟩⟩⟩ trivial ?_
  conv => whnf
  refine br_d H (fun c H => ?_) (fun c H => ?_)
  conv => whnf
  refine nd_ H (fun c H => ?_)
  conv => whnf
  refine Nd.mk nf_ ?_
  conv => whnf
  refine El.mk (rdm_en_S_impl_PlantPlace _ _ nf_ nf_) ?_
  conv => whnf
  refine Nd.mk nf_ ?_
  conv => whnf
  refine nd_ H (fun c H => ?_)
  conv => whnf
  refine El.mk (rdm_en_S_impl_PlantPlace _ _ nf_ nf_) ?_
  conv => whnf
  revert H; refine bind_elim (fun t1084 A H => ?_)
  refine call_mk (laws_eqPlantPlace.ac A) (avAL_cons (avA_agg (avL_cons (av_shut' rfl) (avL_cons (av_shut' rfl) (avL_cons (av_shut' rfl) (avL_nil))))) (avAL_cons (avA_agg (avL_cons (av_shut' rfl) (avL_cons (av_shut' rfl) (avL_cons (av_shut' rfl) (avL_nil))))) (avAL_nil))) (Or.inl rfl) rfl rfl (Nat.le_of_ble_eq_true rfl) ?_
  conv => whnf
  refine cut_ 168 [(0, (sv_S_impl_PlantPlace l0)), (1, (sv_S_impl_PlantPlace l1)), (5, .int .i64 x5), (26, .bool (!t1084))] [] rfl ⟨.inl rfl, ⟨.inl rfl, ⟨.inl rfl, ⟨.inl rfl, trivial⟩⟩⟩⟩ trivial ?_
  conv => whnf
  refine br_nt H (fun c H => ?_) (fun c H => ?_)
  conv => whnf
  exact ⟨(k, wrap64 (x5 + 1)), [], ⟨H, lt_⟩, lt_, (fits_of ⟨.inl ⟨rfl, rfl⟩, trivial⟩ trivial fi_ trivial rfl)⟩
  conv => whnf
  injection H with H; subst H
  exact ret_fz [] (rtA_eq rfl)
  conv => whnf
  injection H with H; subst H
  exact ret_fz [] (rtA_eq rfl)
  conv => whnf
  injection H with H; subst H
  exact ret_fz [] (rtA_eq rfl)
theorem laws_eqPlantValve.ac {a0_0 : ByteArray} {a0_1 : ByteArray} {a0_2 : ByteArray} {a0_3 : ByteArray} {a1_0 : ByteArray} {a1_1 : ByteArray} {a1_2 : ByteArray} {a1_3 : ByteArray} {r : Bool} (H : laws_eqPlantValve.f a0_0 a0_1 a0_2 a0_3 a1_0 a1_1 a1_2 a1_3 = some r) : ACalls Try.prog G 161 [] [.agg [.str a0_0, .str a0_1, .str a0_2, .str a0_3], .agg [.str a1_0, .str a1_1, .str a1_2, .str a1_3]] [] (.bool r) := by
  refine acalls_of tok hP Try.func161 rfl (by kernel_rfl) [.tmp 4] rfl (by kernel_rfl) (Nat.le_of_ble_eq_true rfl) (.l .n (.l .n (.l (.c .n .n) (.l .n (.l (.c .n .n) .n))))) rfl ?_
  unfold laws_eqPlantValve.f at H
  conv => whnf
  refine br_nd H (fun c H => ?_) (fun c H => ?_)
  conv => whnf
  refine cut_ 104 [(2, .bp 0 0), (3, .bp 8 0), (14, .bool (!(decide (a0_1.toList = a1_1.toList))))] [(0, .box [.str a0_0, .str a0_1, .str a0_2, .str a0_3]), (8, .box [.str a1_0, .str a1_1, .str a1_2, .str a1_3])] rfl ⟨.inl rfl, ⟨.inl rfl, ⟨.inl rfl, trivial⟩⟩⟩ ⟨rfl, ⟨rfl, trivial⟩⟩ ?_
  conv => whnf
  refine br_nd H (fun c H => ?_) (fun c H => ?_)
  conv => whnf
  refine br_nd H (fun c H => ?_) (fun c H => ?_)
  conv => whnf
  refine cut_ 184 [(24, .bool (!(decide (a0_3.toList = a1_3.toList))))] [] rfl ⟨.inl rfl, trivial⟩ trivial ?_
  conv => whnf
  refine br_nd H (fun c H => ?_) (fun c H => ?_)
  conv => whnf
  injection H with H; subst H
  exact ret_fz [] (rtA_eq rfl)
  conv => whnf
  injection H with H; subst H
  exact ret_fz [] (rtA_eq rfl)
  conv => whnf
  injection H with H; subst H
  exact ret_fz [] (rtA_eq rfl)
  conv => whnf
  injection H with H; subst H
  exact ret_fz [] (rtA_eq rfl)
  conv => whnf
  injection H with H; subst H
  exact ret_fz [] (rtA_eq rfl)

end Go.Proofs.Ytodeegjblililaa.PS

