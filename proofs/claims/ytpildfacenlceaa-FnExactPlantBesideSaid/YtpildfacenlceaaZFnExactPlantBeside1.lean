import Derived.Test.YtpildfacenlceaaZFnExactPlantBeside0
import Derived.Test.YtpildfacenlceaaProg
import Derived.KernelRfl
set_option linter.unusedVariables false
set_option linter.unusedSimpArgs false
namespace Go.Proofs.Ytpildfacenlceaa.GB
open Go Go.Aw Go.RowKit Go.Proofs
set_option maxRecDepth 100000
set_option maxHeartbeats 40000000
variable {G : Nat → Option Obj}
def tab : List (TypeId × TI) := [(2, ⟨1, 8, false, 0, 0, [], [.int .i64 0], some .i64, false, false, false, []⟩),
  (3, ⟨1, 8, false, 0, 0, [], [.int .i64 0], some .i64, false, false, false, []⟩),
  (4, ⟨1, 1, false, 0, 0, [], [.bool false], none, false, false, true, []⟩),
  (5, ⟨1, 1, false, 0, 0, [], [.int .u8 0], some .u8, false, false, false, []⟩),
  (6, ⟨1, 1, false, 0, 0, [], [.int .u8 0], some .u8, false, false, false, []⟩),
  (7, ⟨4, 24, true, 0, 0, [(0, 2), (1, 3), (2, 4), (3, 6)], [.int .i64 0, .int .i64 0, .bool false, .int .u8 0], none, false, false, false, [(0, 1), (1, 1), (2, 1), (3, 1)]⟩),
  (8, ⟨4, 24, true, 0, 0, [(0, 2), (1, 3), (2, 4), (3, 6)], [.int .i64 0, .int .i64 0, .bool false, .int .u8 0], none, false, false, false, [(0, 1), (1, 1), (2, 1), (3, 1)]⟩),
  (9, ⟨1, 16, false, 0, 0, [], [.str ⟨#[]⟩], none, true, false, false, []⟩),
  (10, ⟨1, 16, false, 0, 0, [], [.str ⟨#[]⟩], none, true, false, false, []⟩),
  (11, ⟨1, 16, false, 0, 0, [], [.str ⟨#[]⟩], none, true, false, false, []⟩),
  (12, ⟨1, 8, false, 0, 0, [], [.int .u64 0], some .u64, false, false, false, []⟩),
  (13, ⟨2, 24, true, 0, 0, [(0, 9), (1, 12)], [.str ⟨#[]⟩, .int .u64 0], none, false, false, false, [(0, 1), (1, 1)]⟩),
  (14, ⟨2, 24, true, 0, 0, [(0, 9), (1, 12)], [.str ⟨#[]⟩, .int .u64 0], none, false, false, false, [(0, 1), (1, 1)]⟩),
  (21, ⟨1, 4, false, 0, 0, [], [.int .i32 0], some .i32, false, false, false, []⟩),
  (22, ⟨1, 24, false, 9, 0, [], [.nil], none, false, true, false, []⟩),
  (23, ⟨1, 24, false, 140, 0, [], [.nil], none, false, true, false, []⟩),
  (24, ⟨1, 24, false, 142, 0, [], [.nil], none, false, true, false, []⟩),
  (25, ⟨1, 24, false, 144, 0, [], [.nil], none, false, true, false, []⟩),
  (26, ⟨4, 96, true, 0, 0, [(0, 22), (1, 23), (2, 24), (3, 25)], [.nil, .nil, .nil, .nil], none, false, false, false, [(0, 1), (1, 1), (2, 1), (3, 1)]⟩),
  (27, ⟨4, 96, true, 0, 0, [(0, 22), (1, 23), (2, 24), (3, 25)], [.nil, .nil, .nil, .nil], none, false, false, false, [(0, 1), (1, 1), (2, 1), (3, 1)]⟩),
  (30, ⟨1, 24, false, 105, 0, [], [.nil], none, false, true, false, []⟩),
  (31, ⟨1, 24, false, 86, 0, [], [.nil], none, false, true, false, []⟩),
  (32, ⟨1, 24, false, 108, 0, [], [.nil], none, false, true, false, []⟩),
  (33, ⟨4, 96, true, 0, 0, [(0, 22), (1, 30), (2, 31), (3, 32)], [.nil, .nil, .nil, .nil], none, false, false, false, [(0, 1), (1, 1), (2, 1), (3, 1)]⟩),
  (34, ⟨4, 96, true, 0, 0, [(0, 22), (1, 30), (2, 31), (3, 32)], [.nil, .nil, .nil, .nil], none, false, false, false, [(0, 1), (1, 1), (2, 1), (3, 1)]⟩),
  (45, ⟨2, 48, true, 0, 0, [(0, 22), (1, 22)], [.nil, .nil], none, false, false, false, [(0, 1), (1, 1)]⟩),
  (46, ⟨2, 48, true, 0, 0, [(0, 22), (1, 22)], [.nil, .nil], none, false, false, false, [(0, 1), (1, 1)]⟩),
  (49, ⟨2, 48, true, 0, 0, [(0, 22), (1, 22)], [.nil, .nil], none, false, false, false, [(0, 1), (1, 1)]⟩),
  (57, ⟨1, 24, false, 84, 0, [], [.nil], none, false, true, false, []⟩),
  (64, ⟨1, 24, false, 125, 0, [], [.nil], none, false, true, false, []⟩),
  (65, ⟨2, 48, true, 0, 0, [(0, 22), (1, 64)], [.nil, .nil], none, false, false, false, [(0, 1), (1, 1)]⟩),
  (66, ⟨2, 48, true, 0, 0, [(0, 22), (1, 64)], [.nil, .nil], none, false, false, false, [(0, 1), (1, 1)]⟩),
  (70, ⟨1, 24, false, 159, 0, [], [.nil], none, false, true, false, []⟩),
  (71, ⟨2, 48, true, 0, 0, [(0, 22), (1, 70)], [.nil, .nil], none, false, false, false, [(0, 1), (1, 1)]⟩),
  (72, ⟨2, 48, true, 0, 0, [(0, 22), (1, 70)], [.nil, .nil], none, false, false, false, [(0, 1), (1, 1)]⟩),
  (77, ⟨1, 24, false, 5, 0, [], [.nil], none, false, true, false, []⟩),
  (78, ⟨1, 24, false, 4, 0, [], [.nil], none, false, true, false, []⟩),
  (83, ⟨1, 24, true, 0, 0, [(0, 22)], [.nil], none, false, false, false, [(0, 1)]⟩),
  (84, ⟨1, 24, true, 0, 0, [(0, 22)], [.nil], none, false, false, false, [(0, 1)]⟩),
  (85, ⟨3, 40, true, 0, 0, [(0, 9), (1, 3), (2, 9)], [.str ⟨#[]⟩, .int .i64 0, .str ⟨#[]⟩], none, false, false, false, [(0, 1), (1, 1), (2, 1)]⟩),
  (86, ⟨3, 40, true, 0, 0, [(0, 9), (1, 3), (2, 9)], [.str ⟨#[]⟩, .int .i64 0, .str ⟨#[]⟩], none, false, false, false, [(0, 1), (1, 1), (2, 1)]⟩),
  (102, ⟨1, 24, false, 150, 0, [], [.nil], none, false, true, false, []⟩),
  (104, ⟨2, 32, true, 0, 0, [(0, 9), (1, 9)], [.str ⟨#[]⟩, .str ⟨#[]⟩], none, false, false, false, [(0, 1), (1, 1)]⟩),
  (105, ⟨2, 32, true, 0, 0, [(0, 9), (1, 9)], [.str ⟨#[]⟩, .str ⟨#[]⟩], none, false, false, false, [(0, 1), (1, 1)]⟩),
  (107, ⟨4, 64, true, 0, 0, [(0, 9), (1, 9), (2, 9), (3, 9)], [.str ⟨#[]⟩, .str ⟨#[]⟩, .str ⟨#[]⟩, .str ⟨#[]⟩], none, false, false, false, [(0, 1), (1, 1), (2, 1), (3, 1)]⟩),
  (108, ⟨4, 64, true, 0, 0, [(0, 9), (1, 9), (2, 9), (3, 9)], [.str ⟨#[]⟩, .str ⟨#[]⟩, .str ⟨#[]⟩, .str ⟨#[]⟩], none, false, false, false, [(0, 1), (1, 1), (2, 1), (3, 1)]⟩),
  (124, ⟨2, 32, true, 0, 0, [(0, 9), (1, 9)], [.str ⟨#[]⟩, .str ⟨#[]⟩], none, false, false, false, [(0, 1), (1, 1)]⟩),
  (125, ⟨2, 32, true, 0, 0, [(0, 9), (1, 9)], [.str ⟨#[]⟩, .str ⟨#[]⟩], none, false, false, false, [(0, 1), (1, 1)]⟩),
  (140, ⟨2, 32, true, 0, 0, [(0, 9), (1, 9)], [.str ⟨#[]⟩, .str ⟨#[]⟩], none, false, false, false, [(0, 1), (1, 1)]⟩),
  (142, ⟨3, 40, true, 0, 0, [(0, 9), (1, 3), (2, 9)], [.str ⟨#[]⟩, .int .i64 0, .str ⟨#[]⟩], none, false, false, false, [(0, 1), (1, 1), (2, 1)]⟩),
  (144, ⟨4, 64, true, 0, 0, [(0, 9), (1, 9), (2, 9), (3, 9)], [.str ⟨#[]⟩, .str ⟨#[]⟩, .str ⟨#[]⟩, .str ⟨#[]⟩], none, false, false, false, [(0, 1), (1, 1), (2, 1), (3, 1)]⟩),
  (150, ⟨2, 32, true, 9, 2, [], [.str ⟨#[]⟩, .str ⟨#[]⟩], none, false, false, false, [(0, 1), (1, 1)]⟩),
  (159, ⟨2, 32, true, 0, 0, [(0, 9), (1, 9)], [.str ⟨#[]⟩, .str ⟨#[]⟩], none, false, false, false, [(0, 1), (1, 1)]⟩),
  (161, ⟨2, 32, true, 0, 0, [(0, 77), (1, 3)], [.nil, .int .i64 0], none, false, false, false, [(0, 1), (1, 1)]⟩),
  (162, ⟨2, 32, true, 0, 0, [(0, 77), (1, 3)], [.nil, .int .i64 0], none, false, false, false, [(0, 1), (1, 1)]⟩),
  (165, ⟨1, 24, false, 49, 0, [], [.nil], none, false, true, false, []⟩),
  (171, ⟨1, 24, false, 3, 0, [], [.nil], none, false, true, false, []⟩),
  (175, ⟨1, 8, false, 0, 0, [], [.int .u64 0], some .u64, false, false, false, []⟩),
  (179, ⟨1, 8, false, 0, 0, [], [.int .i64 0], some .i64, false, false, false, []⟩),
  (188, ⟨1, 4, false, 0, 0, [], [.int .u32 0], some .u32, false, false, false, []⟩),
  (190, ⟨1, 8, false, 0, 0, [], [.int .u64 0], some .u64, false, false, false, []⟩),
  (191, ⟨1, 8, false, 0, 0, [], [.int .u64 0], some .u64, false, false, false, []⟩),
  (209, ⟨1, 1, false, 0, 0, [], [.int .u8 0], some .u8, false, false, false, []⟩),
  (210, ⟨1, 1, false, 0, 0, [], [.int .u8 0], some .u8, false, false, false, []⟩),
  (213, ⟨1, 4, false, 0, 0, [], [.int .i32 0], some .i32, false, false, false, []⟩),
  (214, ⟨1, 4, false, 0, 0, [], [.int .i32 0], some .i32, false, false, false, []⟩)]
theorem tok : TOk Try.prog (lk tab) := tok_of tab (by kernel_rfl)
theorem hP : Try.prog.follows .mixedOrders = true := by kernel_rfl
def en_str (x : ByteArray) : List V := [.str x]
def sv_str (l : List ByteArray) : V := .sl 1 l.length (l.map en_str)
def ob_str (l : List ByteArray) : Ob := .arr 9 1 (l.map en_str)
theorem bare_en_str (x : ByteArray) : (en_str x).all V.bare = true := rfl
theorem rdm_en_str (l : List ByteArray) (i : Int) (h0 : 0 ≤ i) (h1 : i < (l.length : Int)) : (l.map en_str)[i.toNat]? = some (en_str (rdOf ByteArray.empty l i)) := by
  have : i.toNat < l.length := by omega
  simp [rdOf, this]
def en_S_laws_PlantFoe (x : S_laws_PlantFoe) : List V := [.str x.f0, .str x.f1]
def sv_S_laws_PlantFoe (l : List S_laws_PlantFoe) : V := .sl 2 l.length (l.map en_S_laws_PlantFoe)
def ob_S_laws_PlantFoe (l : List S_laws_PlantFoe) : Ob := .arr 140 2 (l.map en_S_laws_PlantFoe)
theorem bare_en_S_laws_PlantFoe (x : S_laws_PlantFoe) : (en_S_laws_PlantFoe x).all V.bare = true := rfl
theorem rdm_en_S_laws_PlantFoe (l : List S_laws_PlantFoe) (i : Int) (h0 : 0 ≤ i) (h1 : i < (l.length : Int)) : (l.map en_S_laws_PlantFoe)[i.toNat]? = some (en_S_laws_PlantFoe (rd_laws_PlantFoe l i)) := by
  have : i.toNat < l.length := by omega
  simp [rd_laws_PlantFoe, this]
def en_S_laws_PlantPlace (x : S_laws_PlantPlace) : List V := [.str x.f0, .int .i64 x.f1, .str x.f2]
def sv_S_laws_PlantPlace (l : List S_laws_PlantPlace) : V := .sl 3 l.length (l.map en_S_laws_PlantPlace)
def ob_S_laws_PlantPlace (l : List S_laws_PlantPlace) : Ob := .arr 142 3 (l.map en_S_laws_PlantPlace)
theorem bare_en_S_laws_PlantPlace (x : S_laws_PlantPlace) : (en_S_laws_PlantPlace x).all V.bare = true := rfl
theorem rdm_en_S_laws_PlantPlace (l : List S_laws_PlantPlace) (i : Int) (h0 : 0 ≤ i) (h1 : i < (l.length : Int)) : (l.map en_S_laws_PlantPlace)[i.toNat]? = some (en_S_laws_PlantPlace (rd_laws_PlantPlace l i)) := by
  have : i.toNat < l.length := by omega
  simp [rd_laws_PlantPlace, this]
def en_S_laws_PlantValve (x : S_laws_PlantValve) : List V := [.str x.f0, .str x.f1, .str x.f2, .str x.f3]
def sv_S_laws_PlantValve (l : List S_laws_PlantValve) : V := .sl 4 l.length (l.map en_S_laws_PlantValve)
def ob_S_laws_PlantValve (l : List S_laws_PlantValve) : Ob := .arr 144 4 (l.map en_S_laws_PlantValve)
theorem bare_en_S_laws_PlantValve (x : S_laws_PlantValve) : (en_S_laws_PlantValve x).all V.bare = true := rfl
theorem rdm_en_S_laws_PlantValve (l : List S_laws_PlantValve) (i : Int) (h0 : 0 ≤ i) (h1 : i < (l.length : Int)) : (l.map en_S_laws_PlantValve)[i.toNat]? = some (en_S_laws_PlantValve (rd_laws_PlantValve l i)) := by
  have : i.toNat < l.length := by omega
  simp [rd_laws_PlantValve, this]
def en_S_impl_PlantFoe (x : S_impl_PlantFoe) : List V := [.str x.f0, .str x.f1]
def sv_S_impl_PlantFoe (l : List S_impl_PlantFoe) : V := .sl 2 l.length (l.map en_S_impl_PlantFoe)
def ob_S_impl_PlantFoe (l : List S_impl_PlantFoe) : Ob := .arr 105 2 (l.map en_S_impl_PlantFoe)
theorem bare_en_S_impl_PlantFoe (x : S_impl_PlantFoe) : (en_S_impl_PlantFoe x).all V.bare = true := rfl
theorem rdm_en_S_impl_PlantFoe (l : List S_impl_PlantFoe) (i : Int) (h0 : 0 ≤ i) (h1 : i < (l.length : Int)) : (l.map en_S_impl_PlantFoe)[i.toNat]? = some (en_S_impl_PlantFoe (rd_impl_PlantFoe l i)) := by
  have : i.toNat < l.length := by omega
  simp [rd_impl_PlantFoe, this]
def en_S_impl_PlantPlace (x : S_impl_PlantPlace) : List V := [.str x.f0, .int .i64 x.f1, .str x.f2]
def sv_S_impl_PlantPlace (l : List S_impl_PlantPlace) : V := .sl 3 l.length (l.map en_S_impl_PlantPlace)
def ob_S_impl_PlantPlace (l : List S_impl_PlantPlace) : Ob := .arr 86 3 (l.map en_S_impl_PlantPlace)
theorem bare_en_S_impl_PlantPlace (x : S_impl_PlantPlace) : (en_S_impl_PlantPlace x).all V.bare = true := rfl
theorem rdm_en_S_impl_PlantPlace (l : List S_impl_PlantPlace) (i : Int) (h0 : 0 ≤ i) (h1 : i < (l.length : Int)) : (l.map en_S_impl_PlantPlace)[i.toNat]? = some (en_S_impl_PlantPlace (rd_impl_PlantPlace l i)) := by
  have : i.toNat < l.length := by omega
  simp [rd_impl_PlantPlace, this]
def en_S_impl_PlantValve (x : S_impl_PlantValve) : List V := [.str x.f0, .str x.f1, .str x.f2, .str x.f3]
def sv_S_impl_PlantValve (l : List S_impl_PlantValve) : V := .sl 4 l.length (l.map en_S_impl_PlantValve)
def ob_S_impl_PlantValve (l : List S_impl_PlantValve) : Ob := .arr 108 4 (l.map en_S_impl_PlantValve)
theorem bare_en_S_impl_PlantValve (x : S_impl_PlantValve) : (en_S_impl_PlantValve x).all V.bare = true := rfl
theorem rdm_en_S_impl_PlantValve (l : List S_impl_PlantValve) (i : Int) (h0 : 0 ≤ i) (h1 : i < (l.length : Int)) : (l.map en_S_impl_PlantValve)[i.toNat]? = some (en_S_impl_PlantValve (rd_impl_PlantValve l i)) := by
  have : i.toNat < l.length := by omega
  simp [rd_impl_PlantValve, this]
def en_S_A2_string (x : S_A2_string) : List V := [.str x.f0, .str x.f1]
def sv_S_A2_string (l : List S_A2_string) : V := .sl 2 l.length (l.map en_S_A2_string)
def ob_S_A2_string (l : List S_A2_string) : Ob := .arr 150 2 (l.map en_S_A2_string)
theorem bare_en_S_A2_string (x : S_A2_string) : (en_S_A2_string x).all V.bare = true := rfl
theorem rdm_en_S_A2_string (l : List S_A2_string) (i : Int) (h0 : 0 ≤ i) (h1 : i < (l.length : Int)) : (l.map en_S_A2_string)[i.toNat]? = some (en_S_A2_string (rd_A2_string l i)) := by
  have : i.toNat < l.length := by omega
  simp [rd_A2_string, this]
def en_u8 (x : Int) : List V := [.int .u8 x]
def sv_u8 (l : List Int) : V := .sl 1 l.length (l.map en_u8)
def ob_u8 (l : List Int) : Ob := .arr 5 1 (l.map en_u8)
theorem bare_en_u8 (x : Int) : (en_u8 x).all V.bare = true := rfl
theorem rdm_en_u8 (l : List Int) (i : Int) (h0 : 0 ≤ i) (h1 : i < (l.length : Int)) : (l.map en_u8)[i.toNat]? = some (en_u8 (rd l i)) := by
  have : i.toNat < l.length := by omega
  simp [rd, this]
def en_L_str (x : List ByteArray) : List V := [(sv_str x)]
def sv_L_str (l : List (List ByteArray)) : V := .sl 1 l.length (l.map en_L_str)
def ob_L_str (l : List (List ByteArray)) : Ob := .arr 22 1 (l.map en_L_str)
theorem rdm_en_L_str (l : List (List ByteArray)) (i : Int) (h0 : 0 ≤ i) (h1 : i < (l.length : Int)) : (l.map en_L_str)[i.toNat]? = some (en_L_str (rdOf ([] : List ByteArray) l i)) := by
  have : i.toNat < l.length := by omega
  simp [rdOf, this]
def en_L_S_laws_PlantFoe (x : List S_laws_PlantFoe) : List V := [(sv_S_laws_PlantFoe x)]
def sv_L_S_laws_PlantFoe (l : List (List S_laws_PlantFoe)) : V := .sl 1 l.length (l.map en_L_S_laws_PlantFoe)
def ob_L_S_laws_PlantFoe (l : List (List S_laws_PlantFoe)) : Ob := .arr 23 1 (l.map en_L_S_laws_PlantFoe)
theorem rdm_en_L_S_laws_PlantFoe (l : List (List S_laws_PlantFoe)) (i : Int) (h0 : 0 ≤ i) (h1 : i < (l.length : Int)) : (l.map en_L_S_laws_PlantFoe)[i.toNat]? = some (en_L_S_laws_PlantFoe (rdOf ([] : List S_laws_PlantFoe) l i)) := by
  have : i.toNat < l.length := by omega
  simp [rdOf, this]
def en_i64 (x : Int) : List V := [.int .i64 x]
def sv_i64 (l : List Int) : V := .sl 1 l.length (l.map en_i64)
def ob_i64 (l : List Int) : Ob := .arr 3 1 (l.map en_i64)
theorem bare_en_i64 (x : Int) : (en_i64 x).all V.bare = true := rfl
theorem rdm_en_i64 (l : List Int) (i : Int) (h0 : 0 ≤ i) (h1 : i < (l.length : Int)) : (l.map en_i64)[i.toNat]? = some (en_i64 (rd l i)) := by
  have : i.toNat < l.length := by omega
  simp [rd, this]
def en_L_S_laws_PlantPlace (x : List S_laws_PlantPlace) : List V := [(sv_S_laws_PlantPlace x)]
def sv_L_S_laws_PlantPlace (l : List (List S_laws_PlantPlace)) : V := .sl 1 l.length (l.map en_L_S_laws_PlantPlace)
def ob_L_S_laws_PlantPlace (l : List (List S_laws_PlantPlace)) : Ob := .arr 24 1 (l.map en_L_S_laws_PlantPlace)
theorem rdm_en_L_S_laws_PlantPlace (l : List (List S_laws_PlantPlace)) (i : Int) (h0 : 0 ≤ i) (h1 : i < (l.length : Int)) : (l.map en_L_S_laws_PlantPlace)[i.toNat]? = some (en_L_S_laws_PlantPlace (rdOf ([] : List S_laws_PlantPlace) l i)) := by
  have : i.toNat < l.length := by omega
  simp [rdOf, this]
def en_L_S_laws_PlantValve (x : List S_laws_PlantValve) : List V := [(sv_S_laws_PlantValve x)]
def sv_L_S_laws_PlantValve (l : List (List S_laws_PlantValve)) : V := .sl 1 l.length (l.map en_L_S_laws_PlantValve)
def ob_L_S_laws_PlantValve (l : List (List S_laws_PlantValve)) : Ob := .arr 25 1 (l.map en_L_S_laws_PlantValve)
theorem rdm_en_L_S_laws_PlantValve (l : List (List S_laws_PlantValve)) (i : Int) (h0 : 0 ≤ i) (h1 : i < (l.length : Int)) : (l.map en_L_S_laws_PlantValve)[i.toNat]? = some (en_L_S_laws_PlantValve (rdOf ([] : List S_laws_PlantValve) l i)) := by
  have : i.toNat < l.length := by omega
  simp [rdOf, this]
def en_S_laws_Plant (x : S_laws_Plant) : List V := [(sv_str x.f0), (sv_S_laws_PlantFoe x.f1), (sv_S_laws_PlantPlace x.f2), (sv_S_laws_PlantValve x.f3)]
def sv_S_laws_Plant (l : List S_laws_Plant) : V := .sl 4 l.length (l.map en_S_laws_Plant)
def ob_S_laws_Plant (l : List S_laws_Plant) : Ob := .arr 27 4 (l.map en_S_laws_Plant)
theorem rdm_en_S_laws_Plant (l : List S_laws_Plant) (i : Int) (h0 : 0 ≤ i) (h1 : i < (l.length : Int)) : (l.map en_S_laws_Plant)[i.toNat]? = some (en_S_laws_Plant (rd_laws_Plant l i)) := by
  have : i.toNat < l.length := by omega
  simp [rd_laws_Plant, this]
attribute [local irreducible] callE Lp Sq Cut RetOk Fits

theorem laws_szStringS.l0_lp {F : (Exit → St → Prop) → St → Prop} {hv : List Tmp} {Q : Exit → St → Prop} {σ : St} {r : Int} {k : Nat} {l0 : List ByteArray} {x1 : Int} {x5 : Int} (H : laws_szStringS.l0 k l0 x1 x5 = some r) (rn : List (Option Nat)) (h1 : Fits σ σ [] [(1, .int .i64 x1), (5, .int .i64 x5)] [] [] rn)
    (h2 : ∀ (k0 : Nat) (x1 : Int) (x5 : Int), k0 < k + 1 → laws_szStringS.l0 k0 l0 x1 x5 = some r → headN σ hv [] [(1, .int .i64 x1), (5, .int .i64 x5)] [] [] (F (fun e σ' => match e with | .normal => ∃ (y : Nat × Int × Int) (rn : List (Option Nat)), (laws_szStringS.l0 y.1 l0 y.2.1 y.2.2 = some r ∧ y.1 < k + 1) ∧ y.1 < k0 ∧ Fits σ σ' [] [(1, .int .i64 y.2.1), (5, .int .i64 y.2.2)] [] [] rn | e => Q e σ'))) : Lp F hv Q σ := by
  unfold Lp
  refine ⟨Nat × Int × Int, fun x => laws_szStringS.l0 x.1 l0 x.2.1 x.2.2 = some r ∧ x.1 < k + 1, fun x => x.1, [], fun x => [(1, .int .i64 x.2.1), (5, .int .i64 x.2.2)], fun x => [], fun x => [], ⟨(k, x1, x5), rn, ⟨H, Nat.lt_succ_self _⟩, h1⟩, ?_⟩
  rintro ⟨k, x1, x5⟩ ⟨H, hk⟩
  exact h2 k x1 x5 hk H
theorem laws_szStringS.ac {k : Nat} {l0 : List ByteArray} {a1 : Int} {r : Int} (H : laws_szStringS.f k l0 a1 = some r) : ACalls Try.prog G 33 [] [(sv_str l0), .int .i64 a1] [] (.int .i64 r) := by
  refine acalls_of tok hP Try.func33 rfl (by kernel_rfl) [.tmp 4] rfl (by kernel_rfl) (Nat.le_of_ble_eq_true rfl) (.l .n (.l .n (.l .n (.l (.l .n (.l (.c .n .n) (.l (.l .n (.c .n .n)) .n))) .n)))) ?_
  unfold laws_szStringS.f at H
  conv => whnf
  refine br_d H (fun c H => ?_) (fun c H => ?_)
  conv => whnf
  injection H with H; subst H
  exact ret_fz [] (rtA_eq rfl)
  conv => whnf
  refine laws_szStringS.l0_lp (l0 := l0) (k := k) H [] (fits_of ⟨.inl ⟨rfl, rfl⟩, ⟨.inl ⟨rfl, rfl⟩, trivial⟩⟩ trivial fi_ trivial rfl) ?_
  intro k x1 x5 hk H; rcases k with _ | k; exact none_elim H; rw [laws_szStringS.l0] at H; conv => whnf
  refine cut_ 104 [(0, (sv_str l0)), (1, .int .i64 x1), (5, .int .i64 x5), (12, .int .i64 x5), (13, (sv_str l0)), (14, .int .i64 (l0.length : Int)), (15, .bool (decide (x5 < (l0.length : Int))))] [] rfl ⟨rfl, ⟨rfl, ⟨rfl, ⟨rfl, ⟨rfl, ⟨rfl, ⟨rfl, trivial⟩⟩⟩⟩⟩⟩⟩ trivial ?_
  conv => whnf
  refine br_d H (fun c H => ?_) (fun c H => ?_)
  conv => whnf
  refine nd_ H (fun c H => ?_)
  conv => whnf
  refine Nd.mk nf_ ?_
  conv => whnf
  refine El.mk (rdm_en_str _ _ nf_ nf_) ?_
  conv => whnf
  refine cut_ 184 [(0, (sv_str l0)), (1, .int .i64 (wrap64 (x1 - ((rdOf ByteArray.empty l0 x5).size : Int)))), (5, .int .i64 x5), (12, .int .i64 x5), (13, (sv_str l0)), (14, .int .i64 (l0.length : Int)), (15, .bool (decide (x5 < (l0.length : Int)))), (18, .int .i64 x1), (19, (sv_str l0)), (20, .int .i64 x5), (21, .rp [.str (rdOf ByteArray.empty l0 x5)]), (22, .str (rdOf ByteArray.empty l0 x5)), (23, .int .i64 ((rdOf ByteArray.empty l0 x5).size : Int)), (24, .int .i64 (wrap64 (x1 - ((rdOf ByteArray.empty l0 x5).size : Int)))), (25, .int .i64 (wrap64 (x1 - ((rdOf ByteArray.empty l0 x5).size : Int)))), (26, .bool (decide ((wrap64 (x1 - ((rdOf ByteArray.empty l0 x5).size : Int))) < 0)))] [] rfl ⟨rfl, ⟨rfl, ⟨rfl, ⟨rfl, ⟨rfl, ⟨rfl, ⟨rfl, ⟨rfl, ⟨rfl, ⟨rfl, ⟨rfl, ⟨rfl, ⟨rfl, ⟨rfl, ⟨rfl, ⟨rfl, trivial⟩⟩⟩⟩⟩⟩⟩⟩⟩⟩⟩⟩⟩⟩⟩⟩ trivial ?_
  conv => whnf
  refine br_d H (fun c H => ?_) (fun c H => ?_)
  conv => whnf
  injection H with H; subst H
  exact ret_fz [] (rtA_eq rfl)
  conv => whnf
  exact ⟨(k, wrap64 (x1 - ((rdOf ByteArray.empty l0 x5).size : Int)), wrap64 (x5 + 1)), [], ⟨H, lt_⟩, lt_, (fits_of ⟨.inl ⟨rfl, rfl⟩, ⟨.inl ⟨rfl, rfl⟩, trivial⟩⟩ trivial fi_ trivial rfl)⟩
  conv => whnf
  injection H with H; subst H
  exact ret_fz [] (rtA_eq rfl)
theorem laws_szPlantFoe.ac {a0_0 : ByteArray} {a0_1 : ByteArray} {a1 : Int} {r : Int} (H : laws_szPlantFoe.f a0_0 a0_1 a1 = some r) : ACalls Try.prog G 116 [] [.agg [.str a0_0, .str a0_1], .int .i64 a1] [] (.int .i64 r) := by
  refine acalls_of tok hP Try.func116 rfl (by kernel_rfl) [.tmp 4] rfl (by kernel_rfl) (Nat.le_of_ble_eq_true rfl) (.l .n (.l .n (.l (.c .n .n) (.l .n (.l .n (.c .n .n)))))) ?_
  unfold laws_szPlantFoe.f at H
  conv => whnf
  refine cut_ 80 [(1, .int .i64 (wrap64 (a1 - (a0_0.size : Int)))), (2, .bp 0 0), (4, .int .i64 0), (11, .bool (decide ((wrap64 (a1 - (a0_0.size : Int))) < 0)))] [(0, .box [.str a0_0, .str a0_1])] rfl ⟨rfl, ⟨rfl, ⟨rfl, ⟨rfl, trivial⟩⟩⟩⟩ ⟨rfl, trivial⟩ ?_
  conv => whnf
  refine br_d H (fun c H => ?_) (fun c H => ?_)
  conv => whnf
  injection H with H; subst H
  exact ret_fz [] (rtA_eq rfl)
  conv => whnf
  refine br_d H (fun c H => ?_) (fun c H => ?_)
  conv => whnf
  injection H with H; subst H
  exact ret_fz [] (rtA_eq rfl)
  conv => whnf
  refine cut_ 160 [(4, .int .i64 (wrap64 ((wrap64 (a1 - (a0_0.size : Int))) - (a0_1.size : Int))))] [] rfl ⟨rfl, trivial⟩ trivial ?_
  conv => whnf
  injection H with H; subst H
  exact ret_fz [] (rtA_eq rfl)
theorem laws_szPlantFoeS.l0_lp {F : (Exit → St → Prop) → St → Prop} {hv : List Tmp} {Q : Exit → St → Prop} {σ : St} {r : Int} {k : Nat} {l0 : List S_laws_PlantFoe} {x1 : Int} {x5 : Int} (H : laws_szPlantFoeS.l0 k l0 x1 x5 = some r) (rn : List (Option Nat)) (h1 : Fits σ σ [] [(1, .int .i64 x1), (5, .int .i64 x5)] [] [] rn)
    (h2 : ∀ (k0 : Nat) (x1 : Int) (x5 : Int), k0 < k + 1 → laws_szPlantFoeS.l0 k0 l0 x1 x5 = some r → headN σ hv [] [(1, .int .i64 x1), (5, .int .i64 x5)] [] [] (F (fun e σ' => match e with | .normal => ∃ (y : Nat × Int × Int) (rn : List (Option Nat)), (laws_szPlantFoeS.l0 y.1 l0 y.2.1 y.2.2 = some r ∧ y.1 < k + 1) ∧ y.1 < k0 ∧ Fits σ σ' [] [(1, .int .i64 y.2.1), (5, .int .i64 y.2.2)] [] [] rn | e => Q e σ'))) : Lp F hv Q σ := by
  unfold Lp
  refine ⟨Nat × Int × Int, fun x => laws_szPlantFoeS.l0 x.1 l0 x.2.1 x.2.2 = some r ∧ x.1 < k + 1, fun x => x.1, [], fun x => [(1, .int .i64 x.2.1), (5, .int .i64 x.2.2)], fun x => [], fun x => [], ⟨(k, x1, x5), rn, ⟨H, Nat.lt_succ_self _⟩, h1⟩, ?_⟩
  rintro ⟨k, x1, x5⟩ ⟨H, hk⟩
  exact h2 k x1 x5 hk H
theorem laws_szPlantFoeS.ac {k : Nat} {l0 : List S_laws_PlantFoe} {a1 : Int} {r : Int} (H : laws_szPlantFoeS.f k l0 a1 = some r) : ACalls Try.prog G 63 [] [(sv_S_laws_PlantFoe l0), .int .i64 a1] [] (.int .i64 r) := by
  refine acalls_of tok hP Try.func63 rfl (by kernel_rfl) [.tmp 4] rfl (by kernel_rfl) (Nat.le_of_ble_eq_true rfl) (.l .n (.l .n (.l .n (.l (.l .n (.l (.c .n .n) (.l (.l .n (.l .n (.l (.c .n .n) .n))) .n))) .n)))) ?_
  unfold laws_szPlantFoeS.f at H
  conv => whnf
  refine br_d H (fun c H => ?_) (fun c H => ?_)
  conv => whnf
  injection H with H; subst H
  exact ret_fz [] (rtA_eq rfl)
  conv => whnf
  refine laws_szPlantFoeS.l0_lp (l0 := l0) (k := k) H [] (fits_of ⟨.inl ⟨rfl, rfl⟩, ⟨.inl ⟨rfl, rfl⟩, trivial⟩⟩ trivial fi_ trivial rfl) ?_
  intro k x1 x5 hk H; rcases k with _ | k; exact none_elim H; rw [laws_szPlantFoeS.l0] at H; conv => whnf
  refine cut_ 104 [(0, (sv_S_laws_PlantFoe l0)), (1, .int .i64 x1), (5, .int .i64 x5), (12, .int .i64 x5), (13, (sv_S_laws_PlantFoe l0)), (14, .int .i64 (l0.length : Int)), (15, .bool (decide (x5 < (l0.length : Int))))] [] rfl ⟨rfl, ⟨rfl, ⟨rfl, ⟨rfl, ⟨rfl, ⟨rfl, ⟨rfl, trivial⟩⟩⟩⟩⟩⟩⟩ trivial ?_
  conv => whnf
  refine br_d H (fun c H => ?_) (fun c H => ?_)
  conv => whnf
  refine nd_ H (fun c H => ?_)
  conv => whnf
  refine Nd.mk nf_ ?_
  conv => whnf
  refine El.mk (rdm_en_S_laws_PlantFoe _ _ nf_ nf_) ?_
  conv => whnf
  revert H; refine bind_elim (fun t3396 A H => ?_)
  refine call_mk (laws_szPlantFoe.ac A) (avAL_cons (avA_agg (avL_cons (av_shut' rfl) (avL_cons (av_shut' rfl) (avL_nil)))) (avAL_cons (avA_shut' rfl) (avAL_nil))) (Or.inl rfl) rfl rfl (Nat.le_of_ble_eq_true rfl) ?_
  conv => whnf
  refine br_d H (fun c H => ?_) (fun c H => ?_)
  conv => whnf
  refine cut_ 184 [(0, (sv_S_laws_PlantFoe l0)), (1, .int .i64 t3396), (4, .int .i64 (-1)), (5, .int .i64 x5), (12, .int .i64 x5), (13, (sv_S_laws_PlantFoe l0)), (14, .int .i64 (l0.length : Int)), (15, .bool (decide (x5 < (l0.length : Int)))), (18, (sv_S_laws_PlantFoe l0)), (19, .int .i64 x5), (20, .rp [.str ((rd_laws_PlantFoe l0 x5).f0), .str ((rd_laws_PlantFoe l0 x5).f1)]), (21, .agg [.str ((rd_laws_PlantFoe l0 x5).f0), .str ((rd_laws_PlantFoe l0 x5).f1)]), (22, .int .i64 x1), (23, .int .i64 t3396), (24, .int .i64 t3396), (25, .bool (decide (t3396 < 0)))] [] rfl ⟨rfl, ⟨rfl, ⟨rfl, ⟨rfl, ⟨rfl, ⟨rfl, ⟨rfl, ⟨rfl, ⟨rfl, ⟨rfl, ⟨rfl, ⟨rfl, ⟨rfl, ⟨rfl, ⟨rfl, ⟨rfl, trivial⟩⟩⟩⟩⟩⟩⟩⟩⟩⟩⟩⟩⟩⟩⟩⟩ trivial ?_
  conv => whnf
  injection H with H; subst H
  exact ret_fz [] (rtA_eq rfl)
  conv => whnf
  exact ⟨(k, t3396, wrap64 (x5 + 1)), [], ⟨H, lt_⟩, lt_, (fits_of ⟨.inl ⟨rfl, rfl⟩, ⟨.inl ⟨rfl, rfl⟩, trivial⟩⟩ trivial fi_ trivial rfl)⟩
  conv => whnf
  injection H with H; subst H
  exact ret_fz [] (rtA_eq rfl)
theorem laws_szPlantPlace.ac {a0_0 : ByteArray} {a0_1 : Int} {a0_2 : ByteArray} {a1 : Int} {r : Int} (H : laws_szPlantPlace.f a0_0 a0_1 a0_2 a1 = some r) : ACalls Try.prog G 117 [] [.agg [.str a0_0, .int .i64 a0_1, .str a0_2], .int .i64 a1] [] (.int .i64 r) := by
  refine acalls_of tok hP Try.func117 rfl (by kernel_rfl) [.tmp 4] rfl (by kernel_rfl) (Nat.le_of_ble_eq_true rfl) (.l .n (.l .n (.l (.c .n .n) (.l .n (.l .n (.c .n .n)))))) ?_
  unfold laws_szPlantPlace.f at H
  conv => whnf
  refine cut_ 80 [(1, .int .i64 (wrap64 (a1 - (a0_0.size : Int)))), (2, .bp 0 0), (4, .int .i64 0), (11, .bool (decide ((wrap64 (a1 - (a0_0.size : Int))) < 0)))] [(0, .box [.str a0_0, .int .i64 a0_1, .str a0_2])] rfl ⟨rfl, ⟨rfl, ⟨rfl, ⟨rfl, trivial⟩⟩⟩⟩ ⟨rfl, trivial⟩ ?_
  conv => whnf
  refine br_d H (fun c H => ?_) (fun c H => ?_)
  conv => whnf
  injection H with H; subst H
  exact ret_fz [] (rtA_eq rfl)
  conv => whnf
  refine br_d H (fun c H => ?_) (fun c H => ?_)
  conv => whnf
  injection H with H; subst H
  exact ret_fz [] (rtA_eq rfl)
  conv => whnf
  refine cut_ 160 [(4, .int .i64 (wrap64 ((wrap64 (a1 - (a0_0.size : Int))) - (a0_2.size : Int))))] [] rfl ⟨rfl, trivial⟩ trivial ?_
  conv => whnf
  injection H with H; subst H
  exact ret_fz [] (rtA_eq rfl)
theorem laws_szPlantPlaceS.l0_lp {F : (Exit → St → Prop) → St → Prop} {hv : List Tmp} {Q : Exit → St → Prop} {σ : St} {r : Int} {k : Nat} {l0 : List S_laws_PlantPlace} {x1 : Int} {x5 : Int} (H : laws_szPlantPlaceS.l0 k l0 x1 x5 = some r) (rn : List (Option Nat)) (h1 : Fits σ σ [] [(1, .int .i64 x1), (5, .int .i64 x5)] [] [] rn)
    (h2 : ∀ (k0 : Nat) (x1 : Int) (x5 : Int), k0 < k + 1 → laws_szPlantPlaceS.l0 k0 l0 x1 x5 = some r → headN σ hv [] [(1, .int .i64 x1), (5, .int .i64 x5)] [] [] (F (fun e σ' => match e with | .normal => ∃ (y : Nat × Int × Int) (rn : List (Option Nat)), (laws_szPlantPlaceS.l0 y.1 l0 y.2.1 y.2.2 = some r ∧ y.1 < k + 1) ∧ y.1 < k0 ∧ Fits σ σ' [] [(1, .int .i64 y.2.1), (5, .int .i64 y.2.2)] [] [] rn | e => Q e σ'))) : Lp F hv Q σ := by
  unfold Lp
  refine ⟨Nat × Int × Int, fun x => laws_szPlantPlaceS.l0 x.1 l0 x.2.1 x.2.2 = some r ∧ x.1 < k + 1, fun x => x.1, [], fun x => [(1, .int .i64 x.2.1), (5, .int .i64 x.2.2)], fun x => [], fun x => [], ⟨(k, x1, x5), rn, ⟨H, Nat.lt_succ_self _⟩, h1⟩, ?_⟩
  rintro ⟨k, x1, x5⟩ ⟨H, hk⟩
  exact h2 k x1 x5 hk H
theorem laws_szPlantPlaceS.ac {k : Nat} {l0 : List S_laws_PlantPlace} {a1 : Int} {r : Int} (H : laws_szPlantPlaceS.f k l0 a1 = some r) : ACalls Try.prog G 64 [] [(sv_S_laws_PlantPlace l0), .int .i64 a1] [] (.int .i64 r) := by
  refine acalls_of tok hP Try.func64 rfl (by kernel_rfl) [.tmp 4] rfl (by kernel_rfl) (Nat.le_of_ble_eq_true rfl) (.l .n (.l .n (.l .n (.l (.l .n (.l (.c .n .n) (.l (.l .n (.l .n (.l (.c .n .n) .n))) .n))) .n)))) ?_
  unfold laws_szPlantPlaceS.f at H
  conv => whnf
  refine br_d H (fun c H => ?_) (fun c H => ?_)
  conv => whnf
  injection H with H; subst H
  exact ret_fz [] (rtA_eq rfl)
  conv => whnf
  refine laws_szPlantPlaceS.l0_lp (l0 := l0) (k := k) H [] (fits_of ⟨.inl ⟨rfl, rfl⟩, ⟨.inl ⟨rfl, rfl⟩, trivial⟩⟩ trivial fi_ trivial rfl) ?_
  intro k x1 x5 hk H; rcases k with _ | k; exact none_elim H; rw [laws_szPlantPlaceS.l0] at H; conv => whnf
  refine cut_ 104 [(0, (sv_S_laws_PlantPlace l0)), (1, .int .i64 x1), (5, .int .i64 x5), (12, .int .i64 x5), (13, (sv_S_laws_PlantPlace l0)), (14, .int .i64 (l0.length : Int)), (15, .bool (decide (x5 < (l0.length : Int))))] [] rfl ⟨rfl, ⟨rfl, ⟨rfl, ⟨rfl, ⟨rfl, ⟨rfl, ⟨rfl, trivial⟩⟩⟩⟩⟩⟩⟩ trivial ?_
  conv => whnf
  refine br_d H (fun c H => ?_) (fun c H => ?_)
  conv => whnf
  refine nd_ H (fun c H => ?_)
  conv => whnf
  refine Nd.mk nf_ ?_
  conv => whnf
  refine El.mk (rdm_en_S_laws_PlantPlace _ _ nf_ nf_) ?_
  conv => whnf
  revert H; refine bind_elim (fun t3400 A H => ?_)
  refine call_mk (laws_szPlantPlace.ac A) (avAL_cons (avA_agg (avL_cons (av_shut' rfl) (avL_cons (av_shut' rfl) (avL_cons (av_shut' rfl) (avL_nil))))) (avAL_cons (avA_shut' rfl) (avAL_nil))) (Or.inl rfl) rfl rfl (Nat.le_of_ble_eq_true rfl) ?_
  conv => whnf
  refine br_d H (fun c H => ?_) (fun c H => ?_)
  conv => whnf
  refine cut_ 184 [(0, (sv_S_laws_PlantPlace l0)), (1, .int .i64 t3400), (4, .int .i64 (-1)), (5, .int .i64 x5), (12, .int .i64 x5), (13, (sv_S_laws_PlantPlace l0)), (14, .int .i64 (l0.length : Int)), (15, .bool (decide (x5 < (l0.length : Int)))), (18, (sv_S_laws_PlantPlace l0)), (19, .int .i64 x5), (20, .rp [.str ((rd_laws_PlantPlace l0 x5).f0), .int .i64 ((rd_laws_PlantPlace l0 x5).f1), .str ((rd_laws_PlantPlace l0 x5).f2)]), (21, .agg [.str ((rd_laws_PlantPlace l0 x5).f0), .int .i64 ((rd_laws_PlantPlace l0 x5).f1), .str ((rd_laws_PlantPlace l0 x5).f2)]), (22, .int .i64 x1), (23, .int .i64 t3400), (24, .int .i64 t3400), (25, .bool (decide (t3400 < 0)))] [] rfl ⟨rfl, ⟨rfl, ⟨rfl, ⟨rfl, ⟨rfl, ⟨rfl, ⟨rfl, ⟨rfl, ⟨rfl, ⟨rfl, ⟨rfl, ⟨rfl, ⟨rfl, ⟨rfl, ⟨rfl, ⟨rfl, trivial⟩⟩⟩⟩⟩⟩⟩⟩⟩⟩⟩⟩⟩⟩⟩⟩ trivial ?_
  conv => whnf
  injection H with H; subst H
  exact ret_fz [] (rtA_eq rfl)
  conv => whnf
  exact ⟨(k, t3400, wrap64 (x5 + 1)), [], ⟨H, lt_⟩, lt_, (fits_of ⟨.inl ⟨rfl, rfl⟩, ⟨.inl ⟨rfl, rfl⟩, trivial⟩⟩ trivial fi_ trivial rfl)⟩
  conv => whnf
  injection H with H; subst H
  exact ret_fz [] (rtA_eq rfl)
theorem laws_szPlantValve.ac {a0_0 : ByteArray} {a0_1 : ByteArray} {a0_2 : ByteArray} {a0_3 : ByteArray} {a1 : Int} {r : Int} (H : laws_szPlantValve.f a0_0 a0_1 a0_2 a0_3 a1 = some r) : ACalls Try.prog G 118 [] [.agg [.str a0_0, .str a0_1, .str a0_2, .str a0_3], .int .i64 a1] [] (.int .i64 r) := by
  refine acalls_of tok hP Try.func118 rfl (by kernel_rfl) [.tmp 4] rfl (by kernel_rfl) (Nat.le_of_ble_eq_true rfl) (.l .n (.l .n (.l (.c .n .n) (.l .n (.l .n (.c .n (.l .n (.l .n (.l (.c .n .n) .n))))))))) ?_
  unfold laws_szPlantValve.f at H
  conv => whnf
  refine cut_ 80 [(1, .int .i64 (wrap64 (a1 - (a0_0.size : Int)))), (2, .bp 0 0), (4, .int .i64 0), (11, .bool (decide ((wrap64 (a1 - (a0_0.size : Int))) < 0)))] [(0, .box [.str a0_0, .str a0_1, .str a0_2, .str a0_3])] rfl ⟨rfl, ⟨rfl, ⟨rfl, ⟨rfl, trivial⟩⟩⟩⟩ ⟨rfl, trivial⟩ ?_
  conv => whnf
  refine br_d H (fun c H => ?_) (fun c H => ?_)
  conv => whnf
  injection H with H; subst H
  exact ret_fz [] (rtA_eq rfl)
  conv => whnf
  refine br_d H (fun c H => ?_) (fun c H => ?_)
  conv => whnf
  injection H with H; subst H
  exact ret_fz [] (rtA_eq rfl)
  conv => whnf
  refine cut_ 192 [(1, .int .i64 (wrap64 ((wrap64 ((wrap64 (a1 - (a0_0.size : Int))) - (a0_1.size : Int))) - (a0_2.size : Int)))), (2, .bp 0 0), (4, .int .i64 0)] [(0, .box [.str a0_0, .str a0_1, .str a0_2, .str a0_3])] rfl ⟨rfl, ⟨rfl, ⟨rfl, trivial⟩⟩⟩ ⟨rfl, trivial⟩ ?_
  conv => whnf
  refine br_d H (fun c H => ?_) (fun c H => ?_)
  conv => whnf
  injection H with H; subst H
  exact ret_fz [] (rtA_eq rfl)
  conv => whnf
  refine cut_ 272 [(1, .int .i64 (wrap64 ((wrap64 ((wrap64 ((wrap64 (a1 - (a0_0.size : Int))) - (a0_1.size : Int))) - (a0_2.size : Int))) - (a0_3.size : Int)))), (4, .int .i64 0), (32, .bool (decide ((wrap64 ((wrap64 ((wrap64 ((wrap64 (a1 - (a0_0.size : Int))) - (a0_1.size : Int))) - (a0_2.size : Int))) - (a0_3.size : Int))) < 0)))] [] rfl ⟨rfl, ⟨rfl, ⟨rfl, trivial⟩⟩⟩ trivial ?_
  conv => whnf
  refine br_d H (fun c H => ?_) (fun c H => ?_)
  conv => whnf
  injection H with H; subst H
  exact ret_fz [] (rtA_eq rfl)
  conv => whnf
  injection H with H; subst H
  exact ret_fz [] (rtA_eq rfl)
theorem laws_szPlantValveS.l0_lp {F : (Exit → St → Prop) → St → Prop} {hv : List Tmp} {Q : Exit → St → Prop} {σ : St} {r : Int} {k : Nat} {l0 : List S_laws_PlantValve} {x1 : Int} {x5 : Int} (H : laws_szPlantValveS.l0 k l0 x1 x5 = some r) (rn : List (Option Nat)) (h1 : Fits σ σ [] [(1, .int .i64 x1), (5, .int .i64 x5)] [] [] rn)
    (h2 : ∀ (k0 : Nat) (x1 : Int) (x5 : Int), k0 < k + 1 → laws_szPlantValveS.l0 k0 l0 x1 x5 = some r → headN σ hv [] [(1, .int .i64 x1), (5, .int .i64 x5)] [] [] (F (fun e σ' => match e with | .normal => ∃ (y : Nat × Int × Int) (rn : List (Option Nat)), (laws_szPlantValveS.l0 y.1 l0 y.2.1 y.2.2 = some r ∧ y.1 < k + 1) ∧ y.1 < k0 ∧ Fits σ σ' [] [(1, .int .i64 y.2.1), (5, .int .i64 y.2.2)] [] [] rn | e => Q e σ'))) : Lp F hv Q σ := by
  unfold Lp
  refine ⟨Nat × Int × Int, fun x => laws_szPlantValveS.l0 x.1 l0 x.2.1 x.2.2 = some r ∧ x.1 < k + 1, fun x => x.1, [], fun x => [(1, .int .i64 x.2.1), (5, .int .i64 x.2.2)], fun x => [], fun x => [], ⟨(k, x1, x5), rn, ⟨H, Nat.lt_succ_self _⟩, h1⟩, ?_⟩
  rintro ⟨k, x1, x5⟩ ⟨H, hk⟩
  exact h2 k x1 x5 hk H
theorem laws_szPlantValveS.ac {k : Nat} {l0 : List S_laws_PlantValve} {a1 : Int} {r : Int} (H : laws_szPlantValveS.f k l0 a1 = some r) : ACalls Try.prog G 65 [] [(sv_S_laws_PlantValve l0), .int .i64 a1] [] (.int .i64 r) := by
  refine acalls_of tok hP Try.func65 rfl (by kernel_rfl) [.tmp 4] rfl (by kernel_rfl) (Nat.le_of_ble_eq_true rfl) (.l .n (.l .n (.l .n (.l (.l .n (.l (.c .n .n) (.l (.l .n (.l .n (.l (.c .n .n) .n))) .n))) .n)))) ?_
  unfold laws_szPlantValveS.f at H
  conv => whnf
  refine br_d H (fun c H => ?_) (fun c H => ?_)
  conv => whnf
  injection H with H; subst H
  exact ret_fz [] (rtA_eq rfl)
  conv => whnf
  refine laws_szPlantValveS.l0_lp (l0 := l0) (k := k) H [] (fits_of ⟨.inl ⟨rfl, rfl⟩, ⟨.inl ⟨rfl, rfl⟩, trivial⟩⟩ trivial fi_ trivial rfl) ?_
  intro k x1 x5 hk H; rcases k with _ | k; exact none_elim H; rw [laws_szPlantValveS.l0] at H; conv => whnf
  refine cut_ 104 [(0, (sv_S_laws_PlantValve l0)), (1, .int .i64 x1), (5, .int .i64 x5), (12, .int .i64 x5), (13, (sv_S_laws_PlantValve l0)), (14, .int .i64 (l0.length : Int)), (15, .bool (decide (x5 < (l0.length : Int))))] [] rfl ⟨rfl, ⟨rfl, ⟨rfl, ⟨rfl, ⟨rfl, ⟨rfl, ⟨rfl, trivial⟩⟩⟩⟩⟩⟩⟩ trivial ?_
  conv => whnf
  refine br_d H (fun c H => ?_) (fun c H => ?_)
  conv => whnf
  refine nd_ H (fun c H => ?_)
  conv => whnf
  refine Nd.mk nf_ ?_
  conv => whnf
  refine El.mk (rdm_en_S_laws_PlantValve _ _ nf_ nf_) ?_
  conv => whnf
  revert H; refine bind_elim (fun t3404 A H => ?_)
  refine call_mk (laws_szPlantValve.ac A) (avAL_cons (avA_agg (avL_cons (av_shut' rfl) (avL_cons (av_shut' rfl) (avL_cons (av_shut' rfl) (avL_cons (av_shut' rfl) (avL_nil)))))) (avAL_cons (avA_shut' rfl) (avAL_nil))) (Or.inl rfl) rfl rfl (Nat.le_of_ble_eq_true rfl) ?_
  conv => whnf
  refine br_d H (fun c H => ?_) (fun c H => ?_)
  conv => whnf
  refine cut_ 184 [(0, (sv_S_laws_PlantValve l0)), (1, .int .i64 t3404), (4, .int .i64 (-1)), (5, .int .i64 x5), (12, .int .i64 x5), (13, (sv_S_laws_PlantValve l0)), (14, .int .i64 (l0.length : Int)), (15, .bool (decide (x5 < (l0.length : Int)))), (18, (sv_S_laws_PlantValve l0)), (19, .int .i64 x5), (20, .rp [.str ((rd_laws_PlantValve l0 x5).f0), .str ((rd_laws_PlantValve l0 x5).f1), .str ((rd_laws_PlantValve l0 x5).f2), .str ((rd_laws_PlantValve l0 x5).f3)]), (21, .agg [.str ((rd_laws_PlantValve l0 x5).f0), .str ((rd_laws_PlantValve l0 x5).f1), .str ((rd_laws_PlantValve l0 x5).f2), .str ((rd_laws_PlantValve l0 x5).f3)]), (22, .int .i64 x1), (23, .int .i64 t3404), (24, .int .i64 t3404), (25, .bool (decide (t3404 < 0)))] [] rfl ⟨rfl, ⟨rfl, ⟨rfl, ⟨rfl, ⟨rfl, ⟨rfl, ⟨rfl, ⟨rfl, ⟨rfl, ⟨rfl, ⟨rfl, ⟨rfl, ⟨rfl, ⟨rfl, ⟨rfl, ⟨rfl, trivial⟩⟩⟩⟩⟩⟩⟩⟩⟩⟩⟩⟩⟩⟩⟩⟩ trivial ?_
  conv => whnf
  injection H with H; subst H
  exact ret_fz [] (rtA_eq rfl)
  conv => whnf
  exact ⟨(k, t3404, wrap64 (x5 + 1)), [], ⟨H, lt_⟩, lt_, (fits_of ⟨.inl ⟨rfl, rfl⟩, ⟨.inl ⟨rfl, rfl⟩, trivial⟩⟩ trivial fi_ trivial rfl)⟩
  conv => whnf
  injection H with H; subst H
  exact ret_fz [] (rtA_eq rfl)
theorem laws_szPlant.ac {k : Nat} {a0_0 : List ByteArray} {a0_1 : List S_laws_PlantFoe} {a0_2 : List S_laws_PlantPlace} {a0_3 : List S_laws_PlantValve} {a1 : Int} {r : Int} (H : laws_szPlant.f k a0_0 a0_1 a0_2 a0_3 a1 = some r) : ACalls Try.prog G 14 [] [.agg [(sv_str a0_0), (sv_S_laws_PlantFoe a0_1), (sv_S_laws_PlantPlace a0_2), (sv_S_laws_PlantValve a0_3)], .int .i64 a1] [] (.int .i64 r) := by
  refine acalls_of tok hP Try.func14 rfl (by kernel_rfl) [.tmp 4] rfl (by kernel_rfl) (Nat.le_of_ble_eq_true rfl) (.l .n (.l .n (.l (.l .n (.l (.c .n .n) .n)) (.c .n (.l .n (.l .n (.l (.l .n (.l (.c .n .n) .n)) (.c .n .n)))))))) ?_
  unfold laws_szPlant.f at H
  conv => whnf
  revert H; refine bind_elim (fun t3406 A H => ?_)
  refine call_mk (laws_szStringS.ac A) (avAL_cons (avA_shut' rfl) (avAL_cons (avA_shut' rfl) (avAL_nil))) (Or.inl rfl) rfl rfl (Nat.le_of_ble_eq_true rfl) ?_
  conv => whnf
  refine br_d H (fun c H => ?_) (fun c H => ?_)
  conv => whnf
  refine cut_ 80 [(1, .int .i64 t3406), (2, .bp 0 0), (4, .int .i64 (-1))] [(0, .box [(sv_str a0_0), (sv_S_laws_PlantFoe a0_1), (sv_S_laws_PlantPlace a0_2), (sv_S_laws_PlantValve a0_3)])] rfl ⟨rfl, ⟨rfl, ⟨rfl, trivial⟩⟩⟩ ⟨rfl, trivial⟩ ?_
  conv => whnf
  injection H with H; subst H
  exact ret_fz [] (rtA_eq rfl)
  conv => whnf
  revert H; refine bind_elim (fun t3408 A H => ?_)
  refine call_mk (laws_szPlantFoeS.ac A) (avAL_cons (avA_shut' rfl) (avAL_cons (avA_shut' rfl) (avAL_nil))) (Or.inl rfl) rfl rfl (Nat.le_of_ble_eq_true rfl) ?_
  conv => whnf
  refine cut_ 112 [(1, .int .i64 t3408), (2, .bp 0 0), (4, .int .i64 0)] [(0, .box [(sv_str a0_0), (sv_S_laws_PlantFoe a0_1), (sv_S_laws_PlantPlace a0_2), (sv_S_laws_PlantValve a0_3)])] rfl ⟨rfl, ⟨rfl, ⟨rfl, trivial⟩⟩⟩ ⟨rfl, trivial⟩ ?_
  conv => whnf
  refine br_d H (fun c H => ?_) (fun c H => ?_)
  conv => whnf
  injection H with H; subst H
  exact ret_fz [] (rtA_eq rfl)
  conv => whnf
  revert H; refine bind_elim (fun t3410 A H => ?_)
  refine call_mk (laws_szPlantPlaceS.ac A) (avAL_cons (avA_shut' rfl) (avAL_cons (avA_shut' rfl) (avAL_nil))) (Or.inl rfl) rfl rfl (Nat.le_of_ble_eq_true rfl) ?_
  conv => whnf
  refine br_d H (fun c H => ?_) (fun c H => ?_)
  conv => whnf
  refine cut_ 192 [(1, .int .i64 t3410), (2, .bp 0 0), (4, .int .i64 (-1))] [(0, .box [(sv_str a0_0), (sv_S_laws_PlantFoe a0_1), (sv_S_laws_PlantPlace a0_2), (sv_S_laws_PlantValve a0_3)])] rfl ⟨rfl, ⟨rfl, ⟨rfl, trivial⟩⟩⟩ ⟨rfl, trivial⟩ ?_
  conv => whnf
  injection H with H; subst H
  exact ret_fz [] (rtA_eq rfl)
  conv => whnf
  revert H; refine bind_elim (fun t3412 A H => ?_)
  refine call_mk (laws_szPlantValveS.ac A) (avAL_cons (avA_shut' rfl) (avAL_cons (avA_shut' rfl) (avAL_nil))) (Or.inl rfl) rfl rfl (Nat.le_of_ble_eq_true rfl) ?_
  conv => whnf
  refine cut_ 224 [(1, .int .i64 t3412), (4, .int .i64 0)] [] rfl ⟨rfl, ⟨rfl, trivial⟩⟩ trivial ?_
  conv => whnf
  refine br_d H (fun c H => ?_) (fun c H => ?_)
  conv => whnf
  injection H with H; subst H
  exact ret_fz [] (rtA_eq rfl)
  conv => whnf
  injection H with H; subst H
  exact ret_fz [] (rtA_eq rfl)
theorem laws_toStringS.l0_lp {F : (Exit → St → Prop) → St → Prop} {hv : List Tmp} {Q : Exit → St → Prop} {σ : St} {r : List ByteArray} {k : Nat} {l0 : List ByteArray} {x3 : List ByteArray} {x4 : Int} (H : laws_toStringS.l0 k l0 x3 x4 = some r) (rn : List (Option Nat)) (h1 : Fits σ σ [24] [(3, .own 0 x3.length), (4, .int .i64 x4)] [] [.arr 9 1 (x3.map en_str)] rn)
    (h2 : ∀ (k0 : Nat) (x3 : List ByteArray) (x4 : Int), k0 < k + 1 → laws_toStringS.l0 k0 l0 x3 x4 = some r → headN σ hv [24] [(3, .own 0 x3.length), (4, .int .i64 x4)] [] [.arr 9 1 (x3.map en_str)] (F (fun e σ' => match e with | .normal => ∃ (y : Nat × (List ByteArray) × Int) (rn : List (Option Nat)), (laws_toStringS.l0 y.1 l0 y.2.1 y.2.2 = some r ∧ y.1 < k + 1) ∧ y.1 < k0 ∧ Fits σ σ' [24] [(3, .own 0 y.2.1.length), (4, .int .i64 y.2.2)] [] [.arr 9 1 (y.2.1.map en_str)] rn | e => Q e σ'))) : Lp F hv Q σ := by
  unfold Lp
  refine ⟨Nat × (List ByteArray) × Int, fun x => laws_toStringS.l0 x.1 l0 x.2.1 x.2.2 = some r ∧ x.1 < k + 1, fun x => x.1, [24], fun x => [(3, .own 0 x.2.1.length), (4, .int .i64 x.2.2)], fun x => [], fun x => [.arr 9 1 (x.2.1.map en_str)], ⟨(k, x3, x4), rn, ⟨H, Nat.lt_succ_self _⟩, h1⟩, ?_⟩
  rintro ⟨k, x3, x4⟩ ⟨H, hk⟩
  exact h2 k x3 x4 hk H
theorem laws_toStringS.ac {k : Nat} {l0 : List ByteArray} {r : List ByteArray} (H : laws_toStringS.f k l0 = some r) : ACalls Try.prog G 35 [] [(sv_str l0)] [.arr 9 1 (r.map en_str)] (.own 0 r.length) := by
  refine acalls_of tok hP Try.func35 rfl (by kernel_rfl) [.tmp 2] rfl (by kernel_rfl) (Nat.le_of_ble_eq_true rfl) (.l .n (.l .n (.l (.l .n (.l (.c .n .n) .n)) .n))) ?_
  unfold laws_toStringS.f at H
  conv => whnf
  refine Nd.mk (Int.natCast_nonneg _) ?_
  conv => whnf
  refine Nd.mk (Int.le_refl _) ?_
  conv => whnf
  refine nd_ H (fun c H => ?_)
  conv => whnf
  refine laws_toStringS.l0_lp (l0 := l0) (k := k) H [some 24] (fits_of ⟨mt_own lm_, ⟨.inl ⟨rfl, rfl⟩, trivial⟩⟩ ⟨fm_, trivial⟩ fi_ trivial rfl) ?_
  intro k x3 x4 hk H; rcases k with _ | k; exact none_elim H; rw [laws_toStringS.l0] at H; conv => whnf
  refine cut_ 81 [(0, (sv_str l0)), (2, .nil), (3, .own 48 x3.length), (4, .int .i64 x4), (8, .int .i64 x4), (9, (sv_str l0)), (10, .int .i64 (l0.length : Int)), (11, .bool (decide (x4 < (l0.length : Int))))] [(48, .arr 9 1 (x3.map en_str))] rfl ⟨rfl, ⟨rfl, ⟨rfl, ⟨rfl, ⟨rfl, ⟨rfl, ⟨rfl, ⟨rfl, trivial⟩⟩⟩⟩⟩⟩⟩⟩ ⟨rfl, trivial⟩ ?_
  conv => whnf
  refine br_d H (fun c H => ?_) (fun c H => ?_)
  conv => whnf
  refine nd_ H (fun c H => ?_)
  conv => whnf
  refine Nd.mk nf_ ?_
  conv => whnf
  refine El.mk (rdm_en_str _ _ nf_ nf_) ?_
  conv => whnf
  refine Nd.mk nf_ ?_
  conv => whnf
  refine nd_ H (fun c H => ?_)
  conv => whnf
  refine El.mk (rdm_en_str _ _ nf_ nf_) ?_
  conv => whnf
  exact ⟨(k, (x3.set (x4).toNat (rdOf ByteArray.empty l0 x4)), wrap64 (x4 + 1)), [some 48], ⟨H, lt_⟩, lt_, (fits_of ⟨mt_own lm_, ⟨.inl ⟨rfl, rfl⟩, trivial⟩⟩ ⟨fm_, trivial⟩ fi_ trivial rfl)⟩
  conv => whnf
  injection H with H; subst H
  exact ret_gen [some 48] [] ((rfl)) ⟨rfl, trivial⟩ rfl
theorem laws_toPlantFoe.ac {a0_0 : ByteArray} {a0_1 : ByteArray} {r : ByteArray × ByteArray} (H : laws_toPlantFoe.f a0_0 a0_1 = some r) : ACalls Try.prog G 122 [] [.agg [.str a0_0, .str a0_1]] [] (.agg [.str r.1, .str r.2]) := by
  refine acalls_of tok hP Try.func122 rfl (by kernel_rfl) [.cell 2 105] rfl (by kernel_rfl) (Nat.le_of_ble_eq_true rfl) (.l .n (.l .n (.l .n (.l .n (.c .n .n))))) ?_
  unfold laws_toPlantFoe.f at H
  conv => whnf
  refine cut_ 104 [(2, .bp 8 0)] [(8, .box [.str a0_0, .str a0_1])] rfl ⟨rfl, trivial⟩ ⟨rfl, trivial⟩ ?_
  conv => whnf
  injection H with H; subst H
  exact ret_fz [] (rtA_agg (rtL_cons (rt_eq rfl) (rtL_cons (rt_eq rfl) (rtL_nil))))
theorem laws_toPlantFoeS.l0_lp {F : (Exit → St → Prop) → St → Prop} {hv : List Tmp} {Q : Exit → St → Prop} {σ : St} {r : List S_impl_PlantFoe} {k : Nat} {l0 : List S_laws_PlantFoe} {x3 : List S_impl_PlantFoe} {x4 : Int} (H : laws_toPlantFoeS.l0 k l0 x3 x4 = some r) (rn : List (Option Nat)) (h1 : Fits σ σ [24] [(3, .own 0 x3.length), (4, .int .i64 x4)] [] [.arr 105 2 (x3.map en_S_impl_PlantFoe)] rn)
    (h2 : ∀ (k0 : Nat) (x3 : List S_impl_PlantFoe) (x4 : Int), k0 < k + 1 → laws_toPlantFoeS.l0 k0 l0 x3 x4 = some r → headN σ hv [24] [(3, .own 0 x3.length), (4, .int .i64 x4)] [] [.arr 105 2 (x3.map en_S_impl_PlantFoe)] (F (fun e σ' => match e with | .normal => ∃ (y : Nat × (List S_impl_PlantFoe) × Int) (rn : List (Option Nat)), (laws_toPlantFoeS.l0 y.1 l0 y.2.1 y.2.2 = some r ∧ y.1 < k + 1) ∧ y.1 < k0 ∧ Fits σ σ' [24] [(3, .own 0 y.2.1.length), (4, .int .i64 y.2.2)] [] [.arr 105 2 (y.2.1.map en_S_impl_PlantFoe)] rn | e => Q e σ'))) : Lp F hv Q σ := by
  unfold Lp
  refine ⟨Nat × (List S_impl_PlantFoe) × Int, fun x => laws_toPlantFoeS.l0 x.1 l0 x.2.1 x.2.2 = some r ∧ x.1 < k + 1, fun x => x.1, [24], fun x => [(3, .own 0 x.2.1.length), (4, .int .i64 x.2.2)], fun x => [], fun x => [.arr 105 2 (x.2.1.map en_S_impl_PlantFoe)], ⟨(k, x3, x4), rn, ⟨H, Nat.lt_succ_self _⟩, h1⟩, ?_⟩
  rintro ⟨k, x3, x4⟩ ⟨H, hk⟩
  exact h2 k x3 x4 hk H
theorem laws_toPlantFoeS.ac {k : Nat} {l0 : List S_laws_PlantFoe} {r : List S_impl_PlantFoe} (H : laws_toPlantFoeS.f k l0 = some r) : ACalls Try.prog G 69 [] [(sv_S_laws_PlantFoe l0)] [.arr 105 2 (r.map en_S_impl_PlantFoe)] (.own 0 r.length) := by
  refine acalls_of tok hP Try.func69 rfl (by kernel_rfl) [.tmp 2] rfl (by kernel_rfl) (Nat.le_of_ble_eq_true rfl) (.l .n (.l .n (.l (.l .n (.l (.c .n .n) .n)) .n))) ?_
  unfold laws_toPlantFoeS.f at H
  conv => whnf
  refine Nd.mk (Int.natCast_nonneg _) ?_
  conv => whnf
  refine Nd.mk (Int.le_refl _) ?_
  conv => whnf
  refine nd_ H (fun c H => ?_)
  conv => whnf
  refine laws_toPlantFoeS.l0_lp (l0 := l0) (k := k) H [some 24] (fits_of ⟨mt_own lm_, ⟨.inl ⟨rfl, rfl⟩, trivial⟩⟩ ⟨fm_, trivial⟩ fi_ trivial rfl) ?_
  intro k x3 x4 hk H; rcases k with _ | k; exact none_elim H; rw [laws_toPlantFoeS.l0] at H; conv => whnf
  refine cut_ 81 [(0, (sv_S_laws_PlantFoe l0)), (2, .nil), (3, .own 48 x3.length), (4, .int .i64 x4), (8, .int .i64 x4), (9, (sv_S_laws_PlantFoe l0)), (10, .int .i64 (l0.length : Int)), (11, .bool (decide (x4 < (l0.length : Int))))] [(48, .arr 105 2 (x3.map en_S_impl_PlantFoe))] rfl ⟨rfl, ⟨rfl, ⟨rfl, ⟨rfl, ⟨rfl, ⟨rfl, ⟨rfl, ⟨rfl, trivial⟩⟩⟩⟩⟩⟩⟩⟩ ⟨rfl, trivial⟩ ?_
  conv => whnf
  refine br_d H (fun c H => ?_) (fun c H => ?_)
  conv => whnf
  refine nd_ H (fun c H => ?_)
  conv => whnf
  refine Nd.mk nf_ ?_
  conv => whnf
  refine El.mk (rdm_en_S_laws_PlantFoe _ _ nf_ nf_) ?_
  conv => whnf
  revert H; refine bind_elim (fun t3417 A H => ?_)
  refine call_mk (laws_toPlantFoe.ac A) (avAL_cons (avA_agg (avL_cons (av_shut' rfl) (avL_cons (av_shut' rfl) (avL_nil)))) (avAL_nil)) (Or.inl rfl) rfl rfl (Nat.le_of_ble_eq_true rfl) ?_
  conv => whnf
  refine Nd.mk nf_ ?_
  conv => whnf
  refine nd_ H (fun c H => ?_)
  conv => whnf
  refine El.mk (rdm_en_S_impl_PlantFoe _ _ nf_ nf_) ?_
  conv => whnf
  exact ⟨(k, (x3.set (x4).toNat (⟨t3417.1, t3417.2⟩ : S_impl_PlantFoe)), wrap64 (x4 + 1)), [some 48], ⟨H, lt_⟩, lt_, (fits_of ⟨mt_own lm_, ⟨.inl ⟨rfl, rfl⟩, trivial⟩⟩ ⟨fm_, trivial⟩ fi_ trivial rfl)⟩
  conv => whnf
  injection H with H; subst H
  exact ret_gen [some 48] [] ((rfl)) ⟨rfl, trivial⟩ rfl
theorem laws_toPlantPlace.ac {a0_0 : ByteArray} {a0_1 : Int} {a0_2 : ByteArray} {r : ByteArray × Int × ByteArray} (H : laws_toPlantPlace.f a0_0 a0_1 a0_2 = some r) : ACalls Try.prog G 123 [] [.agg [.str a0_0, .int .i64 a0_1, .str a0_2]] [] (.agg [.str r.1, .int .i64 r.2.1, .str r.2.2]) := by
  refine acalls_of tok hP Try.func123 rfl (by kernel_rfl) [.cell 2 86] rfl (by kernel_rfl) (Nat.le_of_ble_eq_true rfl) (.l .n (.l .n (.l .n (.l .n (.c .n .n))))) ?_
  unfold laws_toPlantPlace.f at H
  conv => whnf
  refine cut_ 120 [(2, .bp 8 0), (3, .bp 16 0)] [(8, .box [.str (⟨#[]⟩ : ByteArray), .int .i64 0, .str (⟨#[]⟩ : ByteArray)]), (16, .box [.str a0_0, .int .i64 a0_1, .str a0_2])] rfl ⟨rfl, ⟨rfl, trivial⟩⟩ ⟨rfl, ⟨rfl, trivial⟩⟩ ?_
  conv => whnf
  injection H with H; subst H
  exact ret_fz [] (rtA_agg (rtL_cons (rt_eq rfl) (rtL_cons (rt_eq rfl) (rtL_cons (rt_eq rfl) (rtL_nil)))))
theorem laws_toPlantPlaceS.l0_lp {F : (Exit → St → Prop) → St → Prop} {hv : List Tmp} {Q : Exit → St → Prop} {σ : St} {r : List S_impl_PlantPlace} {k : Nat} {l0 : List S_laws_PlantPlace} {x3 : List S_impl_PlantPlace} {x4 : Int} (H : laws_toPlantPlaceS.l0 k l0 x3 x4 = some r) (rn : List (Option Nat)) (h1 : Fits σ σ [24] [(3, .own 0 x3.length), (4, .int .i64 x4)] [] [.arr 86 3 (x3.map en_S_impl_PlantPlace)] rn)
    (h2 : ∀ (k0 : Nat) (x3 : List S_impl_PlantPlace) (x4 : Int), k0 < k + 1 → laws_toPlantPlaceS.l0 k0 l0 x3 x4 = some r → headN σ hv [24] [(3, .own 0 x3.length), (4, .int .i64 x4)] [] [.arr 86 3 (x3.map en_S_impl_PlantPlace)] (F (fun e σ' => match e with | .normal => ∃ (y : Nat × (List S_impl_PlantPlace) × Int) (rn : List (Option Nat)), (laws_toPlantPlaceS.l0 y.1 l0 y.2.1 y.2.2 = some r ∧ y.1 < k + 1) ∧ y.1 < k0 ∧ Fits σ σ' [24] [(3, .own 0 y.2.1.length), (4, .int .i64 y.2.2)] [] [.arr 86 3 (y.2.1.map en_S_impl_PlantPlace)] rn | e => Q e σ'))) : Lp F hv Q σ := by
  unfold Lp
  refine ⟨Nat × (List S_impl_PlantPlace) × Int, fun x => laws_toPlantPlaceS.l0 x.1 l0 x.2.1 x.2.2 = some r ∧ x.1 < k + 1, fun x => x.1, [24], fun x => [(3, .own 0 x.2.1.length), (4, .int .i64 x.2.2)], fun x => [], fun x => [.arr 86 3 (x.2.1.map en_S_impl_PlantPlace)], ⟨(k, x3, x4), rn, ⟨H, Nat.lt_succ_self _⟩, h1⟩, ?_⟩
  rintro ⟨k, x3, x4⟩ ⟨H, hk⟩
  exact h2 k x3 x4 hk H
theorem laws_toPlantPlaceS.ac {k : Nat} {l0 : List S_laws_PlantPlace} {r : List S_impl_PlantPlace} (H : laws_toPlantPlaceS.f k l0 = some r) : ACalls Try.prog G 70 [] [(sv_S_laws_PlantPlace l0)] [.arr 86 3 (r.map en_S_impl_PlantPlace)] (.own 0 r.length) := by
  refine acalls_of tok hP Try.func70 rfl (by kernel_rfl) [.tmp 2] rfl (by kernel_rfl) (Nat.le_of_ble_eq_true rfl) (.l .n (.l .n (.l (.l .n (.l (.c .n .n) .n)) .n))) ?_
  unfold laws_toPlantPlaceS.f at H
  conv => whnf
  refine Nd.mk (Int.natCast_nonneg _) ?_
  conv => whnf
  refine Nd.mk (Int.le_refl _) ?_
  conv => whnf
  refine nd_ H (fun c H => ?_)
  conv => whnf
  refine laws_toPlantPlaceS.l0_lp (l0 := l0) (k := k) H [some 24] (fits_of ⟨mt_own lm_, ⟨.inl ⟨rfl, rfl⟩, trivial⟩⟩ ⟨fm_, trivial⟩ fi_ trivial rfl) ?_
  intro k x3 x4 hk H; rcases k with _ | k; exact none_elim H; rw [laws_toPlantPlaceS.l0] at H; conv => whnf
  refine cut_ 81 [(0, (sv_S_laws_PlantPlace l0)), (2, .nil), (3, .own 48 x3.length), (4, .int .i64 x4), (8, .int .i64 x4), (9, (sv_S_laws_PlantPlace l0)), (10, .int .i64 (l0.length : Int)), (11, .bool (decide (x4 < (l0.length : Int))))] [(48, .arr 86 3 (x3.map en_S_impl_PlantPlace))] rfl ⟨rfl, ⟨rfl, ⟨rfl, ⟨rfl, ⟨rfl, ⟨rfl, ⟨rfl, ⟨rfl, trivial⟩⟩⟩⟩⟩⟩⟩⟩ ⟨rfl, trivial⟩ ?_
  conv => whnf
  refine br_d H (fun c H => ?_) (fun c H => ?_)
  conv => whnf
  refine nd_ H (fun c H => ?_)
  conv => whnf
  refine Nd.mk nf_ ?_
  conv => whnf
  refine El.mk (rdm_en_S_laws_PlantPlace _ _ nf_ nf_) ?_
  conv => whnf
  revert H; refine bind_elim (fun t3422 A H => ?_)
  refine call_mk (laws_toPlantPlace.ac A) (avAL_cons (avA_agg (avL_cons (av_shut' rfl) (avL_cons (av_shut' rfl) (avL_cons (av_shut' rfl) (avL_nil))))) (avAL_nil)) (Or.inl rfl) rfl rfl (Nat.le_of_ble_eq_true rfl) ?_
  conv => whnf
  refine Nd.mk nf_ ?_
  conv => whnf
  refine nd_ H (fun c H => ?_)
  conv => whnf
  refine El.mk (rdm_en_S_impl_PlantPlace _ _ nf_ nf_) ?_
  conv => whnf
  exact ⟨(k, (x3.set (x4).toNat (⟨t3422.1, t3422.2.1, t3422.2.2⟩ : S_impl_PlantPlace)), wrap64 (x4 + 1)), [some 48], ⟨H, lt_⟩, lt_, (fits_of ⟨mt_own lm_, ⟨.inl ⟨rfl, rfl⟩, trivial⟩⟩ ⟨fm_, trivial⟩ fi_ trivial rfl)⟩
  conv => whnf
  injection H with H; subst H
  exact ret_gen [some 48] [] ((rfl)) ⟨rfl, trivial⟩ rfl
theorem laws_toPlantValve.ac {a0_0 : ByteArray} {a0_1 : ByteArray} {a0_2 : ByteArray} {a0_3 : ByteArray} {r : ByteArray × ByteArray × ByteArray × ByteArray} (H : laws_toPlantValve.f a0_0 a0_1 a0_2 a0_3 = some r) : ACalls Try.prog G 124 [] [.agg [.str a0_0, .str a0_1, .str a0_2, .str a0_3]] [] (.agg [.str r.1, .str r.2.1, .str r.2.2.1, .str r.2.2.2]) := by
  refine acalls_of tok hP Try.func124 rfl (by kernel_rfl) [.cell 2 108] rfl (by kernel_rfl) (Nat.le_of_ble_eq_true rfl) (.l .n (.l .n (.l .n (.l .n (.c .n .n))))) ?_
  unfold laws_toPlantValve.f at H
  conv => whnf
  refine cut_ 120 [(1, .bp 0 0), (2, .bp 8 0), (3, .bp 16 0)] [(0, .box [.str a0_0, .str a0_1, .str a0_2, .str a0_3]), (8, .box [.str (⟨#[]⟩ : ByteArray), .str (⟨#[]⟩ : ByteArray), .str (⟨#[]⟩ : ByteArray), .str (⟨#[]⟩ : ByteArray)]), (16, .box [.str a0_0, .str a0_1, .str a0_2, .str (⟨#[]⟩ : ByteArray)])] rfl ⟨rfl, ⟨rfl, ⟨rfl, trivial⟩⟩⟩ ⟨rfl, ⟨rfl, ⟨rfl, trivial⟩⟩⟩ ?_
  conv => whnf
  injection H with H; subst H
  exact ret_fz [] (rtA_agg (rtL_cons (rt_eq rfl) (rtL_cons (rt_eq rfl) (rtL_cons (rt_eq rfl) (rtL_cons (rt_eq rfl) (rtL_nil))))))
theorem laws_toPlantValveS.l0_lp {F : (Exit → St → Prop) → St → Prop} {hv : List Tmp} {Q : Exit → St → Prop} {σ : St} {r : List S_impl_PlantValve} {k : Nat} {l0 : List S_laws_PlantValve} {x3 : List S_impl_PlantValve} {x4 : Int} (H : laws_toPlantValveS.l0 k l0 x3 x4 = some r) (rn : List (Option Nat)) (h1 : Fits σ σ [24] [(3, .own 0 x3.length), (4, .int .i64 x4)] [] [.arr 108 4 (x3.map en_S_impl_PlantValve)] rn)
    (h2 : ∀ (k0 : Nat) (x3 : List S_impl_PlantValve) (x4 : Int), k0 < k + 1 → laws_toPlantValveS.l0 k0 l0 x3 x4 = some r → headN σ hv [24] [(3, .own 0 x3.length), (4, .int .i64 x4)] [] [.arr 108 4 (x3.map en_S_impl_PlantValve)] (F (fun e σ' => match e with | .normal => ∃ (y : Nat × (List S_impl_PlantValve) × Int) (rn : List (Option Nat)), (laws_toPlantValveS.l0 y.1 l0 y.2.1 y.2.2 = some r ∧ y.1 < k + 1) ∧ y.1 < k0 ∧ Fits σ σ' [24] [(3, .own 0 y.2.1.length), (4, .int .i64 y.2.2)] [] [.arr 108 4 (y.2.1.map en_S_impl_PlantValve)] rn | e => Q e σ'))) : Lp F hv Q σ := by
  unfold Lp
  refine ⟨Nat × (List S_impl_PlantValve) × Int, fun x => laws_toPlantValveS.l0 x.1 l0 x.2.1 x.2.2 = some r ∧ x.1 < k + 1, fun x => x.1, [24], fun x => [(3, .own 0 x.2.1.length), (4, .int .i64 x.2.2)], fun x => [], fun x => [.arr 108 4 (x.2.1.map en_S_impl_PlantValve)], ⟨(k, x3, x4), rn, ⟨H, Nat.lt_succ_self _⟩, h1⟩, ?_⟩
  rintro ⟨k, x3, x4⟩ ⟨H, hk⟩
  exact h2 k x3 x4 hk H
theorem laws_toPlantValveS.ac {k : Nat} {l0 : List S_laws_PlantValve} {r : List S_impl_PlantValve} (H : laws_toPlantValveS.f k l0 = some r) : ACalls Try.prog G 71 [] [(sv_S_laws_PlantValve l0)] [.arr 108 4 (r.map en_S_impl_PlantValve)] (.own 0 r.length) := by
  refine acalls_of tok hP Try.func71 rfl (by kernel_rfl) [.tmp 2] rfl (by kernel_rfl) (Nat.le_of_ble_eq_true rfl) (.l .n (.l .n (.l (.l .n (.l (.c .n .n) .n)) .n))) ?_
  unfold laws_toPlantValveS.f at H
  conv => whnf
  refine Nd.mk (Int.natCast_nonneg _) ?_
  conv => whnf
  refine Nd.mk (Int.le_refl _) ?_
  conv => whnf
  refine nd_ H (fun c H => ?_)
  conv => whnf
  refine laws_toPlantValveS.l0_lp (l0 := l0) (k := k) H [some 24] (fits_of ⟨mt_own lm_, ⟨.inl ⟨rfl, rfl⟩, trivial⟩⟩ ⟨fm_, trivial⟩ fi_ trivial rfl) ?_
  intro k x3 x4 hk H; rcases k with _ | k; exact none_elim H; rw [laws_toPlantValveS.l0] at H; conv => whnf
  refine cut_ 81 [(0, (sv_S_laws_PlantValve l0)), (2, .nil), (3, .own 48 x3.length), (4, .int .i64 x4), (8, .int .i64 x4), (9, (sv_S_laws_PlantValve l0)), (10, .int .i64 (l0.length : Int)), (11, .bool (decide (x4 < (l0.length : Int))))] [(48, .arr 108 4 (x3.map en_S_impl_PlantValve))] rfl ⟨rfl, ⟨rfl, ⟨rfl, ⟨rfl, ⟨rfl, ⟨rfl, ⟨rfl, ⟨rfl, trivial⟩⟩⟩⟩⟩⟩⟩⟩ ⟨rfl, trivial⟩ ?_
  conv => whnf
  refine br_d H (fun c H => ?_) (fun c H => ?_)
  conv => whnf
  refine nd_ H (fun c H => ?_)
  conv => whnf
  refine Nd.mk nf_ ?_
  conv => whnf
  refine El.mk (rdm_en_S_laws_PlantValve _ _ nf_ nf_) ?_
  conv => whnf
  revert H; refine bind_elim (fun t3427 A H => ?_)
  refine call_mk (laws_toPlantValve.ac A) (avAL_cons (avA_agg (avL_cons (av_shut' rfl) (avL_cons (av_shut' rfl) (avL_cons (av_shut' rfl) (avL_cons (av_shut' rfl) (avL_nil)))))) (avAL_nil)) (Or.inl rfl) rfl rfl (Nat.le_of_ble_eq_true rfl) ?_
  conv => whnf
  refine Nd.mk nf_ ?_
  conv => whnf
  refine nd_ H (fun c H => ?_)
  conv => whnf
  refine El.mk (rdm_en_S_impl_PlantValve _ _ nf_ nf_) ?_
  conv => whnf
  exact ⟨(k, (x3.set (x4).toNat (⟨t3427.1, t3427.2.1, t3427.2.2.1, t3427.2.2.2⟩ : S_impl_PlantValve)), wrap64 (x4 + 1)), [some 48], ⟨H, lt_⟩, lt_, (fits_of ⟨mt_own lm_, ⟨.inl ⟨rfl, rfl⟩, trivial⟩⟩ ⟨fm_, trivial⟩ fi_ trivial rfl)⟩
  conv => whnf
  injection H with H; subst H
  exact ret_gen [some 48] [] ((rfl)) ⟨rfl, trivial⟩ rfl
theorem laws_toPlant.ac {k : Nat} {a0_0 : List ByteArray} {a0_1 : List S_laws_PlantFoe} {a0_2 : List S_laws_PlantPlace} {a0_3 : List S_laws_PlantValve} {r : (List ByteArray) × (List S_impl_PlantFoe) × (List S_impl_PlantPlace) × (List S_impl_PlantValve)} (H : laws_toPlant.f k a0_0 a0_1 a0_2 a0_3 = some r) : ACalls Try.prog G 16 [] [.agg [(sv_str a0_0), (sv_S_laws_PlantFoe a0_1), (sv_S_laws_PlantPlace a0_2), (sv_S_laws_PlantValve a0_3)]] [.arr 9 1 (r.1.map en_str), .arr 105 2 (r.2.1.map en_S_impl_PlantFoe), .arr 86 3 (r.2.2.1.map en_S_impl_PlantPlace), .arr 108 4 (r.2.2.2.map en_S_impl_PlantValve)] (.agg [.own 0 r.1.length, .own 1 r.2.1.length, .own 2 r.2.2.1.length, .own 3 r.2.2.2.length]) := by
  refine acalls_of tok hP Try.func16 rfl (by kernel_rfl) [.cell 2 34] rfl (by kernel_rfl) (Nat.le_of_ble_eq_true rfl) (.l .n (.l .n (.l .n (.c .n .n)))) ?_
  unfold laws_toPlant.f at H
  conv => whnf
  revert H; refine bind_elim (fun t3429 A H => ?_)
  refine call_mk (laws_toStringS.ac A) (avAL_cons (avA_shut' rfl) (avAL_nil)) (Or.inl rfl) rfl rfl (Nat.le_of_ble_eq_true rfl) ?_
  conv => whnf
  revert H; refine bind_elim (fun t3431 A H => ?_)
  refine call_mk (laws_toPlantFoeS.ac A) (avAL_cons (avA_shut' rfl) (avAL_nil)) (Or.inl rfl) rfl rfl (Nat.le_of_ble_eq_true rfl) ?_
  conv => whnf
  refine cut_ 104 [(1, .bp 0 0), (2, .bp 8 0), (3, .bp 16 0)] [(0, .box [(sv_str a0_0), (sv_S_laws_PlantFoe a0_1), (sv_S_laws_PlantPlace a0_2), (sv_S_laws_PlantValve a0_3)]), (8, .box [.nil, .nil, .nil, .nil]), (16, .box [.own 40 t3429.length, .own 80 t3431.length, .nil, .nil]), (40, .arr 9 1 (t3429.map en_str)), (80, .arr 105 2 (t3431.map en_S_impl_PlantFoe))] rfl ⟨rfl, ⟨rfl, ⟨rfl, trivial⟩⟩⟩ ⟨rfl, ⟨rfl, ⟨rfl, ⟨rfl, ⟨rfl, trivial⟩⟩⟩⟩⟩ ?_
  conv => whnf
  revert H; refine bind_elim (fun t3433 A H => ?_)
  refine call_mk (laws_toPlantPlaceS.ac A) (avAL_cons (avA_shut' rfl) (avAL_nil)) (Or.inl rfl) rfl rfl (Nat.le_of_ble_eq_true rfl) ?_
  conv => whnf
  revert H; refine bind_elim (fun t3435 A H => ?_)
  refine call_mk (laws_toPlantValveS.ac A) (avAL_cons (avA_shut' rfl) (avAL_nil)) (Or.inl rfl) rfl rfl (Nat.le_of_ble_eq_true rfl) ?_
  conv => whnf
  injection H with H; subst H
  exact ret_gen [some 40, some 80, some 120, some 160] [] ((rtA_agg (rtL_cons (rfl) (rtL_cons (rfl) (rtL_cons (rfl) (rtL_cons (rfl) (rtL_nil))))))) ⟨rfl, ⟨rfl, ⟨rfl, ⟨rfl, trivial⟩⟩⟩⟩ rfl
theorem spec_l1In.ac {a0 : Int} {a1 : Int} {a2 : Int} {r : Bool} (H : spec_l1In.f a0 a1 a2 = some r) : ACalls Try.prog G 121 [] [.int .i64 a0, .int .i64 a1, .int .i64 a2] [] (.bool r) := by
  refine acalls_of tok hP Try.func121 rfl (by kernel_rfl) [.tmp 6] rfl (by kernel_rfl) (Nat.le_of_ble_eq_true rfl) (.l .n (.c .n .n)) ?_
  unfold spec_l1In.f at H
  conv => whnf
  refine br_d H (fun c H => ?_) (fun c H => ?_)
  conv => whnf
  refine Br.t ft_ ?_
  conv => whnf
  refine Br.t ft_ ?_
  conv => whnf
  refine Br.t ft_ ?_
  conv => whnf
  refine cut_ 80 [(6, .bool (decide (a0 ≤ a2)))] [] rfl ⟨rfl, trivial⟩ trivial ?_
  conv => whnf
  injection H with H; subst H
  exact ret_fz [] (rtA_eq rfl)
  conv => whnf
  refine Br.f ff_ ?_
  conv => whnf
  refine Br.f ff_ ?_
  conv => whnf
  refine Br.f ff_ ?_
  conv => whnf
  refine cut_ 80 [(6, .bool false)] [] rfl ⟨rfl, trivial⟩ trivial ?_
  conv => whnf
  injection H with H; subst H
  exact ret_fz [] (rtA_eq rfl)
theorem spec_l2NameOk.l0_lp {F : (Exit → St → Prop) → St → Prop} {hv : List Tmp} {Q : Exit → St → Prop} {σ : St} {r : Bool} {k : Nat} {a0 : ByteArray} {x3 : Int} (H : spec_l2NameOk.l0 k a0 x3 = some r) (rn : List (Option Nat)) (h1 : Fits σ σ [] [(3, .int .i64 x3)] [] [] rn)
    (h2 : ∀ (k0 : Nat) (x3 : Int), k0 < k + 1 → spec_l2NameOk.l0 k0 a0 x3 = some r → headN σ hv [] [(3, .int .i64 x3)] [] [] (F (fun e σ' => match e with | .normal => ∃ (y : Nat × Int) (rn : List (Option Nat)), (spec_l2NameOk.l0 y.1 a0 y.2 = some r ∧ y.1 < k + 1) ∧ y.1 < k0 ∧ Fits σ σ' [] [(3, .int .i64 y.2)] [] [] rn | e => Q e σ'))) : Lp F hv Q σ := by
  unfold Lp
  refine ⟨Nat × Int, fun x => spec_l2NameOk.l0 x.1 a0 x.2 = some r ∧ x.1 < k + 1, fun x => x.1, [], fun x => [(3, .int .i64 x.2)], fun x => [], fun x => [], ⟨(k, x3), rn, ⟨H, Nat.lt_succ_self _⟩, h1⟩, ?_⟩
  rintro ⟨k, x3⟩ ⟨H, hk⟩
  exact h2 k x3 hk H
theorem spec_l2NameOk.ac {k : Nat} {a0 : ByteArray} {r : Bool} (H : spec_l2NameOk.f k a0 = some r) : ACalls Try.prog G 119 [] [.str a0] [] (.bool r) := by
  refine acalls_of tok hP Try.func119 rfl (by kernel_rfl) [.tmp 2] rfl (by kernel_rfl) (Nat.le_of_ble_eq_true rfl) (.l .n (.l .n (.l (.l .n (.l (.c .n .n) (.l (.l .n (.c .n .n)) .n))) .n))) ?_
  unfold spec_l2NameOk.f at H
  conv => whnf
  revert H; refine bind_elim (fun t3438 A H => ?_)
  refine call_mk (spec_l1In.ac A) (avAL_cons (avA_shut' rfl) (avAL_cons (avA_shut' rfl) (avAL_cons (avA_shut' rfl) (avAL_nil)))) (Or.inl rfl) rfl rfl (Nat.le_of_ble_eq_true rfl) ?_
  conv => whnf
  refine br_nt H (fun c H => ?_) (fun c H => ?_)
  conv => whnf
  refine spec_l2NameOk.l0_lp (a0 := a0) (k := k) H [] (fits_of ⟨.inl ⟨rfl, rfl⟩, trivial⟩ trivial fi_ trivial rfl) ?_
  intro k x3 hk H; rcases k with _ | k; exact none_elim H; rw [spec_l2NameOk.l0] at H; conv => whnf
  refine cut_ 80 [(0, .str a0), (3, .int .i64 x3), (9, .int .i64 x3), (10, .str a0), (11, .int .i64 (a0.size : Int)), (12, .bool (decide (x3 < (a0.size : Int))))] [] rfl ⟨rfl, ⟨rfl, ⟨rfl, ⟨rfl, ⟨rfl, ⟨rfl, trivial⟩⟩⟩⟩⟩⟩ trivial ?_
  conv => whnf
  refine br_d H (fun c H => ?_) (fun c H => ?_)
  conv => whnf
  refine nd_ H (fun c H => ?_)
  conv => whnf
  refine Nd.mk nf_ ?_
  conv => whnf
  refine br_d H (fun c H => ?_) (fun c H => ?_)
  conv => whnf
  refine Br.t ft_ ?_
  conv => whnf
  refine Br.t ft_ ?_
  conv => whnf
  refine br_d H (fun c H => ?_) (fun c H => ?_)
  conv => whnf
  refine Br.t ft_ ?_
  conv => whnf
  refine Br.t ft_ ?_
  conv => whnf
  refine Br.t ft_ ?_
  conv => whnf
  refine Br.t ft_ ?_
  conv => whnf
  refine Br.t rfl ?_
  conv => whnf
  refine Br.t rfl ?_
  conv => whnf
  refine Br.t rfl ?_
  conv => whnf
  refine cut_ 264 [(0, .str a0), (3, .int .i64 x3), (4, .int .u8 (bt a0 x3)), (9, .int .i64 x3), (10, .str a0), (11, .int .i64 (a0.size : Int)), (12, .bool (decide (x3 < (a0.size : Int)))), (15, .str a0), (16, .int .i64 x3), (17, .int .u8 (bt a0 x3)), (18, .int .u8 (bt a0 x3)), (19, .bool (decide ((bt a0 x3) ≥ 97))), (20, .bool (decide ((bt a0 x3) ≥ 97))), (21, .int .u8 (bt a0 x3)), (22, .bool (decide ((bt a0 x3) ≤ 122))), (23, .bool (decide ((bt a0 x3) ≤ 122))), (24, .bool (decide ((bt a0 x3) ≤ 122))), (31, .bool true), (32, .bool true), (35, .bool true), (36, .bool (!true))] [] rfl ⟨rfl, ⟨rfl, ⟨rfl, ⟨rfl, ⟨rfl, ⟨rfl, ⟨rfl, ⟨rfl, ⟨rfl, ⟨rfl, ⟨rfl, ⟨rfl, ⟨rfl, ⟨rfl, ⟨rfl, ⟨rfl, ⟨rfl, ⟨rfl, ⟨rfl, ⟨rfl, ⟨rfl, trivial⟩⟩⟩⟩⟩⟩⟩⟩⟩⟩⟩⟩⟩⟩⟩⟩⟩⟩⟩⟩⟩ trivial ?_
  conv => whnf
  refine Br.f rfl ?_
  conv => whnf
  exact ⟨(k, wrap64 (x3 + 1)), [], ⟨H, lt_⟩, lt_, (fits_of ⟨.inl ⟨rfl, rfl⟩, trivial⟩ trivial fi_ trivial rfl)⟩
  conv => whnf
  refine Br.f ff_ ?_
  conv => whnf
  refine Br.f ff_ ?_
  conv => whnf
  refine br_d H (fun c H => ?_) (fun c H => ?_)
  conv => whnf
  refine Br.t ft_ ?_
  conv => whnf
  refine Br.f ff_ ?_
  conv => whnf
  refine Br.t ft_ ?_
  conv => whnf
  refine Br.f ff_ ?_
  conv => whnf
  refine br_d H (fun c H => ?_) (fun c H => ?_)
  conv => whnf
  refine Br.t ft_ ?_
  conv => whnf
  refine Br.t ft_ ?_
  conv => whnf
  refine cut_ 264 [(0, .str a0), (3, .int .i64 x3), (4, .int .u8 (bt a0 x3)), (9, .int .i64 x3), (10, .str a0), (11, .int .i64 (a0.size : Int)), (12, .bool (decide (x3 < (a0.size : Int)))), (15, .str a0), (16, .int .i64 x3), (17, .int .u8 (bt a0 x3)), (18, .int .u8 (bt a0 x3)), (19, .bool (decide ((bt a0 x3) ≥ 97))), (20, .bool (decide ((bt a0 x3) ≥ 97))), (21, .int .u8 (bt a0 x3)), (22, .bool (decide ((bt a0 x3) ≤ 122))), (23, .bool (decide ((bt a0 x3) ≤ 122))), (24, .bool (decide ((bt a0 x3) ≤ 122))), (25, .int .u8 (bt a0 x3)), (26, .bool (decide ((bt a0 x3) ≥ 48))), (27, .bool (decide ((bt a0 x3) ≥ 48))), (28, .int .u8 (bt a0 x3)), (29, .bool (decide ((bt a0 x3) ≤ 57))), (30, .bool (decide ((bt a0 x3) ≤ 57))), (31, .bool (decide ((bt a0 x3) ≤ 57))), (32, .bool (decide ((bt a0 x3) ≤ 57))), (35, .bool true), (36, .bool (!true))] [] rfl ⟨rfl, ⟨rfl, ⟨rfl, ⟨rfl, ⟨rfl, ⟨rfl, ⟨rfl, ⟨rfl, ⟨rfl, ⟨rfl, ⟨rfl, ⟨rfl, ⟨rfl, ⟨rfl, ⟨rfl, ⟨rfl, ⟨rfl, ⟨rfl, ⟨rfl, ⟨rfl, ⟨rfl, ⟨rfl, ⟨rfl, ⟨rfl, ⟨rfl, ⟨rfl, ⟨rfl, trivial⟩⟩⟩⟩⟩⟩⟩⟩⟩⟩⟩⟩⟩⟩⟩⟩⟩⟩⟩⟩⟩⟩⟩⟩⟩⟩⟩ trivial ?_
  conv => whnf
  refine Br.f rfl ?_
  conv => whnf
  exact ⟨(k, wrap64 (x3 + 1)), [], ⟨H, lt_⟩, lt_, (fits_of ⟨.inl ⟨rfl, rfl⟩, trivial⟩ trivial fi_ trivial rfl)⟩
  conv => whnf
  refine Br.f ff_ ?_
  conv => whnf
  refine Br.f ff_ ?_
  conv => whnf
  refine cut_ 264 [(0, .str a0), (3, .int .i64 x3), (4, .int .u8 (bt a0 x3)), (9, .int .i64 x3), (10, .str a0), (11, .int .i64 (a0.size : Int)), (12, .bool (decide (x3 < (a0.size : Int)))), (15, .str a0), (16, .int .i64 x3), (17, .int .u8 (bt a0 x3)), (18, .int .u8 (bt a0 x3)), (19, .bool (decide ((bt a0 x3) ≥ 97))), (20, .bool (decide ((bt a0 x3) ≥ 97))), (21, .int .u8 (bt a0 x3)), (22, .bool (decide ((bt a0 x3) ≤ 122))), (23, .bool (decide ((bt a0 x3) ≤ 122))), (24, .bool (decide ((bt a0 x3) ≤ 122))), (25, .int .u8 (bt a0 x3)), (26, .bool (decide ((bt a0 x3) ≥ 48))), (27, .bool (decide ((bt a0 x3) ≥ 48))), (28, .int .u8 (bt a0 x3)), (29, .bool (decide ((bt a0 x3) ≤ 57))), (30, .bool (decide ((bt a0 x3) ≤ 57))), (31, .bool (decide ((bt a0 x3) ≤ 57))), (32, .bool (decide ((bt a0 x3) ≤ 57))), (33, .int .u8 (bt a0 x3)), (34, .bool (decide ((bt a0 x3) = 45))), (35, .bool (decide ((bt a0 x3) = 45))), (36, .bool (!(decide ((bt a0 x3) = 45))))] [] rfl ⟨rfl, ⟨rfl, ⟨rfl, ⟨rfl, ⟨rfl, ⟨rfl, ⟨rfl, ⟨rfl, ⟨rfl, ⟨rfl, ⟨rfl, ⟨rfl, ⟨rfl, ⟨rfl, ⟨rfl, ⟨rfl, ⟨rfl, ⟨rfl, ⟨rfl, ⟨rfl, ⟨rfl, ⟨rfl, ⟨rfl, ⟨rfl, ⟨rfl, ⟨rfl, ⟨rfl, ⟨rfl, ⟨rfl, trivial⟩⟩⟩⟩⟩⟩⟩⟩⟩⟩⟩⟩⟩⟩⟩⟩⟩⟩⟩⟩⟩⟩⟩⟩⟩⟩⟩⟩⟩ trivial ?_
  conv => whnf
  refine br_nd H (fun c H => ?_) (fun c H => ?_)
  conv => whnf
  exact ⟨(k, wrap64 (x3 + 1)), [], ⟨H, lt_⟩, lt_, (fits_of ⟨.inl ⟨rfl, rfl⟩, trivial⟩ trivial fi_ trivial rfl)⟩
  conv => whnf
  injection H with H; subst H
  exact ret_fz [] (rtA_eq rfl)
  conv => whnf
  refine Br.f ff_ ?_
  conv => whnf
  refine Br.f ff_ ?_
  conv => whnf
  refine Br.f ff_ ?_
  conv => whnf
  refine Br.f ff_ ?_
  conv => whnf
  refine Br.f rfl ?_
  conv => whnf
  refine Br.f rfl ?_
  conv => whnf
  refine Br.f rfl ?_
  conv => whnf
  refine cut_ 264 [(0, .str a0), (3, .int .i64 x3), (4, .int .u8 (bt a0 x3)), (9, .int .i64 x3), (10, .str a0), (11, .int .i64 (a0.size : Int)), (12, .bool (decide (x3 < (a0.size : Int)))), (15, .str a0), (16, .int .i64 x3), (17, .int .u8 (bt a0 x3)), (18, .int .u8 (bt a0 x3)), (19, .bool (decide ((bt a0 x3) ≥ 97))), (20, .bool (decide ((bt a0 x3) ≥ 97))), (21, .int .u8 (bt a0 x3)), (22, .bool (decide ((bt a0 x3) ≤ 122))), (23, .bool (decide ((bt a0 x3) ≤ 122))), (24, .bool (decide ((bt a0 x3) ≤ 122))), (25, .int .u8 (bt a0 x3)), (26, .bool (decide ((bt a0 x3) ≥ 48))), (27, .bool (decide ((bt a0 x3) ≥ 48))), (30, .bool false), (31, .bool false), (32, .bool false), (33, .int .u8 (bt a0 x3)), (34, .bool (decide ((bt a0 x3) = 45))), (35, .bool (decide ((bt a0 x3) = 45))), (36, .bool (!(decide ((bt a0 x3) = 45))))] [] rfl ⟨rfl, ⟨rfl, ⟨rfl, ⟨rfl, ⟨rfl, ⟨rfl, ⟨rfl, ⟨rfl, ⟨rfl, ⟨rfl, ⟨rfl, ⟨rfl, ⟨rfl, ⟨rfl, ⟨rfl, ⟨rfl, ⟨rfl, ⟨rfl, ⟨rfl, ⟨rfl, ⟨rfl, ⟨rfl, ⟨rfl, ⟨rfl, ⟨rfl, ⟨rfl, ⟨rfl, trivial⟩⟩⟩⟩⟩⟩⟩⟩⟩⟩⟩⟩⟩⟩⟩⟩⟩⟩⟩⟩⟩⟩⟩⟩⟩⟩⟩ trivial ?_
  conv => whnf
  refine br_nd H (fun c H => ?_) (fun c H => ?_)
  conv => whnf
  exact ⟨(k, wrap64 (x3 + 1)), [], ⟨H, lt_⟩, lt_, (fits_of ⟨.inl ⟨rfl, rfl⟩, trivial⟩ trivial fi_ trivial rfl)⟩
  conv => whnf
  injection H with H; subst H
  exact ret_fz [] (rtA_eq rfl)
  conv => whnf
  refine Br.f ff_ ?_
  conv => whnf
  refine Br.f ff_ ?_
  conv => whnf
  refine Br.f rfl ?_
  conv => whnf
  refine Br.f rfl ?_
  conv => whnf
  refine Br.f rfl ?_
  conv => whnf
  refine br_d H (fun c H => ?_) (fun c H => ?_)
  conv => whnf
  refine Br.t ft_ ?_
  conv => whnf
  refine Br.f rfl ?_
  conv => whnf
  refine Br.t ft_ ?_
  conv => whnf
  refine Br.f rfl ?_
  conv => whnf
  refine br_d H (fun c H => ?_) (fun c H => ?_)
  conv => whnf
  refine Br.t ft_ ?_
  conv => whnf
  refine Br.t ft_ ?_
  conv => whnf
  refine cut_ 264 [(0, .str a0), (3, .int .i64 x3), (4, .int .u8 (bt a0 x3)), (9, .int .i64 x3), (10, .str a0), (11, .int .i64 (a0.size : Int)), (12, .bool (decide (x3 < (a0.size : Int)))), (15, .str a0), (16, .int .i64 x3), (17, .int .u8 (bt a0 x3)), (18, .int .u8 (bt a0 x3)), (19, .bool (decide ((bt a0 x3) ≥ 97))), (20, .bool (decide ((bt a0 x3) ≥ 97))), (23, .bool false), (24, .bool false), (25, .int .u8 (bt a0 x3)), (26, .bool (decide ((bt a0 x3) ≥ 48))), (27, .bool (decide ((bt a0 x3) ≥ 48))), (28, .int .u8 (bt a0 x3)), (29, .bool (decide ((bt a0 x3) ≤ 57))), (30, .bool (decide ((bt a0 x3) ≤ 57))), (31, .bool (decide ((bt a0 x3) ≤ 57))), (32, .bool (decide ((bt a0 x3) ≤ 57))), (35, .bool true), (36, .bool (!true))] [] rfl ⟨rfl, ⟨rfl, ⟨rfl, ⟨rfl, ⟨rfl, ⟨rfl, ⟨rfl, ⟨rfl, ⟨rfl, ⟨rfl, ⟨rfl, ⟨rfl, ⟨rfl, ⟨rfl, ⟨rfl, ⟨rfl, ⟨rfl, ⟨rfl, ⟨rfl, ⟨rfl, ⟨rfl, ⟨rfl, ⟨rfl, ⟨rfl, ⟨rfl, trivial⟩⟩⟩⟩⟩⟩⟩⟩⟩⟩⟩⟩⟩⟩⟩⟩⟩⟩⟩⟩⟩⟩⟩⟩⟩ trivial ?_
  conv => whnf
  refine Br.f rfl ?_
  conv => whnf
  exact ⟨(k, wrap64 (x3 + 1)), [], ⟨H, lt_⟩, lt_, (fits_of ⟨.inl ⟨rfl, rfl⟩, trivial⟩ trivial fi_ trivial rfl)⟩
  conv => whnf
  refine Br.f ff_ ?_
  conv => whnf
  refine Br.f ff_ ?_
  conv => whnf
  refine cut_ 264 [(0, .str a0), (3, .int .i64 x3), (4, .int .u8 (bt a0 x3)), (9, .int .i64 x3), (10, .str a0), (11, .int .i64 (a0.size : Int)), (12, .bool (decide (x3 < (a0.size : Int)))), (15, .str a0), (16, .int .i64 x3), (17, .int .u8 (bt a0 x3)), (18, .int .u8 (bt a0 x3)), (19, .bool (decide ((bt a0 x3) ≥ 97))), (20, .bool (decide ((bt a0 x3) ≥ 97))), (23, .bool false), (24, .bool false), (25, .int .u8 (bt a0 x3)), (26, .bool (decide ((bt a0 x3) ≥ 48))), (27, .bool (decide ((bt a0 x3) ≥ 48))), (28, .int .u8 (bt a0 x3)), (29, .bool (decide ((bt a0 x3) ≤ 57))), (30, .bool (decide ((bt a0 x3) ≤ 57))), (31, .bool (decide ((bt a0 x3) ≤ 57))), (32, .bool (decide ((bt a0 x3) ≤ 57))), (33, .int .u8 (bt a0 x3)), (34, .bool (decide ((bt a0 x3) = 45))), (35, .bool (decide ((bt a0 x3) = 45))), (36, .bool (!(decide ((bt a0 x3) = 45))))] [] rfl ⟨rfl, ⟨rfl, ⟨rfl, ⟨rfl, ⟨rfl, ⟨rfl, ⟨rfl, ⟨rfl, ⟨rfl, ⟨rfl, ⟨rfl, ⟨rfl, ⟨rfl, ⟨rfl, ⟨rfl, ⟨rfl, ⟨rfl, ⟨rfl, ⟨rfl, ⟨rfl, ⟨rfl, ⟨rfl, ⟨rfl, ⟨rfl, ⟨rfl, ⟨rfl, ⟨rfl, trivial⟩⟩⟩⟩⟩⟩⟩⟩⟩⟩⟩⟩⟩⟩⟩⟩⟩⟩⟩⟩⟩⟩⟩⟩⟩⟩⟩ trivial ?_
  conv => whnf
  refine br_nd H (fun c H => ?_) (fun c H => ?_)
  conv => whnf
  exact ⟨(k, wrap64 (x3 + 1)), [], ⟨H, lt_⟩, lt_, (fits_of ⟨.inl ⟨rfl, rfl⟩, trivial⟩ trivial fi_ trivial rfl)⟩
  conv => whnf
  injection H with H; subst H
  exact ret_fz [] (rtA_eq rfl)
  conv => whnf
  refine Br.f ff_ ?_
  conv => whnf
  refine Br.f rfl ?_
  conv => whnf
  refine Br.f ff_ ?_
  conv => whnf
  refine Br.f rfl ?_
  conv => whnf
  refine Br.f rfl ?_
  conv => whnf
  refine Br.f rfl ?_
  conv => whnf
  refine Br.f rfl ?_
  conv => whnf
  refine cut_ 264 [(0, .str a0), (3, .int .i64 x3), (4, .int .u8 (bt a0 x3)), (9, .int .i64 x3), (10, .str a0), (11, .int .i64 (a0.size : Int)), (12, .bool (decide (x3 < (a0.size : Int)))), (15, .str a0), (16, .int .i64 x3), (17, .int .u8 (bt a0 x3)), (18, .int .u8 (bt a0 x3)), (19, .bool (decide ((bt a0 x3) ≥ 97))), (20, .bool (decide ((bt a0 x3) ≥ 97))), (23, .bool false), (24, .bool false), (25, .int .u8 (bt a0 x3)), (26, .bool (decide ((bt a0 x3) ≥ 48))), (27, .bool (decide ((bt a0 x3) ≥ 48))), (30, .bool false), (31, .bool false), (32, .bool false), (33, .int .u8 (bt a0 x3)), (34, .bool (decide ((bt a0 x3) = 45))), (35, .bool (decide ((bt a0 x3) = 45))), (36, .bool (!(decide ((bt a0 x3) = 45))))] [] rfl ⟨rfl, ⟨rfl, ⟨rfl, ⟨rfl, ⟨rfl, ⟨rfl, ⟨rfl, ⟨rfl, ⟨rfl, ⟨rfl, ⟨rfl, ⟨rfl, ⟨rfl, ⟨rfl, ⟨rfl, ⟨rfl, ⟨rfl, ⟨rfl, ⟨rfl, ⟨rfl, ⟨rfl, ⟨rfl, ⟨rfl, ⟨rfl, ⟨rfl, trivial⟩⟩⟩⟩⟩⟩⟩⟩⟩⟩⟩⟩⟩⟩⟩⟩⟩⟩⟩⟩⟩⟩⟩⟩⟩ trivial ?_
  conv => whnf
  refine br_nd H (fun c H => ?_) (fun c H => ?_)
  conv => whnf
  exact ⟨(k, wrap64 (x3 + 1)), [], ⟨H, lt_⟩, lt_, (fits_of ⟨.inl ⟨rfl, rfl⟩, trivial⟩ trivial fi_ trivial rfl)⟩
  conv => whnf
  injection H with H; subst H
  exact ret_fz [] (rtA_eq rfl)
  conv => whnf
  injection H with H; subst H
  exact ret_fz [] (rtA_eq rfl)
  conv => whnf
  injection H with H; subst H
  exact ret_fz [] (rtA_eq rfl)
theorem spec_l2Has.l0_lp {F : (Exit → St → Prop) → St → Prop} {hv : List Tmp} {Q : Exit → St → Prop} {σ : St} {r : Bool} {k : Nat} {l0 : List ByteArray} {a1 : ByteArray} {x5 : Int} (H : spec_l2Has.l0 k l0 a1 x5 = some r) (rn : List (Option Nat)) (h1 : Fits σ σ [] [(5, .int .i64 x5)] [] [] rn)
    (h2 : ∀ (k0 : Nat) (x5 : Int), k0 < k + 1 → spec_l2Has.l0 k0 l0 a1 x5 = some r → headN σ hv [] [(5, .int .i64 x5)] [] [] (F (fun e σ' => match e with | .normal => ∃ (y : Nat × Int) (rn : List (Option Nat)), (spec_l2Has.l0 y.1 l0 a1 y.2 = some r ∧ y.1 < k + 1) ∧ y.1 < k0 ∧ Fits σ σ' [] [(5, .int .i64 y.2)] [] [] rn | e => Q e σ'))) : Lp F hv Q σ := by
  unfold Lp
  refine ⟨Nat × Int, fun x => spec_l2Has.l0 x.1 l0 a1 x.2 = some r ∧ x.1 < k + 1, fun x => x.1, [], fun x => [(5, .int .i64 x.2)], fun x => [], fun x => [], ⟨(k, x5), rn, ⟨H, Nat.lt_succ_self _⟩, h1⟩, ?_⟩
  rintro ⟨k, x5⟩ ⟨H, hk⟩
  exact h2 k x5 hk H
theorem spec_l2Has.ac {k : Nat} {l0 : List ByteArray} {a1 : ByteArray} {r : Bool} (H : spec_l2Has.f k l0 a1 = some r) : ACalls Try.prog G 90 [] [(sv_str l0), .str a1] [] (.bool r) := by
  refine acalls_of tok hP Try.func90 rfl (by kernel_rfl) [.tmp 4] rfl (by kernel_rfl) (Nat.le_of_ble_eq_true rfl) (.l .n (.l (.l .n (.l .n (.l (.c .n .n) .n))) .n)) ?_
  unfold spec_l2Has.f at H
  conv => whnf
  refine spec_l2Has.l0_lp (l0 := l0) (a1 := a1) (k := k) H [] (fits_of ⟨.inl ⟨rfl, rfl⟩, trivial⟩ trivial fi_ trivial rfl) ?_
  intro k x5 hk H; rcases k with _ | k; exact none_elim H; rw [spec_l2Has.l0] at H; conv => whnf
  refine br_d H (fun c H => ?_) (fun c H => ?_)
  conv => whnf
  refine nd_ H (fun c H => ?_)
  conv => whnf
  refine Nd.mk nf_ ?_
  conv => whnf
  refine El.mk (rdm_en_str _ _ nf_ nf_) ?_
  conv => whnf
  refine cut_ 96 [(0, (sv_str l0)), (1, .str a1), (5, .int .i64 x5), (6, .int .i64 x5), (7, (sv_str l0)), (8, .int .i64 (l0.length : Int)), (9, .bool (decide (x5 < (l0.length : Int)))), (12, (sv_str l0)), (13, .int .i64 x5), (14, .rp [.str (rdOf ByteArray.empty l0 x5)]), (15, .str (rdOf ByteArray.empty l0 x5)), (16, .str a1), (17, .bool (decide ((rdOf ByteArray.empty l0 x5).toList = a1.toList)))] [] rfl ⟨rfl, ⟨rfl, ⟨rfl, ⟨rfl, ⟨rfl, ⟨rfl, ⟨rfl, ⟨rfl, ⟨rfl, ⟨rfl, ⟨rfl, ⟨rfl, ⟨rfl, trivial⟩⟩⟩⟩⟩⟩⟩⟩⟩⟩⟩⟩⟩ trivial ?_
  conv => whnf
  refine br_d H (fun c H => ?_) (fun c H => ?_)
  conv => whnf
  injection H with H; subst H
  exact ret_fz [] (rtA_eq rfl)
  conv => whnf
  exact ⟨(k, wrap64 (x5 + 1)), [], ⟨H, lt_⟩, lt_, (fits_of ⟨.inl ⟨rfl, rfl⟩, trivial⟩ trivial fi_ trivial rfl)⟩
  conv => whnf
  injection H with H; subst H
  exact ret_fz [] (rtA_eq rfl)
theorem spec_l2Before.ac {a0_0 : ByteArray} {a0_1 : ByteArray} {a1_0 : ByteArray} {a1_1 : ByteArray} {r : Bool} (H : spec_l2Before.f a0_0 a0_1 a1_0 a1_1 = some r) : ACalls Try.prog G 120 [] [.agg [.str a0_0, .str a0_1], .agg [.str a1_0, .str a1_1]] [] (.bool r) := by
  refine acalls_of tok hP Try.func120 rfl (by kernel_rfl) [.tmp 4] rfl (by kernel_rfl) (Nat.le_of_ble_eq_true rfl) (.l .n (.c .n .n)) ?_
  unfold spec_l2Before.f at H
  conv => whnf
  refine br_t H (fun c H => ?_) (fun c H => ?_)
  conv => whnf
  refine Br.t ft_ ?_
  conv => whnf
  refine Br.t ft_ ?_
  conv => whnf
  refine Br.t ft_ ?_
  conv => whnf
  refine Br.t ft_ ?_
  conv => whnf
  refine Br.t ft_ ?_
  conv => whnf
  refine Br.t ft_ ?_
  conv => whnf
  refine Br.t ft_ ?_
  conv => whnf
  refine cut_ 184 [(4, .bool true)] [] rfl ⟨rfl, trivial⟩ trivial ?_
  conv => whnf
  injection H with H; subst H
  exact ret_fz [] (rtA_eq rfl)
  conv => whnf
  refine Br.f ff_ ?_
  conv => whnf
  refine Br.f ff_ ?_
  conv => whnf
  refine Br.f ff_ ?_
  conv => whnf
  refine Br.f ff_ ?_
  conv => whnf
  refine Br.f ff_ ?_
  conv => whnf
  refine br_d H (fun c H => ?_) (fun c H => ?_)
  conv => whnf
  refine Br.t ft_ ?_
  conv => whnf
  refine Br.t ft_ ?_
  conv => whnf
  refine Br.t ft_ ?_
  conv => whnf
  refine Br.t ft_ ?_
  conv => whnf
  refine Br.f ff_ ?_
  conv => whnf
  refine Br.t ft_ ?_
  conv => whnf
  refine Br.f ff_ ?_
  conv => whnf
  refine cut_ 184 [(4, .bool (Op.bytesLess a0_1.toList a1_1.toList))] [] rfl ⟨rfl, trivial⟩ trivial ?_
  conv => whnf
  injection H with H; subst H
  exact ret_fz [] (rtA_eq rfl)
  conv => whnf
  refine Br.f ff_ ?_
  conv => whnf
  refine Br.f ff_ ?_
  conv => whnf
  refine Br.f ff_ ?_
  conv => whnf
  refine Br.f ff_ ?_
  conv => whnf
  refine Br.f ff_ ?_
  conv => whnf
  refine Br.f ff_ ?_
  conv => whnf
  refine Br.f ff_ ?_
  conv => whnf
  refine cut_ 184 [(4, .bool false)] [] rfl ⟨rfl, trivial⟩ trivial ?_
  conv => whnf
  injection H with H; subst H
  exact ret_fz [] (rtA_eq rfl)
theorem spec_l2StuffsOk.l1_lp {F : (Exit → St → Prop) → St → Prop} {hv : List Tmp} {Q : Exit → St → Prop} {σ : St} {r : Bool} {k : Nat} {a0_0 : List ByteArray} {a0_1 : List S_impl_PlantFoe} {x4 : Int} (H : spec_l2StuffsOk.l1 k a0_0 a0_1 x4 = some r) (rn : List (Option Nat)) (h1 : Fits σ σ [] [(4, .int .i64 x4)] [] [] rn)
    (h2 : ∀ (k0 : Nat) (x4 : Int), k0 < k + 1 → spec_l2StuffsOk.l1 k0 a0_0 a0_1 x4 = some r → headN σ hv [] [(4, .int .i64 x4)] [] [] (F (fun e σ' => match e with | .normal => ∃ (y : Nat × Int) (rn : List (Option Nat)), (spec_l2StuffsOk.l1 y.1 a0_0 a0_1 y.2 = some r ∧ y.1 < k + 1) ∧ y.1 < k0 ∧ Fits σ σ' [] [(4, .int .i64 y.2)] [] [] rn | e => Q e σ'))) : Lp F hv Q σ := by
  unfold Lp
  refine ⟨Nat × Int, fun x => spec_l2StuffsOk.l1 x.1 a0_0 a0_1 x.2 = some r ∧ x.1 < k + 1, fun x => x.1, [], fun x => [(4, .int .i64 x.2)], fun x => [], fun x => [], ⟨(k, x4), rn, ⟨H, Nat.lt_succ_self _⟩, h1⟩, ?_⟩
  rintro ⟨k, x4⟩ ⟨H, hk⟩
  exact h2 k x4 hk H
theorem spec_l2StuffsOk.l0_lp {F : (Exit → St → Prop) → St → Prop} {hv : List Tmp} {Q : Exit → St → Prop} {σ : St} {r : Bool} {k : Nat} {a0_0 : List ByteArray} {a0_1 : List S_impl_PlantFoe} {x3 : Int} (H : spec_l2StuffsOk.l0 k a0_0 a0_1 x3 = some r) (rn : List (Option Nat)) (h1 : Fits σ σ [] [(3, .int .i64 x3)] [] [] rn)
    (h2 : ∀ (k0 : Nat) (x3 : Int), k0 < k + 1 → spec_l2StuffsOk.l0 k0 a0_0 a0_1 x3 = some r → headN σ hv [] [(3, .int .i64 x3)] [] [] (F (fun e σ' => match e with | .normal => ∃ (y : Nat × Int) (rn : List (Option Nat)), (spec_l2StuffsOk.l0 y.1 a0_0 a0_1 y.2 = some r ∧ y.1 < k + 1) ∧ y.1 < k0 ∧ Fits σ σ' [] [(3, .int .i64 y.2)] [] [] rn | e => Q e σ'))) : Lp F hv Q σ := by
  unfold Lp
  refine ⟨Nat × Int, fun x => spec_l2StuffsOk.l0 x.1 a0_0 a0_1 x.2 = some r ∧ x.1 < k + 1, fun x => x.1, [], fun x => [(3, .int .i64 x.2)], fun x => [], fun x => [], ⟨(k, x3), rn, ⟨H, Nat.lt_succ_self _⟩, h1⟩, ?_⟩
  rintro ⟨k, x3⟩ ⟨H, hk⟩
  exact h2 k x3 hk H
theorem spec_l2StuffsOk.ac {k : Nat} {a0_0 : List ByteArray} {a0_1 : List S_impl_PlantFoe} {a0_2 : List S_impl_PlantPlace} {a0_3 : List S_impl_PlantValve} {r : Bool} (H : spec_l2StuffsOk.f k a0_0 a0_1 a0_2 a0_3 = some r) : ACalls Try.prog G 66 [] [.agg [(sv_str a0_0), (sv_S_impl_PlantFoe a0_1), (sv_S_impl_PlantPlace a0_2), (sv_S_impl_PlantValve a0_3)]] [] (.bool r) := by
  refine acalls_of tok hP Try.func66 rfl (by kernel_rfl) [.tmp 2] rfl (by kernel_rfl) (Nat.le_of_ble_eq_true rfl) (.l .n (.l (.c .n (.l (.c .n .n) .n)) (.l (.l .n (.l .n (.l (.c .n (.l (.c .n .n) .n)) .n))) (.l (.l .n (.l (.c .n .n) (.l (.l .n (.c .n (.l (.c .n .n) .n))) .n))) .n)))) ?_
  unfold spec_l2StuffsOk.f at H
  conv => whnf
  refine br_d H (fun c H => ?_) (fun c H => ?_)
  conv => whnf
  refine Br.t ft_ ?_
  conv => whnf
  refine Br.t ft_ ?_
  conv => whnf
  refine Br.t ft_ ?_
  conv => whnf
  refine Br.t ft_ ?_
  conv => whnf
  refine cut_ 96 [(1, .bp 0 0), (2, .bool false), (15, .bool true)] [(0, .box [(sv_str a0_0), (sv_S_impl_PlantFoe a0_1), (sv_S_impl_PlantPlace a0_2), (sv_S_impl_PlantValve a0_3)])] rfl ⟨rfl, ⟨rfl, ⟨rfl, trivial⟩⟩⟩ ⟨rfl, trivial⟩ ?_
  conv => whnf
  refine Br.t rfl ?_
  conv => whnf
  refine cut_ 104 [(1, .bp 0 0), (2, .bool false)] [(0, .box [(sv_str a0_0), (sv_S_impl_PlantFoe a0_1), (sv_S_impl_PlantPlace a0_2), (sv_S_impl_PlantValve a0_3)])] rfl ⟨rfl, ⟨rfl, trivial⟩⟩ ⟨rfl, trivial⟩ ?_
  conv => whnf
  injection H with H; subst H
  exact ret_fz [] (rtA_eq rfl)
  conv => whnf
  refine Br.f ff_ ?_
  conv => whnf
  refine Br.f ff_ ?_
  conv => whnf
  refine Br.f ff_ ?_
  conv => whnf
  refine Br.f ff_ ?_
  conv => whnf
  refine cut_ 96 [(1, .bp 0 0), (2, .bool false), (15, .bool (decide ((a0_1.length : Int) > 12)))] [(0, .box [(sv_str a0_0), (sv_S_impl_PlantFoe a0_1), (sv_S_impl_PlantPlace a0_2), (sv_S_impl_PlantValve a0_3)])] rfl ⟨rfl, ⟨rfl, ⟨rfl, trivial⟩⟩⟩ ⟨rfl, trivial⟩ ?_
  conv => whnf
  refine br_d H (fun c H => ?_) (fun c H => ?_)
  conv => whnf
  refine cut_ 104 [(1, .bp 0 0), (2, .bool false)] [(0, .box [(sv_str a0_0), (sv_S_impl_PlantFoe a0_1), (sv_S_impl_PlantPlace a0_2), (sv_S_impl_PlantValve a0_3)])] rfl ⟨rfl, ⟨rfl, trivial⟩⟩ ⟨rfl, trivial⟩ ?_
  conv => whnf
  injection H with H; subst H
  exact ret_fz [] (rtA_eq rfl)
  conv => whnf
  refine spec_l2StuffsOk.l0_lp (a0_0 := a0_0) (a0_1 := a0_1) (k := k) H [] (fits_of ⟨.inl ⟨rfl, rfl⟩, trivial⟩ trivial fi_ trivial rfl) ?_
  intro k x3 hk H; rcases k with _ | k; exact none_elim H; rw [spec_l2StuffsOk.l0] at H; conv => whnf
  refine br_d H (fun c H => ?_) (fun c H => ?_)
  conv => whnf
  refine nd_ H (fun c H => ?_)
  conv => whnf
  refine Nd.mk nf_ ?_
  conv => whnf
  refine El.mk (rdm_en_str _ _ nf_ nf_) ?_
  conv => whnf
  revert H; refine bind_elim (fun t3442 A H => ?_)
  refine call_mk (spec_l2NameOk.ac A) (avAL_cons (avA_shut' rfl) (avAL_nil)) (Or.inl rfl) rfl rfl (Nat.le_of_ble_eq_true rfl) ?_
  conv => whnf
  refine br_nt H (fun c H => ?_) (fun c H => ?_)
  conv => whnf
  refine Br.f ff_ ?_
  conv => whnf
  refine Br.f ff_ ?_
  conv => whnf
  refine br_d H (fun c H => ?_) (fun c H => ?_)
  conv => whnf
  refine Br.t ft_ ?_
  conv => whnf
  refine Br.t ft_ ?_
  conv => whnf
  refine Br.t ft_ ?_
  conv => whnf
  refine Br.t ft_ ?_
  conv => whnf
  refine nd_ H (fun c H => ?_)
  conv => whnf
  refine nd_ H (fun c H => ?_)
  conv => whnf
  refine El.mk (rdm_en_str _ _ nf_ nf_) ?_
  conv => whnf
  refine Br.t ft_ ?_
  conv => whnf
  refine Br.t ft_ ?_
  conv => whnf
  refine Br.t ft_ ?_
  conv => whnf
  refine Br.t ft_ ?_
  conv => whnf
  refine Br.t ft_ ?_
  conv => whnf
  refine Nd.mk nf_ ?_
  conv => whnf
  refine Nd.mk nf_ ?_
  conv => whnf
  refine El.mk (rdm_en_str _ _ nf_ nf_) ?_
  conv => whnf
  refine Br.t ft_ ?_
  conv => whnf
  refine Br.t ft_ ?_
  conv => whnf
  refine Br.f ff_ ?_
  conv => whnf
  refine Br.t ft_ ?_
  conv => whnf
  refine Br.f ff_ ?_
  conv => whnf
  refine cut_ 344 [(1, .bp 0 0), (3, .int .i64 x3), (16, .int .i64 x3), (17, .bp 0 0), (18, (sv_str a0_0)), (19, .int .i64 (a0_0.length : Int)), (20, .bool (decide (x3 < (a0_0.length : Int)))), (23, .bp 0 0), (24, (sv_str a0_0)), (25, .int .i64 x3), (26, .rp [.str (rdOf ByteArray.empty a0_0 x3)]), (27, .str (rdOf ByteArray.empty a0_0 x3)), (28, .bool t3442), (29, .bool (!t3442)), (30, .bool (!t3442)), (31, .int .i64 x3), (32, .bool (decide (x3 > 0))), (33, .bool (decide (x3 > 0))), (34, .bp 0 0), (35, (sv_str a0_0)), (36, .int .i64 x3), (37, .int .i64 (wrap64 (x3 - 1))), (38, .rp [.str (rdOf ByteArray.empty a0_0 (wrap64 (x3 - 1)))]), (39, .str (rdOf ByteArray.empty a0_0 (wrap64 (x3 - 1)))), (40, .bp 0 0), (41, (sv_str a0_0)), (42, .int .i64 x3), (43, .rp [.str (rdOf ByteArray.empty a0_0 x3)]), (44, .str (rdOf ByteArray.empty a0_0 x3)), (45, .bool (!(Op.bytesLess (rdOf ByteArray.empty a0_0 (wrap64 (x3 - 1))).toList (rdOf ByteArray.empty a0_0 x3).toList))), (46, .bool (!(Op.bytesLess (rdOf ByteArray.empty a0_0 (wrap64 (x3 - 1))).toList (rdOf ByteArray.empty a0_0 x3).toList))), (47, .bool (!(Op.bytesLess (rdOf ByteArray.empty a0_0 (wrap64 (x3 - 1))).toList (rdOf ByteArray.empty a0_0 x3).toList)))] [(0, .box [(sv_str a0_0), (sv_S_impl_PlantFoe a0_1), (sv_S_impl_PlantPlace a0_2), (sv_S_impl_PlantValve a0_3)])] rfl ⟨rfl, ⟨rfl, ⟨rfl, ⟨rfl, ⟨rfl, ⟨rfl, ⟨rfl, ⟨rfl, ⟨rfl, ⟨rfl, ⟨rfl, ⟨rfl, ⟨rfl, ⟨rfl, ⟨rfl, ⟨rfl, ⟨rfl, ⟨rfl, ⟨rfl, ⟨rfl, ⟨rfl, ⟨rfl, ⟨rfl, ⟨rfl, ⟨rfl, ⟨rfl, ⟨rfl, ⟨rfl, ⟨rfl, ⟨rfl, ⟨rfl, ⟨rfl, trivial⟩⟩⟩⟩⟩⟩⟩⟩⟩⟩⟩⟩⟩⟩⟩⟩⟩⟩⟩⟩⟩⟩⟩⟩⟩⟩⟩⟩⟩⟩⟩⟩ ⟨rfl, trivial⟩ ?_
  conv => whnf
  refine br_nt H (fun c H => ?_) (fun c H => ?_)
  conv => whnf
  exact ⟨(k, wrap64 (x3 + 1)), [], ⟨H, lt_⟩, lt_, (fits_of ⟨.inl ⟨rfl, rfl⟩, trivial⟩ trivial fi_ trivial rfl)⟩
  conv => whnf
  refine cut_ 352 [(1, .bp 0 0), (2, .bool false), (3, .int .i64 x3), (16, .int .i64 x3), (17, .bp 0 0), (18, (sv_str a0_0)), (19, .int .i64 (a0_0.length : Int)), (20, .bool (decide (x3 < (a0_0.length : Int)))), (23, .bp 0 0), (24, (sv_str a0_0)), (25, .int .i64 x3), (26, .rp [.str (rdOf ByteArray.empty a0_0 x3)]), (27, .str (rdOf ByteArray.empty a0_0 x3)), (28, .bool t3442), (29, .bool (!t3442)), (30, .bool (!t3442)), (31, .int .i64 x3), (32, .bool (decide (x3 > 0))), (33, .bool (decide (x3 > 0))), (34, .bp 0 0), (35, (sv_str a0_0)), (36, .int .i64 x3), (37, .int .i64 (wrap64 (x3 - 1))), (38, .rp [.str (rdOf ByteArray.empty a0_0 (wrap64 (x3 - 1)))]), (39, .str (rdOf ByteArray.empty a0_0 (wrap64 (x3 - 1)))), (40, .bp 0 0), (41, (sv_str a0_0)), (42, .int .i64 x3), (43, .rp [.str (rdOf ByteArray.empty a0_0 x3)]), (44, .str (rdOf ByteArray.empty a0_0 x3)), (45, .bool (!(Op.bytesLess (rdOf ByteArray.empty a0_0 (wrap64 (x3 - 1))).toList (rdOf ByteArray.empty a0_0 x3).toList))), (46, .bool (!(Op.bytesLess (rdOf ByteArray.empty a0_0 (wrap64 (x3 - 1))).toList (rdOf ByteArray.empty a0_0 x3).toList))), (47, .bool (!(Op.bytesLess (rdOf ByteArray.empty a0_0 (wrap64 (x3 - 1))).toList (rdOf ByteArray.empty a0_0 x3).toList)))] [(0, .box [(sv_str a0_0), (sv_S_impl_PlantFoe a0_1), (sv_S_impl_PlantPlace a0_2), (sv_S_impl_PlantValve a0_3)])] rfl ⟨rfl, ⟨rfl, ⟨rfl, ⟨rfl, ⟨rfl, ⟨rfl, ⟨rfl, ⟨rfl, ⟨rfl, ⟨rfl, ⟨rfl, ⟨rfl, ⟨rfl, ⟨rfl, ⟨rfl, ⟨rfl, ⟨rfl, ⟨rfl, ⟨rfl, ⟨rfl, ⟨rfl, ⟨rfl, ⟨rfl, ⟨rfl, ⟨rfl, ⟨rfl, ⟨rfl, ⟨rfl, ⟨rfl, ⟨rfl, ⟨rfl, ⟨rfl, ⟨rfl, trivial⟩⟩⟩⟩⟩⟩⟩⟩⟩⟩⟩⟩⟩⟩⟩⟩⟩⟩⟩⟩⟩⟩⟩⟩⟩⟩⟩⟩⟩⟩⟩⟩⟩ ⟨rfl, trivial⟩ ?_
  conv => whnf
  injection H with H; subst H
  exact ret_fz [] (rtA_eq rfl)
  conv => whnf
  refine Br.f ff_ ?_
  conv => whnf
  refine Br.f ff_ ?_
  conv => whnf
  refine Br.f ff_ ?_
  conv => whnf
  refine Br.f ff_ ?_
  conv => whnf
  refine Br.f ff_ ?_
  conv => whnf
  refine Br.f ff_ ?_
  conv => whnf
  refine Br.f ff_ ?_
  conv => whnf
  refine Br.f ff_ ?_
  conv => whnf
  refine Br.f ff_ ?_
  conv => whnf
  refine Br.f ff_ ?_
  conv => whnf
  refine Br.f ff_ ?_
  conv => whnf
  refine Br.f ff_ ?_
  conv => whnf
  refine Br.f ff_ ?_
  conv => whnf
  refine Br.f ff_ ?_
  conv => whnf
  refine cut_ 344 [(1, .bp 0 0), (3, .int .i64 x3), (16, .int .i64 x3), (17, .bp 0 0), (18, (sv_str a0_0)), (19, .int .i64 (a0_0.length : Int)), (20, .bool (decide (x3 < (a0_0.length : Int)))), (23, .bp 0 0), (24, (sv_str a0_0)), (25, .int .i64 x3), (26, .rp [.str (rdOf ByteArray.empty a0_0 x3)]), (27, .str (rdOf ByteArray.empty a0_0 x3)), (28, .bool t3442), (29, .bool (!t3442)), (30, .bool (!t3442)), (31, .int .i64 x3), (32, .bool (decide (x3 > 0))), (33, .bool (decide (x3 > 0))), (46, .bool false), (47, .bool false)] [(0, .box [(sv_str a0_0), (sv_S_impl_PlantFoe a0_1), (sv_S_impl_PlantPlace a0_2), (sv_S_impl_PlantValve a0_3)])] rfl ⟨rfl, ⟨rfl, ⟨rfl, ⟨rfl, ⟨rfl, ⟨rfl, ⟨rfl, ⟨rfl, ⟨rfl, ⟨rfl, ⟨rfl, ⟨rfl, ⟨rfl, ⟨rfl, ⟨rfl, ⟨rfl, ⟨rfl, ⟨rfl, ⟨rfl, ⟨rfl, trivial⟩⟩⟩⟩⟩⟩⟩⟩⟩⟩⟩⟩⟩⟩⟩⟩⟩⟩⟩⟩ ⟨rfl, trivial⟩ ?_
  conv => whnf
  refine Br.f rfl ?_
  conv => whnf
  exact ⟨(k, wrap64 (x3 + 1)), [], ⟨H, lt_⟩, lt_, (fits_of ⟨.inl ⟨rfl, rfl⟩, trivial⟩ trivial fi_ trivial rfl)⟩
  conv => whnf
  refine Br.t ft_ ?_
  conv => whnf
  refine Br.t ft_ ?_
  conv => whnf
  refine Br.t ft_ ?_
  conv => whnf
  refine Br.t ft_ ?_
  conv => whnf
  refine cut_ 344 [(1, .bp 0 0), (3, .int .i64 x3), (16, .int .i64 x3), (17, .bp 0 0), (18, (sv_str a0_0)), (19, .int .i64 (a0_0.length : Int)), (20, .bool (decide (x3 < (a0_0.length : Int)))), (23, .bp 0 0), (24, (sv_str a0_0)), (25, .int .i64 x3), (26, .rp [.str (rdOf ByteArray.empty a0_0 x3)]), (27, .str (rdOf ByteArray.empty a0_0 x3)), (28, .bool t3442), (29, .bool (!t3442)), (30, .bool (!t3442)), (47, .bool true)] [(0, .box [(sv_str a0_0), (sv_S_impl_PlantFoe a0_1), (sv_S_impl_PlantPlace a0_2), (sv_S_impl_PlantValve a0_3)])] rfl ⟨rfl, ⟨rfl, ⟨rfl, ⟨rfl, ⟨rfl, ⟨rfl, ⟨rfl, ⟨rfl, ⟨rfl, ⟨rfl, ⟨rfl, ⟨rfl, ⟨rfl, ⟨rfl, ⟨rfl, ⟨rfl, trivial⟩⟩⟩⟩⟩⟩⟩⟩⟩⟩⟩⟩⟩⟩⟩⟩ ⟨rfl, trivial⟩ ?_
  conv => whnf
  refine Br.t rfl ?_
  conv => whnf
  refine cut_ 352 [(1, .bp 0 0), (2, .bool false), (3, .int .i64 x3), (16, .int .i64 x3), (17, .bp 0 0), (18, (sv_str a0_0)), (19, .int .i64 (a0_0.length : Int)), (20, .bool (decide (x3 < (a0_0.length : Int)))), (23, .bp 0 0), (24, (sv_str a0_0)), (25, .int .i64 x3), (26, .rp [.str (rdOf ByteArray.empty a0_0 x3)]), (27, .str (rdOf ByteArray.empty a0_0 x3)), (28, .bool t3442), (29, .bool (!t3442)), (30, .bool (!t3442)), (47, .bool true)] [(0, .box [(sv_str a0_0), (sv_S_impl_PlantFoe a0_1), (sv_S_impl_PlantPlace a0_2), (sv_S_impl_PlantValve a0_3)])] rfl ⟨rfl, ⟨rfl, ⟨rfl, ⟨rfl, ⟨rfl, ⟨rfl, ⟨rfl, ⟨rfl, ⟨rfl, ⟨rfl, ⟨rfl, ⟨rfl, ⟨rfl, ⟨rfl, ⟨rfl, ⟨rfl, ⟨rfl, trivial⟩⟩⟩⟩⟩⟩⟩⟩⟩⟩⟩⟩⟩⟩⟩⟩⟩ ⟨rfl, trivial⟩ ?_
  conv => whnf
  injection H with H; subst H
  exact ret_fz [] (rtA_eq rfl)
  conv => whnf
  refine spec_l2StuffsOk.l1_lp (a0_0 := a0_0) (a0_1 := a0_1) (k := k) H [] (fits_of ⟨.inl ⟨rfl, rfl⟩, trivial⟩ trivial fi_ trivial rfl) ?_
  intro k x4 hk H; rcases k with _ | k; exact none_elim H; rw [spec_l2StuffsOk.l1] at H; conv => whnf
  refine cut_ 192 [(1, .bp 0 0), (4, .int .i64 x4), (48, .int .i64 x4), (49, .bp 0 1), (50, (sv_S_impl_PlantFoe a0_1)), (51, .int .i64 (a0_1.length : Int)), (52, .bool (decide (x4 < (a0_1.length : Int))))] [(0, .box [(sv_str a0_0), (sv_S_impl_PlantFoe a0_1), (sv_S_impl_PlantPlace a0_2), (sv_S_impl_PlantValve a0_3)])] rfl ⟨rfl, ⟨rfl, ⟨rfl, ⟨rfl, ⟨rfl, ⟨rfl, ⟨rfl, trivial⟩⟩⟩⟩⟩⟩⟩ ⟨rfl, trivial⟩ ?_
  conv => whnf
  refine br_d H (fun c H => ?_) (fun c H => ?_)
  conv => whnf
  refine nd_ H (fun c H => ?_)
  conv => whnf
  refine Nd.mk nf_ ?_
  conv => whnf
  refine El.mk (rdm_en_S_impl_PlantFoe _ _ nf_ nf_) ?_
  conv => whnf
  refine br_nt H (fun c H => ?_) (fun c H => ?_)
  conv => whnf
  refine Br.f ff_ ?_
  conv => whnf
  refine Br.f ff_ ?_
  conv => whnf
  refine Br.f ff_ ?_
  conv => whnf
  refine Br.f ff_ ?_
  conv => whnf
  revert H; refine bind_elim (fun t3452 A H => ?_)
  refine call_mk (spec_l2Has.ac A) (avAL_cons (avA_shut' rfl) (avAL_cons (avA_shut' rfl) (avAL_nil))) (Or.inl rfl) rfl rfl (Nat.le_of_ble_eq_true rfl) ?_
  conv => whnf
  refine Br.f ff_ ?_
  conv => whnf
  refine Br.f ff_ ?_
  conv => whnf
  refine br_nt H (fun c H => ?_) (fun c H => ?_)
  conv => whnf
  refine Br.f ff_ ?_
  conv => whnf
  refine Br.f ff_ ?_
  conv => whnf
  refine Br.f ff_ ?_
  conv => whnf
  refine Br.f ff_ ?_
  conv => whnf
  revert H; refine bind_elim (fun t3453 A H => ?_)
  refine call_mk (spec_l2Has.ac A) (avAL_cons (avA_shut' rfl) (avAL_cons (avA_shut' rfl) (avAL_nil))) (Or.inl rfl) rfl rfl (Nat.le_of_ble_eq_true rfl) ?_
  conv => whnf
  refine Br.f ff_ ?_
  conv => whnf
  refine Br.f ff_ ?_
  conv => whnf
  refine br_nt H (fun c H => ?_) (fun c H => ?_)
  conv => whnf
  refine Br.f ff_ ?_
  conv => whnf
  refine Br.f ff_ ?_
  conv => whnf
  refine br_d H (fun c H => ?_) (fun c H => ?_)
  conv => whnf
  refine Br.t ft_ ?_
  conv => whnf
  refine Br.t ft_ ?_
  conv => whnf
  refine Br.t ft_ ?_
  conv => whnf
  refine Br.t ft_ ?_
  conv => whnf
  refine nd_ H (fun c H => ?_)
  conv => whnf
  refine nd_ H (fun c H => ?_)
  conv => whnf
  refine El.mk (rdm_en_S_impl_PlantFoe _ _ nf_ nf_) ?_
  conv => whnf
  refine Br.t ft_ ?_
  conv => whnf
  refine Br.t ft_ ?_
  conv => whnf
  refine Br.t ft_ ?_
  conv => whnf
  revert H; refine bind_elim (fun t3454 A H => ?_)
  refine call_mk (spec_l2Before.ac A) (avAL_cons (avA_agg (avL_cons (av_shut' rfl) (avL_cons (av_shut' rfl) (avL_nil)))) (avAL_cons (avA_agg (avL_cons (av_shut' rfl) (avL_cons (av_shut' rfl) (avL_nil)))) (avAL_nil))) (Or.inl rfl) rfl rfl (Nat.le_of_ble_eq_true rfl) ?_
  conv => whnf
  refine Br.t ft_ ?_
  conv => whnf
  refine Br.f ff_ ?_
  conv => whnf
  refine Br.t ft_ ?_
  conv => whnf
  refine Br.f ff_ ?_
  conv => whnf
  refine cut_ 536 [(1, .bp 0 0), (4, .int .i64 x4), (5, .bp 232 0), (48, .int .i64 x4), (49, .bp 0 1), (50, (sv_S_impl_PlantFoe a0_1)), (51, .int .i64 (a0_1.length : Int)), (52, .bool (decide (x4 < (a0_1.length : Int)))), (55, .bp 0 1), (56, (sv_S_impl_PlantFoe a0_1)), (57, .int .i64 x4), (58, .rp [.str ((rd_impl_PlantFoe a0_1 x4).f0), .str ((rd_impl_PlantFoe a0_1 x4).f1)]), (59, .agg [.str ((rd_impl_PlantFoe a0_1 x4).f0), .str ((rd_impl_PlantFoe a0_1 x4).f1)]), (60, .bp 232 0), (61, .str ((rd_impl_PlantFoe a0_1 x4).f0)), (62, .bp 232 1), (63, .str ((rd_impl_PlantFoe a0_1 x4).f1)), (64, .bool (!(Op.bytesLess ((rd_impl_PlantFoe a0_1 x4).f0).toList ((rd_impl_PlantFoe a0_1 x4).f1).toList))), (65, .bool (!(Op.bytesLess ((rd_impl_PlantFoe a0_1 x4).f0).toList ((rd_impl_PlantFoe a0_1 x4).f1).toList))), (66, .bp 0 0), (67, (sv_str a0_0)), (68, .bp 232 0), (69, .str ((rd_impl_PlantFoe a0_1 x4).f0)), (70, .bool t3452), (71, .bool (!t3452)), (72, .bool (!t3452)), (73, .bool (!t3452)), (74, .bp 0 0), (75, (sv_str a0_0)), (76, .bp 232 1), (77, .str ((rd_impl_PlantFoe a0_1 x4).f1)), (78, .bool t3453), (79, .bool (!t3453)), (80, .bool (!t3453)), (81, .bool (!t3453)), (82, .int .i64 x4), (83, .bool (decide (x4 > 0))), (84, .bool (decide (x4 > 0))), (85, .bp 0 1), (86, (sv_S_impl_PlantFoe a0_1)), (87, .int .i64 x4), (88, .int .i64 (wrap64 (x4 - 1))), (89, .rp [.str ((rd_impl_PlantFoe a0_1 (wrap64 (x4 - 1))).f0), .str ((rd_impl_PlantFoe a0_1 (wrap64 (x4 - 1))).f1)]), (90, .agg [.str ((rd_impl_PlantFoe a0_1 (wrap64 (x4 - 1))).f0), .str ((rd_impl_PlantFoe a0_1 (wrap64 (x4 - 1))).f1)]), (91, .agg [.str ((rd_impl_PlantFoe a0_1 x4).f0), .str ((rd_impl_PlantFoe a0_1 x4).f1)]), (92, .bool t3454), (93, .bool (!t3454)), (94, .bool (!t3454)), (95, .bool (!t3454))] [(0, .box [(sv_str a0_0), (sv_S_impl_PlantFoe a0_1), (sv_S_impl_PlantPlace a0_2), (sv_S_impl_PlantValve a0_3)]), (232, .box [.str ((rd_impl_PlantFoe a0_1 x4).f0), .str ((rd_impl_PlantFoe a0_1 x4).f1)])] rfl ⟨rfl, ⟨rfl, ⟨rfl, ⟨rfl, ⟨rfl, ⟨rfl, ⟨rfl, ⟨rfl, ⟨rfl, ⟨rfl, ⟨rfl, ⟨rfl, ⟨rfl, ⟨rfl, ⟨rfl, ⟨rfl, ⟨rfl, ⟨rfl, ⟨rfl, ⟨rfl, ⟨rfl, ⟨rfl, ⟨rfl, ⟨rfl, ⟨rfl, ⟨rfl, ⟨rfl, ⟨rfl, ⟨rfl, ⟨rfl, ⟨rfl, ⟨rfl, ⟨rfl, ⟨rfl, ⟨rfl, ⟨rfl, ⟨rfl, ⟨rfl, ⟨rfl, ⟨rfl, ⟨rfl, ⟨rfl, ⟨rfl, ⟨rfl, ⟨rfl, ⟨rfl, ⟨rfl, ⟨rfl, ⟨rfl, trivial⟩⟩⟩⟩⟩⟩⟩⟩⟩⟩⟩⟩⟩⟩⟩⟩⟩⟩⟩⟩⟩⟩⟩⟩⟩⟩⟩⟩⟩⟩⟩⟩⟩⟩⟩⟩⟩⟩⟩⟩⟩⟩⟩⟩⟩⟩⟩⟩⟩ ⟨rfl, ⟨rfl, trivial⟩⟩ ?_
  conv => whnf
  refine br_nt H (fun c H => ?_) (fun c H => ?_)
  conv => whnf
  exact ⟨(k, wrap64 (x4 + 1)), [], ⟨H, lt_⟩, lt_, (fits_of ⟨.inl ⟨rfl, rfl⟩, trivial⟩ trivial fi_ trivial rfl)⟩
  conv => whnf
  refine cut_ 544 [(1, .bp 0 0), (2, .bool false), (4, .int .i64 x4), (5, .bp 232 0), (48, .int .i64 x4), (49, .bp 0 1), (50, (sv_S_impl_PlantFoe a0_1)), (51, .int .i64 (a0_1.length : Int)), (52, .bool (decide (x4 < (a0_1.length : Int)))), (55, .bp 0 1), (56, (sv_S_impl_PlantFoe a0_1)), (57, .int .i64 x4), (58, .rp [.str ((rd_impl_PlantFoe a0_1 x4).f0), .str ((rd_impl_PlantFoe a0_1 x4).f1)]), (59, .agg [.str ((rd_impl_PlantFoe a0_1 x4).f0), .str ((rd_impl_PlantFoe a0_1 x4).f1)]), (60, .bp 232 0), (61, .str ((rd_impl_PlantFoe a0_1 x4).f0)), (62, .bp 232 1), (63, .str ((rd_impl_PlantFoe a0_1 x4).f1)), (64, .bool (!(Op.bytesLess ((rd_impl_PlantFoe a0_1 x4).f0).toList ((rd_impl_PlantFoe a0_1 x4).f1).toList))), (65, .bool (!(Op.bytesLess ((rd_impl_PlantFoe a0_1 x4).f0).toList ((rd_impl_PlantFoe a0_1 x4).f1).toList))), (66, .bp 0 0), (67, (sv_str a0_0)), (68, .bp 232 0), (69, .str ((rd_impl_PlantFoe a0_1 x4).f0)), (70, .bool t3452), (71, .bool (!t3452)), (72, .bool (!t3452)), (73, .bool (!t3452)), (74, .bp 0 0), (75, (sv_str a0_0)), (76, .bp 232 1), (77, .str ((rd_impl_PlantFoe a0_1 x4).f1)), (78, .bool t3453), (79, .bool (!t3453)), (80, .bool (!t3453)), (81, .bool (!t3453)), (82, .int .i64 x4), (83, .bool (decide (x4 > 0))), (84, .bool (decide (x4 > 0))), (85, .bp 0 1), (86, (sv_S_impl_PlantFoe a0_1)), (87, .int .i64 x4), (88, .int .i64 (wrap64 (x4 - 1))), (89, .rp [.str ((rd_impl_PlantFoe a0_1 (wrap64 (x4 - 1))).f0), .str ((rd_impl_PlantFoe a0_1 (wrap64 (x4 - 1))).f1)]), (90, .agg [.str ((rd_impl_PlantFoe a0_1 (wrap64 (x4 - 1))).f0), .str ((rd_impl_PlantFoe a0_1 (wrap64 (x4 - 1))).f1)]), (91, .agg [.str ((rd_impl_PlantFoe a0_1 x4).f0), .str ((rd_impl_PlantFoe a0_1 x4).f1)]), (92, .bool t3454), (93, .bool (!t3454)), (94, .bool (!t3454)), (95, .bool (!t3454))] [(0, .box [(sv_str a0_0), (sv_S_impl_PlantFoe a0_1), (sv_S_impl_PlantPlace a0_2), (sv_S_impl_PlantValve a0_3)]), (232, .box [.str ((rd_impl_PlantFoe a0_1 x4).f0), .str ((rd_impl_PlantFoe a0_1 x4).f1)])] rfl ⟨rfl, ⟨rfl, ⟨rfl, ⟨rfl, ⟨rfl, ⟨rfl, ⟨rfl, ⟨rfl, ⟨rfl, ⟨rfl, ⟨rfl, ⟨rfl, ⟨rfl, ⟨rfl, ⟨rfl, ⟨rfl, ⟨rfl, ⟨rfl, ⟨rfl, ⟨rfl, ⟨rfl, ⟨rfl, ⟨rfl, ⟨rfl, ⟨rfl, ⟨rfl, ⟨rfl, ⟨rfl, ⟨rfl, ⟨rfl, ⟨rfl, ⟨rfl, ⟨rfl, ⟨rfl, ⟨rfl, ⟨rfl, ⟨rfl, ⟨rfl, ⟨rfl, ⟨rfl, ⟨rfl, ⟨rfl, ⟨rfl, ⟨rfl, ⟨rfl, ⟨rfl, ⟨rfl, ⟨rfl, ⟨rfl, ⟨rfl, trivial⟩⟩⟩⟩⟩⟩⟩⟩⟩⟩⟩⟩⟩⟩⟩⟩⟩⟩⟩⟩⟩⟩⟩⟩⟩⟩⟩⟩⟩⟩⟩⟩⟩⟩⟩⟩⟩⟩⟩⟩⟩⟩⟩⟩⟩⟩⟩⟩⟩⟩ ⟨rfl, ⟨rfl, trivial⟩⟩ ?_
  conv => whnf
  injection H with H; subst H
  exact ret_fz [] (rtA_eq rfl)
  conv => whnf
  refine Br.f ff_ ?_
  conv => whnf
  refine Br.f ff_ ?_
  conv => whnf
  refine Br.f ff_ ?_
  conv => whnf
  refine Br.f ff_ ?_
  conv => whnf
  refine Br.f ff_ ?_
  conv => whnf
  refine Br.f ff_ ?_
  conv => whnf
  refine Br.f ff_ ?_
  conv => whnf
  refine Br.f ff_ ?_
  conv => whnf
  refine Br.f ff_ ?_
  conv => whnf
  refine Br.f ff_ ?_
  conv => whnf
  refine Br.f ff_ ?_
  conv => whnf
  refine cut_ 536 [(1, .bp 0 0), (4, .int .i64 x4), (5, .bp 232 0), (48, .int .i64 x4), (49, .bp 0 1), (50, (sv_S_impl_PlantFoe a0_1)), (51, .int .i64 (a0_1.length : Int)), (52, .bool (decide (x4 < (a0_1.length : Int)))), (55, .bp 0 1), (56, (sv_S_impl_PlantFoe a0_1)), (57, .int .i64 x4), (58, .rp [.str ((rd_impl_PlantFoe a0_1 x4).f0), .str ((rd_impl_PlantFoe a0_1 x4).f1)]), (59, .agg [.str ((rd_impl_PlantFoe a0_1 x4).f0), .str ((rd_impl_PlantFoe a0_1 x4).f1)]), (60, .bp 232 0), (61, .str ((rd_impl_PlantFoe a0_1 x4).f0)), (62, .bp 232 1), (63, .str ((rd_impl_PlantFoe a0_1 x4).f1)), (64, .bool (!(Op.bytesLess ((rd_impl_PlantFoe a0_1 x4).f0).toList ((rd_impl_PlantFoe a0_1 x4).f1).toList))), (65, .bool (!(Op.bytesLess ((rd_impl_PlantFoe a0_1 x4).f0).toList ((rd_impl_PlantFoe a0_1 x4).f1).toList))), (66, .bp 0 0), (67, (sv_str a0_0)), (68, .bp 232 0), (69, .str ((rd_impl_PlantFoe a0_1 x4).f0)), (70, .bool t3452), (71, .bool (!t3452)), (72, .bool (!t3452)), (73, .bool (!t3452)), (74, .bp 0 0), (75, (sv_str a0_0)), (76, .bp 232 1), (77, .str ((rd_impl_PlantFoe a0_1 x4).f1)), (78, .bool t3453), (79, .bool (!t3453)), (80, .bool (!t3453)), (81, .bool (!t3453)), (82, .int .i64 x4), (83, .bool (decide (x4 > 0))), (84, .bool (decide (x4 > 0))), (94, .bool false), (95, .bool false)] [(0, .box [(sv_str a0_0), (sv_S_impl_PlantFoe a0_1), (sv_S_impl_PlantPlace a0_2), (sv_S_impl_PlantValve a0_3)]), (232, .box [.str ((rd_impl_PlantFoe a0_1 x4).f0), .str ((rd_impl_PlantFoe a0_1 x4).f1)])] rfl ⟨rfl, ⟨rfl, ⟨rfl, ⟨rfl, ⟨rfl, ⟨rfl, ⟨rfl, ⟨rfl, ⟨rfl, ⟨rfl, ⟨rfl, ⟨rfl, ⟨rfl, ⟨rfl, ⟨rfl, ⟨rfl, ⟨rfl, ⟨rfl, ⟨rfl, ⟨rfl, ⟨rfl, ⟨rfl, ⟨rfl, ⟨rfl, ⟨rfl, ⟨rfl, ⟨rfl, ⟨rfl, ⟨rfl, ⟨rfl, ⟨rfl, ⟨rfl, ⟨rfl, ⟨rfl, ⟨rfl, ⟨rfl, ⟨rfl, ⟨rfl, ⟨rfl, ⟨rfl, trivial⟩⟩⟩⟩⟩⟩⟩⟩⟩⟩⟩⟩⟩⟩⟩⟩⟩⟩⟩⟩⟩⟩⟩⟩⟩⟩⟩⟩⟩⟩⟩⟩⟩⟩⟩⟩⟩⟩⟩⟩ ⟨rfl, ⟨rfl, trivial⟩⟩ ?_
  conv => whnf
  refine Br.f rfl ?_
  conv => whnf
  exact ⟨(k, wrap64 (x4 + 1)), [], ⟨H, lt_⟩, lt_, (fits_of ⟨.inl ⟨rfl, rfl⟩, trivial⟩ trivial fi_ trivial rfl)⟩
  conv => whnf
  refine Br.t ft_ ?_
  conv => whnf
  refine Br.t ft_ ?_
  conv => whnf
  refine Br.t ft_ ?_
  conv => whnf
  refine Br.t ft_ ?_
  conv => whnf
  refine cut_ 536 [(1, .bp 0 0), (4, .int .i64 x4), (5, .bp 232 0), (48, .int .i64 x4), (49, .bp 0 1), (50, (sv_S_impl_PlantFoe a0_1)), (51, .int .i64 (a0_1.length : Int)), (52, .bool (decide (x4 < (a0_1.length : Int)))), (55, .bp 0 1), (56, (sv_S_impl_PlantFoe a0_1)), (57, .int .i64 x4), (58, .rp [.str ((rd_impl_PlantFoe a0_1 x4).f0), .str ((rd_impl_PlantFoe a0_1 x4).f1)]), (59, .agg [.str ((rd_impl_PlantFoe a0_1 x4).f0), .str ((rd_impl_PlantFoe a0_1 x4).f1)]), (60, .bp 232 0), (61, .str ((rd_impl_PlantFoe a0_1 x4).f0)), (62, .bp 232 1), (63, .str ((rd_impl_PlantFoe a0_1 x4).f1)), (64, .bool (!(Op.bytesLess ((rd_impl_PlantFoe a0_1 x4).f0).toList ((rd_impl_PlantFoe a0_1 x4).f1).toList))), (65, .bool (!(Op.bytesLess ((rd_impl_PlantFoe a0_1 x4).f0).toList ((rd_impl_PlantFoe a0_1 x4).f1).toList))), (66, .bp 0 0), (67, (sv_str a0_0)), (68, .bp 232 0), (69, .str ((rd_impl_PlantFoe a0_1 x4).f0)), (70, .bool t3452), (71, .bool (!t3452)), (72, .bool (!t3452)), (73, .bool (!t3452)), (74, .bp 0 0), (75, (sv_str a0_0)), (76, .bp 232 1), (77, .str ((rd_impl_PlantFoe a0_1 x4).f1)), (78, .bool t3453), (79, .bool (!t3453)), (80, .bool (!t3453)), (81, .bool (!t3453)), (95, .bool true)] [(0, .box [(sv_str a0_0), (sv_S_impl_PlantFoe a0_1), (sv_S_impl_PlantPlace a0_2), (sv_S_impl_PlantValve a0_3)]), (232, .box [.str ((rd_impl_PlantFoe a0_1 x4).f0), .str ((rd_impl_PlantFoe a0_1 x4).f1)])] rfl ⟨rfl, ⟨rfl, ⟨rfl, ⟨rfl, ⟨rfl, ⟨rfl, ⟨rfl, ⟨rfl, ⟨rfl, ⟨rfl, ⟨rfl, ⟨rfl, ⟨rfl, ⟨rfl, ⟨rfl, ⟨rfl, ⟨rfl, ⟨rfl, ⟨rfl, ⟨rfl, ⟨rfl, ⟨rfl, ⟨rfl, ⟨rfl, ⟨rfl, ⟨rfl, ⟨rfl, ⟨rfl, ⟨rfl, ⟨rfl, ⟨rfl, ⟨rfl, ⟨rfl, ⟨rfl, ⟨rfl, ⟨rfl, trivial⟩⟩⟩⟩⟩⟩⟩⟩⟩⟩⟩⟩⟩⟩⟩⟩⟩⟩⟩⟩⟩⟩⟩⟩⟩⟩⟩⟩⟩⟩⟩⟩⟩⟩⟩⟩ ⟨rfl, ⟨rfl, trivial⟩⟩ ?_
  conv => whnf
  refine Br.t rfl ?_
  conv => whnf
  refine cut_ 544 [(1, .bp 0 0), (2, .bool false), (4, .int .i64 x4), (5, .bp 232 0), (48, .int .i64 x4), (49, .bp 0 1), (50, (sv_S_impl_PlantFoe a0_1)), (51, .int .i64 (a0_1.length : Int)), (52, .bool (decide (x4 < (a0_1.length : Int)))), (55, .bp 0 1), (56, (sv_S_impl_PlantFoe a0_1)), (57, .int .i64 x4), (58, .rp [.str ((rd_impl_PlantFoe a0_1 x4).f0), .str ((rd_impl_PlantFoe a0_1 x4).f1)]), (59, .agg [.str ((rd_impl_PlantFoe a0_1 x4).f0), .str ((rd_impl_PlantFoe a0_1 x4).f1)]), (60, .bp 232 0), (61, .str ((rd_impl_PlantFoe a0_1 x4).f0)), (62, .bp 232 1), (63, .str ((rd_impl_PlantFoe a0_1 x4).f1)), (64, .bool (!(Op.bytesLess ((rd_impl_PlantFoe a0_1 x4).f0).toList ((rd_impl_PlantFoe a0_1 x4).f1).toList))), (65, .bool (!(Op.bytesLess ((rd_impl_PlantFoe a0_1 x4).f0).toList ((rd_impl_PlantFoe a0_1 x4).f1).toList))), (66, .bp 0 0), (67, (sv_str a0_0)), (68, .bp 232 0), (69, .str ((rd_impl_PlantFoe a0_1 x4).f0)), (70, .bool t3452), (71, .bool (!t3452)), (72, .bool (!t3452)), (73, .bool (!t3452)), (74, .bp 0 0), (75, (sv_str a0_0)), (76, .bp 232 1), (77, .str ((rd_impl_PlantFoe a0_1 x4).f1)), (78, .bool t3453), (79, .bool (!t3453)), (80, .bool (!t3453)), (81, .bool (!t3453)), (95, .bool true)] [(0, .box [(sv_str a0_0), (sv_S_impl_PlantFoe a0_1), (sv_S_impl_PlantPlace a0_2), (sv_S_impl_PlantValve a0_3)]), (232, .box [.str ((rd_impl_PlantFoe a0_1 x4).f0), .str ((rd_impl_PlantFoe a0_1 x4).f1)])] rfl ⟨rfl, ⟨rfl, ⟨rfl, ⟨rfl, ⟨rfl, ⟨rfl, ⟨rfl, ⟨rfl, ⟨rfl, ⟨rfl, ⟨rfl, ⟨rfl, ⟨rfl, ⟨rfl, ⟨rfl, ⟨rfl, ⟨rfl, ⟨rfl, ⟨rfl, ⟨rfl, ⟨rfl, ⟨rfl, ⟨rfl, ⟨rfl, ⟨rfl, ⟨rfl, ⟨rfl, ⟨rfl, ⟨rfl, ⟨rfl, ⟨rfl, ⟨rfl, ⟨rfl, ⟨rfl, ⟨rfl, ⟨rfl, ⟨rfl, trivial⟩⟩⟩⟩⟩⟩⟩⟩⟩⟩⟩⟩⟩⟩⟩⟩⟩⟩⟩⟩⟩⟩⟩⟩⟩⟩⟩⟩⟩⟩⟩⟩⟩⟩⟩⟩⟩ ⟨rfl, ⟨rfl, trivial⟩⟩ ?_
  conv => whnf
  injection H with H; subst H
  exact ret_fz [] (rtA_eq rfl)
  conv => whnf
  refine Br.t ft_ ?_
  conv => whnf
  refine Br.t ft_ ?_
  conv => whnf
  refine Br.t ft_ ?_
  conv => whnf
  refine Br.t ft_ ?_
  conv => whnf
  refine Br.t ft_ ?_
  conv => whnf
  refine Br.t ft_ ?_
  conv => whnf
  refine Br.t rfl ?_
  conv => whnf
  refine Br.t rfl ?_
  conv => whnf
  refine Br.t rfl ?_
  conv => whnf
  refine Br.t rfl ?_
  conv => whnf
  refine Br.t rfl ?_
  conv => whnf
  refine cut_ 536 [(1, .bp 0 0), (4, .int .i64 x4), (5, .bp 232 0), (48, .int .i64 x4), (49, .bp 0 1), (50, (sv_S_impl_PlantFoe a0_1)), (51, .int .i64 (a0_1.length : Int)), (52, .bool (decide (x4 < (a0_1.length : Int)))), (55, .bp 0 1), (56, (sv_S_impl_PlantFoe a0_1)), (57, .int .i64 x4), (58, .rp [.str ((rd_impl_PlantFoe a0_1 x4).f0), .str ((rd_impl_PlantFoe a0_1 x4).f1)]), (59, .agg [.str ((rd_impl_PlantFoe a0_1 x4).f0), .str ((rd_impl_PlantFoe a0_1 x4).f1)]), (60, .bp 232 0), (61, .str ((rd_impl_PlantFoe a0_1 x4).f0)), (62, .bp 232 1), (63, .str ((rd_impl_PlantFoe a0_1 x4).f1)), (64, .bool (!(Op.bytesLess ((rd_impl_PlantFoe a0_1 x4).f0).toList ((rd_impl_PlantFoe a0_1 x4).f1).toList))), (65, .bool (!(Op.bytesLess ((rd_impl_PlantFoe a0_1 x4).f0).toList ((rd_impl_PlantFoe a0_1 x4).f1).toList))), (66, .bp 0 0), (67, (sv_str a0_0)), (68, .bp 232 0), (69, .str ((rd_impl_PlantFoe a0_1 x4).f0)), (70, .bool t3452), (71, .bool (!t3452)), (72, .bool (!t3452)), (73, .bool (!t3452)), (80, .bool true), (81, .bool true), (95, .bool true)] [(0, .box [(sv_str a0_0), (sv_S_impl_PlantFoe a0_1), (sv_S_impl_PlantPlace a0_2), (sv_S_impl_PlantValve a0_3)]), (232, .box [.str ((rd_impl_PlantFoe a0_1 x4).f0), .str ((rd_impl_PlantFoe a0_1 x4).f1)])] rfl ⟨rfl, ⟨rfl, ⟨rfl, ⟨rfl, ⟨rfl, ⟨rfl, ⟨rfl, ⟨rfl, ⟨rfl, ⟨rfl, ⟨rfl, ⟨rfl, ⟨rfl, ⟨rfl, ⟨rfl, ⟨rfl, ⟨rfl, ⟨rfl, ⟨rfl, ⟨rfl, ⟨rfl, ⟨rfl, ⟨rfl, ⟨rfl, ⟨rfl, ⟨rfl, ⟨rfl, ⟨rfl, ⟨rfl, ⟨rfl, trivial⟩⟩⟩⟩⟩⟩⟩⟩⟩⟩⟩⟩⟩⟩⟩⟩⟩⟩⟩⟩⟩⟩⟩⟩⟩⟩⟩⟩⟩⟩ ⟨rfl, ⟨rfl, trivial⟩⟩ ?_
  conv => whnf
  refine Br.t rfl ?_
  conv => whnf
  refine cut_ 544 [(1, .bp 0 0), (2, .bool false), (4, .int .i64 x4), (5, .bp 232 0), (48, .int .i64 x4), (49, .bp 0 1), (50, (sv_S_impl_PlantFoe a0_1)), (51, .int .i64 (a0_1.length : Int)), (52, .bool (decide (x4 < (a0_1.length : Int)))), (55, .bp 0 1), (56, (sv_S_impl_PlantFoe a0_1)), (57, .int .i64 x4), (58, .rp [.str ((rd_impl_PlantFoe a0_1 x4).f0), .str ((rd_impl_PlantFoe a0_1 x4).f1)]), (59, .agg [.str ((rd_impl_PlantFoe a0_1 x4).f0), .str ((rd_impl_PlantFoe a0_1 x4).f1)]), (60, .bp 232 0), (61, .str ((rd_impl_PlantFoe a0_1 x4).f0)), (62, .bp 232 1), (63, .str ((rd_impl_PlantFoe a0_1 x4).f1)), (64, .bool (!(Op.bytesLess ((rd_impl_PlantFoe a0_1 x4).f0).toList ((rd_impl_PlantFoe a0_1 x4).f1).toList))), (65, .bool (!(Op.bytesLess ((rd_impl_PlantFoe a0_1 x4).f0).toList ((rd_impl_PlantFoe a0_1 x4).f1).toList))), (66, .bp 0 0), (67, (sv_str a0_0)), (68, .bp 232 0), (69, .str ((rd_impl_PlantFoe a0_1 x4).f0)), (70, .bool t3452), (71, .bool (!t3452)), (72, .bool (!t3452)), (73, .bool (!t3452)), (80, .bool true), (81, .bool true), (95, .bool true)] [(0, .box [(sv_str a0_0), (sv_S_impl_PlantFoe a0_1), (sv_S_impl_PlantPlace a0_2), (sv_S_impl_PlantValve a0_3)]), (232, .box [.str ((rd_impl_PlantFoe a0_1 x4).f0), .str ((rd_impl_PlantFoe a0_1 x4).f1)])] rfl ⟨rfl, ⟨rfl, ⟨rfl, ⟨rfl, ⟨rfl, ⟨rfl, ⟨rfl, ⟨rfl, ⟨rfl, ⟨rfl, ⟨rfl, ⟨rfl, ⟨rfl, ⟨rfl, ⟨rfl, ⟨rfl, ⟨rfl, ⟨rfl, ⟨rfl, ⟨rfl, ⟨rfl, ⟨rfl, ⟨rfl, ⟨rfl, ⟨rfl, ⟨rfl, ⟨rfl, ⟨rfl, ⟨rfl, ⟨rfl, ⟨rfl, trivial⟩⟩⟩⟩⟩⟩⟩⟩⟩⟩⟩⟩⟩⟩⟩⟩⟩⟩⟩⟩⟩⟩⟩⟩⟩⟩⟩⟩⟩⟩⟩ ⟨rfl, ⟨rfl, trivial⟩⟩ ?_
  conv => whnf
  injection H with H; subst H
  exact ret_fz [] (rtA_eq rfl)
  conv => whnf
  refine Br.t ft_ ?_
  conv => whnf
  refine Br.t ft_ ?_
  conv => whnf
  refine Br.t ft_ ?_
  conv => whnf
  refine Br.t ft_ ?_
  conv => whnf
  refine Br.t ft_ ?_
  conv => whnf
  refine Br.t ft_ ?_
  conv => whnf
  refine Br.t rfl ?_
  conv => whnf
  refine Br.t rfl ?_
  conv => whnf
  refine Br.t rfl ?_
  conv => whnf
  refine Br.t rfl ?_
  conv => whnf
  refine Br.t rfl ?_
  conv => whnf
  refine Br.t rfl ?_
  conv => whnf
  refine Br.t rfl ?_
  conv => whnf
  refine Br.t rfl ?_
  conv => whnf
  refine Br.t rfl ?_
  conv => whnf
  refine Br.t rfl ?_
  conv => whnf
  refine Br.t rfl ?_
  conv => whnf
  refine Br.t rfl ?_
  conv => whnf
  refine cut_ 536 [(1, .bp 0 0), (4, .int .i64 x4), (5, .bp 232 0), (48, .int .i64 x4), (49, .bp 0 1), (50, (sv_S_impl_PlantFoe a0_1)), (51, .int .i64 (a0_1.length : Int)), (52, .bool (decide (x4 < (a0_1.length : Int)))), (55, .bp 0 1), (56, (sv_S_impl_PlantFoe a0_1)), (57, .int .i64 x4), (58, .rp [.str ((rd_impl_PlantFoe a0_1 x4).f0), .str ((rd_impl_PlantFoe a0_1 x4).f1)]), (59, .agg [.str ((rd_impl_PlantFoe a0_1 x4).f0), .str ((rd_impl_PlantFoe a0_1 x4).f1)]), (60, .bp 232 0), (61, .str ((rd_impl_PlantFoe a0_1 x4).f0)), (62, .bp 232 1), (63, .str ((rd_impl_PlantFoe a0_1 x4).f1)), (64, .bool (!(Op.bytesLess ((rd_impl_PlantFoe a0_1 x4).f0).toList ((rd_impl_PlantFoe a0_1 x4).f1).toList))), (65, .bool (!(Op.bytesLess ((rd_impl_PlantFoe a0_1 x4).f0).toList ((rd_impl_PlantFoe a0_1 x4).f1).toList))), (72, .bool true), (73, .bool true), (80, .bool true), (81, .bool true), (95, .bool true)] [(0, .box [(sv_str a0_0), (sv_S_impl_PlantFoe a0_1), (sv_S_impl_PlantPlace a0_2), (sv_S_impl_PlantValve a0_3)]), (232, .box [.str ((rd_impl_PlantFoe a0_1 x4).f0), .str ((rd_impl_PlantFoe a0_1 x4).f1)])] rfl ⟨rfl, ⟨rfl, ⟨rfl, ⟨rfl, ⟨rfl, ⟨rfl, ⟨rfl, ⟨rfl, ⟨rfl, ⟨rfl, ⟨rfl, ⟨rfl, ⟨rfl, ⟨rfl, ⟨rfl, ⟨rfl, ⟨rfl, ⟨rfl, ⟨rfl, ⟨rfl, ⟨rfl, ⟨rfl, ⟨rfl, ⟨rfl, trivial⟩⟩⟩⟩⟩⟩⟩⟩⟩⟩⟩⟩⟩⟩⟩⟩⟩⟩⟩⟩⟩⟩⟩⟩ ⟨rfl, ⟨rfl, trivial⟩⟩ ?_
  conv => whnf
  refine Br.t rfl ?_
  conv => whnf
  refine cut_ 544 [(1, .bp 0 0), (2, .bool false), (4, .int .i64 x4), (5, .bp 232 0), (48, .int .i64 x4), (49, .bp 0 1), (50, (sv_S_impl_PlantFoe a0_1)), (51, .int .i64 (a0_1.length : Int)), (52, .bool (decide (x4 < (a0_1.length : Int)))), (55, .bp 0 1), (56, (sv_S_impl_PlantFoe a0_1)), (57, .int .i64 x4), (58, .rp [.str ((rd_impl_PlantFoe a0_1 x4).f0), .str ((rd_impl_PlantFoe a0_1 x4).f1)]), (59, .agg [.str ((rd_impl_PlantFoe a0_1 x4).f0), .str ((rd_impl_PlantFoe a0_1 x4).f1)]), (60, .bp 232 0), (61, .str ((rd_impl_PlantFoe a0_1 x4).f0)), (62, .bp 232 1), (63, .str ((rd_impl_PlantFoe a0_1 x4).f1)), (64, .bool (!(Op.bytesLess ((rd_impl_PlantFoe a0_1 x4).f0).toList ((rd_impl_PlantFoe a0_1 x4).f1).toList))), (65, .bool (!(Op.bytesLess ((rd_impl_PlantFoe a0_1 x4).f0).toList ((rd_impl_PlantFoe a0_1 x4).f1).toList))), (72, .bool true), (73, .bool true), (80, .bool true), (81, .bool true), (95, .bool true)] [(0, .box [(sv_str a0_0), (sv_S_impl_PlantFoe a0_1), (sv_S_impl_PlantPlace a0_2), (sv_S_impl_PlantValve a0_3)]), (232, .box [.str ((rd_impl_PlantFoe a0_1 x4).f0), .str ((rd_impl_PlantFoe a0_1 x4).f1)])] rfl ⟨rfl, ⟨rfl, ⟨rfl, ⟨rfl, ⟨rfl, ⟨rfl, ⟨rfl, ⟨rfl, ⟨rfl, ⟨rfl, ⟨rfl, ⟨rfl, ⟨rfl, ⟨rfl, ⟨rfl, ⟨rfl, ⟨rfl, ⟨rfl, ⟨rfl, ⟨rfl, ⟨rfl, ⟨rfl, ⟨rfl, ⟨rfl, ⟨rfl, trivial⟩⟩⟩⟩⟩⟩⟩⟩⟩⟩⟩⟩⟩⟩⟩⟩⟩⟩⟩⟩⟩⟩⟩⟩⟩ ⟨rfl, ⟨rfl, trivial⟩⟩ ?_
  conv => whnf
  injection H with H; subst H
  exact ret_fz [] (rtA_eq rfl)
  conv => whnf
  injection H with H; subst H
  exact ret_fz [] (rtA_eq rfl)
theorem spec_l2PlacesOk.l0_lp {F : (Exit → St → Prop) → St → Prop} {hv : List Tmp} {Q : Exit → St → Prop} {σ : St} {r : Bool} {k : Nat} {a0_2 : List S_impl_PlantPlace} {x3 : Int} (H : spec_l2PlacesOk.l0 k a0_2 x3 = some r) (rn : List (Option Nat)) (h1 : Fits σ σ [] [(3, .int .i64 x3)] [] [] rn)
    (h2 : ∀ (k0 : Nat) (x3 : Int), k0 < k + 1 → spec_l2PlacesOk.l0 k0 a0_2 x3 = some r → headN σ hv [] [(3, .int .i64 x3)] [] [] (F (fun e σ' => match e with | .normal => ∃ (y : Nat × Int) (rn : List (Option Nat)), (spec_l2PlacesOk.l0 y.1 a0_2 y.2 = some r ∧ y.1 < k + 1) ∧ y.1 < k0 ∧ Fits σ σ' [] [(3, .int .i64 y.2)] [] [] rn | e => Q e σ'))) : Lp F hv Q σ := by
  unfold Lp
  refine ⟨Nat × Int, fun x => spec_l2PlacesOk.l0 x.1 a0_2 x.2 = some r ∧ x.1 < k + 1, fun x => x.1, [], fun x => [(3, .int .i64 x.2)], fun x => [], fun x => [], ⟨(k, x3), rn, ⟨H, Nat.lt_succ_self _⟩, h1⟩, ?_⟩
  rintro ⟨k, x3⟩ ⟨H, hk⟩
  exact h2 k x3 hk H
theorem spec_l2PlacesOk.ac {k : Nat} {a0_0 : List ByteArray} {a0_1 : List S_impl_PlantFoe} {a0_2 : List S_impl_PlantPlace} {a0_3 : List S_impl_PlantValve} {r : Bool} (H : spec_l2PlacesOk.f k a0_0 a0_1 a0_2 a0_3 = some r) : ACalls Try.prog G 67 [] [.agg [(sv_str a0_0), (sv_S_impl_PlantFoe a0_1), (sv_S_impl_PlantPlace a0_2), (sv_S_impl_PlantValve a0_3)]] [] (.bool r) := by
  refine acalls_of tok hP Try.func67 rfl (by kernel_rfl) [.tmp 2] rfl (by kernel_rfl) (Nat.le_of_ble_eq_true rfl) (.l .n (.l .n (.l (.l .n (.l (.c .n .n) (.l (.l .n (.c .n (.l (.c .n .n) .n))) .n))) .n))) ?_
  unfold spec_l2PlacesOk.f at H
  conv => whnf
  refine br_d H (fun c H => ?_) (fun c H => ?_)
  conv => whnf
  injection H with H; subst H
  exact ret_fz [] (rtA_eq rfl)
  conv => whnf
  refine spec_l2PlacesOk.l0_lp (a0_2 := a0_2) (k := k) H [] (fits_of ⟨.inl ⟨rfl, rfl⟩, trivial⟩ trivial fi_ trivial rfl) ?_
  intro k x3 hk H; rcases k with _ | k; exact none_elim H; rw [spec_l2PlacesOk.l0] at H; conv => whnf
  refine cut_ 96 [(1, .bp 0 0), (3, .int .i64 x3), (9, .int .i64 x3), (10, .bp 0 2), (11, (sv_S_impl_PlantPlace a0_2)), (12, .int .i64 (a0_2.length : Int)), (13, .bool (decide (x3 < (a0_2.length : Int))))] [(0, .box [(sv_str a0_0), (sv_S_impl_PlantFoe a0_1), (sv_S_impl_PlantPlace a0_2), (sv_S_impl_PlantValve a0_3)])] rfl ⟨rfl, ⟨rfl, ⟨rfl, ⟨rfl, ⟨rfl, ⟨rfl, ⟨rfl, trivial⟩⟩⟩⟩⟩⟩⟩ ⟨rfl, trivial⟩ ?_
  conv => whnf
  refine br_d H (fun c H => ?_) (fun c H => ?_)
  conv => whnf
  refine nd_ H (fun c H => ?_)
  conv => whnf
  refine Nd.mk nf_ ?_
  conv => whnf
  refine El.mk (rdm_en_S_impl_PlantPlace _ _ nf_ nf_) ?_
  conv => whnf
  revert H; refine bind_elim (fun t3470 A H => ?_)
  refine call_mk (spec_l2NameOk.ac A) (avAL_cons (avA_shut' rfl) (avAL_nil)) (Or.inl rfl) rfl rfl (Nat.le_of_ble_eq_true rfl) ?_
  conv => whnf
  refine br_nt H (fun c H => ?_) (fun c H => ?_)
  conv => whnf
  refine Br.f ff_ ?_
  conv => whnf
  refine Br.f ff_ ?_
  conv => whnf
  refine br_d H (fun c H => ?_) (fun c H => ?_)
  conv => whnf
  refine Br.t ft_ ?_
  conv => whnf
  refine Br.t ft_ ?_
  conv => whnf
  refine Br.t ft_ ?_
  conv => whnf
  refine Br.t ft_ ?_
  conv => whnf
  refine nd_ H (fun c H => ?_)
  conv => whnf
  refine nd_ H (fun c H => ?_)
  conv => whnf
  refine El.mk (rdm_en_S_impl_PlantPlace _ _ nf_ nf_) ?_
  conv => whnf
  refine Br.t ft_ ?_
  conv => whnf
  refine Br.t ft_ ?_
  conv => whnf
  refine Br.t ft_ ?_
  conv => whnf
  refine Br.t ft_ ?_
  conv => whnf
  refine Br.t ft_ ?_
  conv => whnf
  refine Br.f ff_ ?_
  conv => whnf
  refine Br.t ft_ ?_
  conv => whnf
  refine Br.f ff_ ?_
  conv => whnf
  refine br_nt H (fun c H => ?_) (fun c H => ?_)
  conv => whnf
  refine Br.f ff_ ?_
  conv => whnf
  refine Br.f ff_ ?_
  conv => whnf
  revert H; refine bind_elim (fun t3471 A H => ?_)
  refine call_mk (spec_l1In.ac A) (avAL_cons (avA_shut' rfl) (avAL_cons (avA_shut' rfl) (avAL_cons (avA_shut' rfl) (avAL_nil)))) (Or.inl rfl) rfl rfl (Nat.le_of_ble_eq_true rfl) ?_
  conv => whnf
  refine Br.f ff_ ?_
  conv => whnf
  refine Br.f ff_ ?_
  conv => whnf
  refine br_nt H (fun c H => ?_) (fun c H => ?_)
  conv => whnf
  refine Br.f ff_ ?_
  conv => whnf
  refine Br.f ff_ ?_
  conv => whnf
  revert H; refine bind_elim (fun t3472 A H => ?_)
  refine call_mk (spec_l2NameOk.ac A) (avAL_cons (avA_shut' rfl) (avAL_nil)) (Or.inl rfl) rfl rfl (Nat.le_of_ble_eq_true rfl) ?_
  conv => whnf
  refine Br.f ff_ ?_
  conv => whnf
  refine Br.f ff_ ?_
  conv => whnf
  refine cut_ 408 [(1, .bp 0 0), (3, .int .i64 x3), (4, .bp 136 0), (9, .int .i64 x3), (10, .bp 0 2), (11, (sv_S_impl_PlantPlace a0_2)), (12, .int .i64 (a0_2.length : Int)), (13, .bool (decide (x3 < (a0_2.length : Int)))), (16, .bp 0 2), (17, (sv_S_impl_PlantPlace a0_2)), (18, .int .i64 x3), (19, .rp [.str ((rd_impl_PlantPlace a0_2 x3).f0), .int .i64 ((rd_impl_PlantPlace a0_2 x3).f1), .str ((rd_impl_PlantPlace a0_2 x3).f2)]), (20, .agg [.str ((rd_impl_PlantPlace a0_2 x3).f0), .int .i64 ((rd_impl_PlantPlace a0_2 x3).f1), .str ((rd_impl_PlantPlace a0_2 x3).f2)]), (21, .bp 136 0), (22, .str ((rd_impl_PlantPlace a0_2 x3).f0)), (23, .bool t3470), (24, .bool (!t3470)), (25, .bool (!t3470)), (26, .int .i64 x3), (27, .bool (decide (x3 > 0))), (28, .bool (decide (x3 > 0))), (29, .bp 0 2), (30, (sv_S_impl_PlantPlace a0_2)), (31, .int .i64 x3), (32, .int .i64 (wrap64 (x3 - 1))), (33, .rp [.str ((rd_impl_PlantPlace a0_2 (wrap64 (x3 - 1))).f0), .int .i64 ((rd_impl_PlantPlace a0_2 (wrap64 (x3 - 1))).f1), .str ((rd_impl_PlantPlace a0_2 (wrap64 (x3 - 1))).f2)]), (34, .rp [.str ((rd_impl_PlantPlace a0_2 (wrap64 (x3 - 1))).f0), .int .i64 ((rd_impl_PlantPlace a0_2 (wrap64 (x3 - 1))).f1), .str ((rd_impl_PlantPlace a0_2 (wrap64 (x3 - 1))).f2)]), (35, .str ((rd_impl_PlantPlace a0_2 (wrap64 (x3 - 1))).f0)), (36, .bp 136 0), (37, .str ((rd_impl_PlantPlace a0_2 x3).f0)), (38, .bool (!(Op.bytesLess ((rd_impl_PlantPlace a0_2 (wrap64 (x3 - 1))).f0).toList ((rd_impl_PlantPlace a0_2 x3).f0).toList))), (39, .bool (!(Op.bytesLess ((rd_impl_PlantPlace a0_2 (wrap64 (x3 - 1))).f0).toList ((rd_impl_PlantPlace a0_2 x3).f0).toList))), (40, .bool (!(Op.bytesLess ((rd_impl_PlantPlace a0_2 (wrap64 (x3 - 1))).f0).toList ((rd_impl_PlantPlace a0_2 x3).f0).toList))), (41, .bool (!(Op.bytesLess ((rd_impl_PlantPlace a0_2 (wrap64 (x3 - 1))).f0).toList ((rd_impl_PlantPlace a0_2 x3).f0).toList))), (42, .bp 136 1), (43, .int .i64 ((rd_impl_PlantPlace a0_2 x3).f1)), (44, .bool t3471), (45, .bool (!t3471)), (46, .bool (!t3471)), (47, .bool (!t3471)), (48, .bp 136 2), (49, .str ((rd_impl_PlantPlace a0_2 x3).f2)), (50, .bool t3472), (51, .bool (!t3472)), (52, .bool (!t3472))] [(0, .box [(sv_str a0_0), (sv_S_impl_PlantFoe a0_1), (sv_S_impl_PlantPlace a0_2), (sv_S_impl_PlantValve a0_3)]), (136, .box [.str ((rd_impl_PlantPlace a0_2 x3).f0), .int .i64 ((rd_impl_PlantPlace a0_2 x3).f1), .str ((rd_impl_PlantPlace a0_2 x3).f2)])] rfl ⟨rfl, ⟨rfl, ⟨rfl, ⟨rfl, ⟨rfl, ⟨rfl, ⟨rfl, ⟨rfl, ⟨rfl, ⟨rfl, ⟨rfl, ⟨rfl, ⟨rfl, ⟨rfl, ⟨rfl, ⟨rfl, ⟨rfl, ⟨rfl, ⟨rfl, ⟨rfl, ⟨rfl, ⟨rfl, ⟨rfl, ⟨rfl, ⟨rfl, ⟨rfl, ⟨rfl, ⟨rfl, ⟨rfl, ⟨rfl, ⟨rfl, ⟨rfl, ⟨rfl, ⟨rfl, ⟨rfl, ⟨rfl, ⟨rfl, ⟨rfl, ⟨rfl, ⟨rfl, ⟨rfl, ⟨rfl, ⟨rfl, ⟨rfl, ⟨rfl, trivial⟩⟩⟩⟩⟩⟩⟩⟩⟩⟩⟩⟩⟩⟩⟩⟩⟩⟩⟩⟩⟩⟩⟩⟩⟩⟩⟩⟩⟩⟩⟩⟩⟩⟩⟩⟩⟩⟩⟩⟩⟩⟩⟩⟩⟩ ⟨rfl, ⟨rfl, trivial⟩⟩ ?_
  conv => whnf
  refine br_nt H (fun c H => ?_) (fun c H => ?_)
  conv => whnf
  exact ⟨(k, wrap64 (x3 + 1)), [], ⟨H, lt_⟩, lt_, (fits_of ⟨.inl ⟨rfl, rfl⟩, trivial⟩ trivial fi_ trivial rfl)⟩
  conv => whnf
  refine cut_ 416 [(1, .bp 0 0), (2, .bool false), (3, .int .i64 x3), (4, .bp 136 0), (9, .int .i64 x3), (10, .bp 0 2), (11, (sv_S_impl_PlantPlace a0_2)), (12, .int .i64 (a0_2.length : Int)), (13, .bool (decide (x3 < (a0_2.length : Int)))), (16, .bp 0 2), (17, (sv_S_impl_PlantPlace a0_2)), (18, .int .i64 x3), (19, .rp [.str ((rd_impl_PlantPlace a0_2 x3).f0), .int .i64 ((rd_impl_PlantPlace a0_2 x3).f1), .str ((rd_impl_PlantPlace a0_2 x3).f2)]), (20, .agg [.str ((rd_impl_PlantPlace a0_2 x3).f0), .int .i64 ((rd_impl_PlantPlace a0_2 x3).f1), .str ((rd_impl_PlantPlace a0_2 x3).f2)]), (21, .bp 136 0), (22, .str ((rd_impl_PlantPlace a0_2 x3).f0)), (23, .bool t3470), (24, .bool (!t3470)), (25, .bool (!t3470)), (26, .int .i64 x3), (27, .bool (decide (x3 > 0))), (28, .bool (decide (x3 > 0))), (29, .bp 0 2), (30, (sv_S_impl_PlantPlace a0_2)), (31, .int .i64 x3), (32, .int .i64 (wrap64 (x3 - 1))), (33, .rp [.str ((rd_impl_PlantPlace a0_2 (wrap64 (x3 - 1))).f0), .int .i64 ((rd_impl_PlantPlace a0_2 (wrap64 (x3 - 1))).f1), .str ((rd_impl_PlantPlace a0_2 (wrap64 (x3 - 1))).f2)]), (34, .rp [.str ((rd_impl_PlantPlace a0_2 (wrap64 (x3 - 1))).f0), .int .i64 ((rd_impl_PlantPlace a0_2 (wrap64 (x3 - 1))).f1), .str ((rd_impl_PlantPlace a0_2 (wrap64 (x3 - 1))).f2)]), (35, .str ((rd_impl_PlantPlace a0_2 (wrap64 (x3 - 1))).f0)), (36, .bp 136 0), (37, .str ((rd_impl_PlantPlace a0_2 x3).f0)), (38, .bool (!(Op.bytesLess ((rd_impl_PlantPlace a0_2 (wrap64 (x3 - 1))).f0).toList ((rd_impl_PlantPlace a0_2 x3).f0).toList))), (39, .bool (!(Op.bytesLess ((rd_impl_PlantPlace a0_2 (wrap64 (x3 - 1))).f0).toList ((rd_impl_PlantPlace a0_2 x3).f0).toList))), (40, .bool (!(Op.bytesLess ((rd_impl_PlantPlace a0_2 (wrap64 (x3 - 1))).f0).toList ((rd_impl_PlantPlace a0_2 x3).f0).toList))), (41, .bool (!(Op.bytesLess ((rd_impl_PlantPlace a0_2 (wrap64 (x3 - 1))).f0).toList ((rd_impl_PlantPlace a0_2 x3).f0).toList))), (42, .bp 136 1), (43, .int .i64 ((rd_impl_PlantPlace a0_2 x3).f1)), (44, .bool t3471), (45, .bool (!t3471)), (46, .bool (!t3471)), (47, .bool (!t3471)), (48, .bp 136 2), (49, .str ((rd_impl_PlantPlace a0_2 x3).f2)), (50, .bool t3472), (51, .bool (!t3472)), (52, .bool (!t3472))] [(0, .box [(sv_str a0_0), (sv_S_impl_PlantFoe a0_1), (sv_S_impl_PlantPlace a0_2), (sv_S_impl_PlantValve a0_3)]), (136, .box [.str ((rd_impl_PlantPlace a0_2 x3).f0), .int .i64 ((rd_impl_PlantPlace a0_2 x3).f1), .str ((rd_impl_PlantPlace a0_2 x3).f2)])] rfl ⟨rfl, ⟨rfl, ⟨rfl, ⟨rfl, ⟨rfl, ⟨rfl, ⟨rfl, ⟨rfl, ⟨rfl, ⟨rfl, ⟨rfl, ⟨rfl, ⟨rfl, ⟨rfl, ⟨rfl, ⟨rfl, ⟨rfl, ⟨rfl, ⟨rfl, ⟨rfl, ⟨rfl, ⟨rfl, ⟨rfl, ⟨rfl, ⟨rfl, ⟨rfl, ⟨rfl, ⟨rfl, ⟨rfl, ⟨rfl, ⟨rfl, ⟨rfl, ⟨rfl, ⟨rfl, ⟨rfl, ⟨rfl, ⟨rfl, ⟨rfl, ⟨rfl, ⟨rfl, ⟨rfl, ⟨rfl, ⟨rfl, ⟨rfl, ⟨rfl, ⟨rfl, trivial⟩⟩⟩⟩⟩⟩⟩⟩⟩⟩⟩⟩⟩⟩⟩⟩⟩⟩⟩⟩⟩⟩⟩⟩⟩⟩⟩⟩⟩⟩⟩⟩⟩⟩⟩⟩⟩⟩⟩⟩⟩⟩⟩⟩⟩⟩ ⟨rfl, ⟨rfl, trivial⟩⟩ ?_
  conv => whnf
  injection H with H; subst H
  exact ret_fz [] (rtA_eq rfl)
  conv => whnf
  refine Br.t ft_ ?_
  conv => whnf
  refine Br.t ft_ ?_
  conv => whnf
  refine Br.t ft_ ?_
  conv => whnf
  refine Br.t ft_ ?_
  conv => whnf
  refine cut_ 408 [(1, .bp 0 0), (3, .int .i64 x3), (4, .bp 136 0), (9, .int .i64 x3), (10, .bp 0 2), (11, (sv_S_impl_PlantPlace a0_2)), (12, .int .i64 (a0_2.length : Int)), (13, .bool (decide (x3 < (a0_2.length : Int)))), (16, .bp 0 2), (17, (sv_S_impl_PlantPlace a0_2)), (18, .int .i64 x3), (19, .rp [.str ((rd_impl_PlantPlace a0_2 x3).f0), .int .i64 ((rd_impl_PlantPlace a0_2 x3).f1), .str ((rd_impl_PlantPlace a0_2 x3).f2)]), (20, .agg [.str ((rd_impl_PlantPlace a0_2 x3).f0), .int .i64 ((rd_impl_PlantPlace a0_2 x3).f1), .str ((rd_impl_PlantPlace a0_2 x3).f2)]), (21, .bp 136 0), (22, .str ((rd_impl_PlantPlace a0_2 x3).f0)), (23, .bool t3470), (24, .bool (!t3470)), (25, .bool (!t3470)), (26, .int .i64 x3), (27, .bool (decide (x3 > 0))), (28, .bool (decide (x3 > 0))), (29, .bp 0 2), (30, (sv_S_impl_PlantPlace a0_2)), (31, .int .i64 x3), (32, .int .i64 (wrap64 (x3 - 1))), (33, .rp [.str ((rd_impl_PlantPlace a0_2 (wrap64 (x3 - 1))).f0), .int .i64 ((rd_impl_PlantPlace a0_2 (wrap64 (x3 - 1))).f1), .str ((rd_impl_PlantPlace a0_2 (wrap64 (x3 - 1))).f2)]), (34, .rp [.str ((rd_impl_PlantPlace a0_2 (wrap64 (x3 - 1))).f0), .int .i64 ((rd_impl_PlantPlace a0_2 (wrap64 (x3 - 1))).f1), .str ((rd_impl_PlantPlace a0_2 (wrap64 (x3 - 1))).f2)]), (35, .str ((rd_impl_PlantPlace a0_2 (wrap64 (x3 - 1))).f0)), (36, .bp 136 0), (37, .str ((rd_impl_PlantPlace a0_2 x3).f0)), (38, .bool (!(Op.bytesLess ((rd_impl_PlantPlace a0_2 (wrap64 (x3 - 1))).f0).toList ((rd_impl_PlantPlace a0_2 x3).f0).toList))), (39, .bool (!(Op.bytesLess ((rd_impl_PlantPlace a0_2 (wrap64 (x3 - 1))).f0).toList ((rd_impl_PlantPlace a0_2 x3).f0).toList))), (40, .bool (!(Op.bytesLess ((rd_impl_PlantPlace a0_2 (wrap64 (x3 - 1))).f0).toList ((rd_impl_PlantPlace a0_2 x3).f0).toList))), (41, .bool (!(Op.bytesLess ((rd_impl_PlantPlace a0_2 (wrap64 (x3 - 1))).f0).toList ((rd_impl_PlantPlace a0_2 x3).f0).toList))), (42, .bp 136 1), (43, .int .i64 ((rd_impl_PlantPlace a0_2 x3).f1)), (44, .bool t3471), (45, .bool (!t3471)), (46, .bool (!t3471)), (47, .bool (!t3471)), (52, .bool true)] [(0, .box [(sv_str a0_0), (sv_S_impl_PlantFoe a0_1), (sv_S_impl_PlantPlace a0_2), (sv_S_impl_PlantValve a0_3)]), (136, .box [.str ((rd_impl_PlantPlace a0_2 x3).f0), .int .i64 ((rd_impl_PlantPlace a0_2 x3).f1), .str ((rd_impl_PlantPlace a0_2 x3).f2)])] rfl ⟨rfl, ⟨rfl, ⟨rfl, ⟨rfl, ⟨rfl, ⟨rfl, ⟨rfl, ⟨rfl, ⟨rfl, ⟨rfl, ⟨rfl, ⟨rfl, ⟨rfl, ⟨rfl, ⟨rfl, ⟨rfl, ⟨rfl, ⟨rfl, ⟨rfl, ⟨rfl, ⟨rfl, ⟨rfl, ⟨rfl, ⟨rfl, ⟨rfl, ⟨rfl, ⟨rfl, ⟨rfl, ⟨rfl, ⟨rfl, ⟨rfl, ⟨rfl, ⟨rfl, ⟨rfl, ⟨rfl, ⟨rfl, ⟨rfl, ⟨rfl, ⟨rfl, ⟨rfl, ⟨rfl, trivial⟩⟩⟩⟩⟩⟩⟩⟩⟩⟩⟩⟩⟩⟩⟩⟩⟩⟩⟩⟩⟩⟩⟩⟩⟩⟩⟩⟩⟩⟩⟩⟩⟩⟩⟩⟩⟩⟩⟩⟩⟩ ⟨rfl, ⟨rfl, trivial⟩⟩ ?_
  conv => whnf
  refine Br.t rfl ?_
  conv => whnf
  refine cut_ 416 [(1, .bp 0 0), (2, .bool false), (3, .int .i64 x3), (4, .bp 136 0), (9, .int .i64 x3), (10, .bp 0 2), (11, (sv_S_impl_PlantPlace a0_2)), (12, .int .i64 (a0_2.length : Int)), (13, .bool (decide (x3 < (a0_2.length : Int)))), (16, .bp 0 2), (17, (sv_S_impl_PlantPlace a0_2)), (18, .int .i64 x3), (19, .rp [.str ((rd_impl_PlantPlace a0_2 x3).f0), .int .i64 ((rd_impl_PlantPlace a0_2 x3).f1), .str ((rd_impl_PlantPlace a0_2 x3).f2)]), (20, .agg [.str ((rd_impl_PlantPlace a0_2 x3).f0), .int .i64 ((rd_impl_PlantPlace a0_2 x3).f1), .str ((rd_impl_PlantPlace a0_2 x3).f2)]), (21, .bp 136 0), (22, .str ((rd_impl_PlantPlace a0_2 x3).f0)), (23, .bool t3470), (24, .bool (!t3470)), (25, .bool (!t3470)), (26, .int .i64 x3), (27, .bool (decide (x3 > 0))), (28, .bool (decide (x3 > 0))), (29, .bp 0 2), (30, (sv_S_impl_PlantPlace a0_2)), (31, .int .i64 x3), (32, .int .i64 (wrap64 (x3 - 1))), (33, .rp [.str ((rd_impl_PlantPlace a0_2 (wrap64 (x3 - 1))).f0), .int .i64 ((rd_impl_PlantPlace a0_2 (wrap64 (x3 - 1))).f1), .str ((rd_impl_PlantPlace a0_2 (wrap64 (x3 - 1))).f2)]), (34, .rp [.str ((rd_impl_PlantPlace a0_2 (wrap64 (x3 - 1))).f0), .int .i64 ((rd_impl_PlantPlace a0_2 (wrap64 (x3 - 1))).f1), .str ((rd_impl_PlantPlace a0_2 (wrap64 (x3 - 1))).f2)]), (35, .str ((rd_impl_PlantPlace a0_2 (wrap64 (x3 - 1))).f0)), (36, .bp 136 0), (37, .str ((rd_impl_PlantPlace a0_2 x3).f0)), (38, .bool (!(Op.bytesLess ((rd_impl_PlantPlace a0_2 (wrap64 (x3 - 1))).f0).toList ((rd_impl_PlantPlace a0_2 x3).f0).toList))), (39, .bool (!(Op.bytesLess ((rd_impl_PlantPlace a0_2 (wrap64 (x3 - 1))).f0).toList ((rd_impl_PlantPlace a0_2 x3).f0).toList))), (40, .bool (!(Op.bytesLess ((rd_impl_PlantPlace a0_2 (wrap64 (x3 - 1))).f0).toList ((rd_impl_PlantPlace a0_2 x3).f0).toList))), (41, .bool (!(Op.bytesLess ((rd_impl_PlantPlace a0_2 (wrap64 (x3 - 1))).f0).toList ((rd_impl_PlantPlace a0_2 x3).f0).toList))), (42, .bp 136 1), (43, .int .i64 ((rd_impl_PlantPlace a0_2 x3).f1)), (44, .bool t3471), (45, .bool (!t3471)), (46, .bool (!t3471)), (47, .bool (!t3471)), (52, .bool true)] [(0, .box [(sv_str a0_0), (sv_S_impl_PlantFoe a0_1), (sv_S_impl_PlantPlace a0_2), (sv_S_impl_PlantValve a0_3)]), (136, .box [.str ((rd_impl_PlantPlace a0_2 x3).f0), .int .i64 ((rd_impl_PlantPlace a0_2 x3).f1), .str ((rd_impl_PlantPlace a0_2 x3).f2)])] rfl ⟨rfl, ⟨rfl, ⟨rfl, ⟨rfl, ⟨rfl, ⟨rfl, ⟨rfl, ⟨rfl, ⟨rfl, ⟨rfl, ⟨rfl, ⟨rfl, ⟨rfl, ⟨rfl, ⟨rfl, ⟨rfl, ⟨rfl, ⟨rfl, ⟨rfl, ⟨rfl, ⟨rfl, ⟨rfl, ⟨rfl, ⟨rfl, ⟨rfl, ⟨rfl, ⟨rfl, ⟨rfl, ⟨rfl, ⟨rfl, ⟨rfl, ⟨rfl, ⟨rfl, ⟨rfl, ⟨rfl, ⟨rfl, ⟨rfl, ⟨rfl, ⟨rfl, ⟨rfl, ⟨rfl, ⟨rfl, trivial⟩⟩⟩⟩⟩⟩⟩⟩⟩⟩⟩⟩⟩⟩⟩⟩⟩⟩⟩⟩⟩⟩⟩⟩⟩⟩⟩⟩⟩⟩⟩⟩⟩⟩⟩⟩⟩⟩⟩⟩⟩⟩ ⟨rfl, ⟨rfl, trivial⟩⟩ ?_
  conv => whnf
  injection H with H; subst H
  exact ret_fz [] (rtA_eq rfl)
  conv => whnf
  refine Br.t ft_ ?_
  conv => whnf
  refine Br.t ft_ ?_
  conv => whnf
  refine Br.t ft_ ?_
  conv => whnf
  refine Br.t ft_ ?_
  conv => whnf
  refine Br.t rfl ?_
  conv => whnf
  refine Br.t rfl ?_
  conv => whnf
  refine Br.t rfl ?_
  conv => whnf
  refine Br.t rfl ?_
  conv => whnf
  refine Br.t rfl ?_
  conv => whnf
  refine cut_ 408 [(1, .bp 0 0), (3, .int .i64 x3), (4, .bp 136 0), (9, .int .i64 x3), (10, .bp 0 2), (11, (sv_S_impl_PlantPlace a0_2)), (12, .int .i64 (a0_2.length : Int)), (13, .bool (decide (x3 < (a0_2.length : Int)))), (16, .bp 0 2), (17, (sv_S_impl_PlantPlace a0_2)), (18, .int .i64 x3), (19, .rp [.str ((rd_impl_PlantPlace a0_2 x3).f0), .int .i64 ((rd_impl_PlantPlace a0_2 x3).f1), .str ((rd_impl_PlantPlace a0_2 x3).f2)]), (20, .agg [.str ((rd_impl_PlantPlace a0_2 x3).f0), .int .i64 ((rd_impl_PlantPlace a0_2 x3).f1), .str ((rd_impl_PlantPlace a0_2 x3).f2)]), (21, .bp 136 0), (22, .str ((rd_impl_PlantPlace a0_2 x3).f0)), (23, .bool t3470), (24, .bool (!t3470)), (25, .bool (!t3470)), (26, .int .i64 x3), (27, .bool (decide (x3 > 0))), (28, .bool (decide (x3 > 0))), (29, .bp 0 2), (30, (sv_S_impl_PlantPlace a0_2)), (31, .int .i64 x3), (32, .int .i64 (wrap64 (x3 - 1))), (33, .rp [.str ((rd_impl_PlantPlace a0_2 (wrap64 (x3 - 1))).f0), .int .i64 ((rd_impl_PlantPlace a0_2 (wrap64 (x3 - 1))).f1), .str ((rd_impl_PlantPlace a0_2 (wrap64 (x3 - 1))).f2)]), (34, .rp [.str ((rd_impl_PlantPlace a0_2 (wrap64 (x3 - 1))).f0), .int .i64 ((rd_impl_PlantPlace a0_2 (wrap64 (x3 - 1))).f1), .str ((rd_impl_PlantPlace a0_2 (wrap64 (x3 - 1))).f2)]), (35, .str ((rd_impl_PlantPlace a0_2 (wrap64 (x3 - 1))).f0)), (36, .bp 136 0), (37, .str ((rd_impl_PlantPlace a0_2 x3).f0)), (38, .bool (!(Op.bytesLess ((rd_impl_PlantPlace a0_2 (wrap64 (x3 - 1))).f0).toList ((rd_impl_PlantPlace a0_2 x3).f0).toList))), (39, .bool (!(Op.bytesLess ((rd_impl_PlantPlace a0_2 (wrap64 (x3 - 1))).f0).toList ((rd_impl_PlantPlace a0_2 x3).f0).toList))), (40, .bool (!(Op.bytesLess ((rd_impl_PlantPlace a0_2 (wrap64 (x3 - 1))).f0).toList ((rd_impl_PlantPlace a0_2 x3).f0).toList))), (41, .bool (!(Op.bytesLess ((rd_impl_PlantPlace a0_2 (wrap64 (x3 - 1))).f0).toList ((rd_impl_PlantPlace a0_2 x3).f0).toList))), (46, .bool true), (47, .bool true), (52, .bool true)] [(0, .box [(sv_str a0_0), (sv_S_impl_PlantFoe a0_1), (sv_S_impl_PlantPlace a0_2), (sv_S_impl_PlantValve a0_3)]), (136, .box [.str ((rd_impl_PlantPlace a0_2 x3).f0), .int .i64 ((rd_impl_PlantPlace a0_2 x3).f1), .str ((rd_impl_PlantPlace a0_2 x3).f2)])] rfl ⟨rfl, ⟨rfl, ⟨rfl, ⟨rfl, ⟨rfl, ⟨rfl, ⟨rfl, ⟨rfl, ⟨rfl, ⟨rfl, ⟨rfl, ⟨rfl, ⟨rfl, ⟨rfl, ⟨rfl, ⟨rfl, ⟨rfl, ⟨rfl, ⟨rfl, ⟨rfl, ⟨rfl, ⟨rfl, ⟨rfl, ⟨rfl, ⟨rfl, ⟨rfl, ⟨rfl, ⟨rfl, ⟨rfl, ⟨rfl, ⟨rfl, ⟨rfl, ⟨rfl, ⟨rfl, ⟨rfl, ⟨rfl, ⟨rfl, trivial⟩⟩⟩⟩⟩⟩⟩⟩⟩⟩⟩⟩⟩⟩⟩⟩⟩⟩⟩⟩⟩⟩⟩⟩⟩⟩⟩⟩⟩⟩⟩⟩⟩⟩⟩⟩⟩ ⟨rfl, ⟨rfl, trivial⟩⟩ ?_
  conv => whnf
  refine Br.t rfl ?_
  conv => whnf
  refine cut_ 416 [(1, .bp 0 0), (2, .bool false), (3, .int .i64 x3), (4, .bp 136 0), (9, .int .i64 x3), (10, .bp 0 2), (11, (sv_S_impl_PlantPlace a0_2)), (12, .int .i64 (a0_2.length : Int)), (13, .bool (decide (x3 < (a0_2.length : Int)))), (16, .bp 0 2), (17, (sv_S_impl_PlantPlace a0_2)), (18, .int .i64 x3), (19, .rp [.str ((rd_impl_PlantPlace a0_2 x3).f0), .int .i64 ((rd_impl_PlantPlace a0_2 x3).f1), .str ((rd_impl_PlantPlace a0_2 x3).f2)]), (20, .agg [.str ((rd_impl_PlantPlace a0_2 x3).f0), .int .i64 ((rd_impl_PlantPlace a0_2 x3).f1), .str ((rd_impl_PlantPlace a0_2 x3).f2)]), (21, .bp 136 0), (22, .str ((rd_impl_PlantPlace a0_2 x3).f0)), (23, .bool t3470), (24, .bool (!t3470)), (25, .bool (!t3470)), (26, .int .i64 x3), (27, .bool (decide (x3 > 0))), (28, .bool (decide (x3 > 0))), (29, .bp 0 2), (30, (sv_S_impl_PlantPlace a0_2)), (31, .int .i64 x3), (32, .int .i64 (wrap64 (x3 - 1))), (33, .rp [.str ((rd_impl_PlantPlace a0_2 (wrap64 (x3 - 1))).f0), .int .i64 ((rd_impl_PlantPlace a0_2 (wrap64 (x3 - 1))).f1), .str ((rd_impl_PlantPlace a0_2 (wrap64 (x3 - 1))).f2)]), (34, .rp [.str ((rd_impl_PlantPlace a0_2 (wrap64 (x3 - 1))).f0), .int .i64 ((rd_impl_PlantPlace a0_2 (wrap64 (x3 - 1))).f1), .str ((rd_impl_PlantPlace a0_2 (wrap64 (x3 - 1))).f2)]), (35, .str ((rd_impl_PlantPlace a0_2 (wrap64 (x3 - 1))).f0)), (36, .bp 136 0), (37, .str ((rd_impl_PlantPlace a0_2 x3).f0)), (38, .bool (!(Op.bytesLess ((rd_impl_PlantPlace a0_2 (wrap64 (x3 - 1))).f0).toList ((rd_impl_PlantPlace a0_2 x3).f0).toList))), (39, .bool (!(Op.bytesLess ((rd_impl_PlantPlace a0_2 (wrap64 (x3 - 1))).f0).toList ((rd_impl_PlantPlace a0_2 x3).f0).toList))), (40, .bool (!(Op.bytesLess ((rd_impl_PlantPlace a0_2 (wrap64 (x3 - 1))).f0).toList ((rd_impl_PlantPlace a0_2 x3).f0).toList))), (41, .bool (!(Op.bytesLess ((rd_impl_PlantPlace a0_2 (wrap64 (x3 - 1))).f0).toList ((rd_impl_PlantPlace a0_2 x3).f0).toList))), (46, .bool true), (47, .bool true), (52, .bool true)] [(0, .box [(sv_str a0_0), (sv_S_impl_PlantFoe a0_1), (sv_S_impl_PlantPlace a0_2), (sv_S_impl_PlantValve a0_3)]), (136, .box [.str ((rd_impl_PlantPlace a0_2 x3).f0), .int .i64 ((rd_impl_PlantPlace a0_2 x3).f1), .str ((rd_impl_PlantPlace a0_2 x3).f2)])] rfl ⟨rfl, ⟨rfl, ⟨rfl, ⟨rfl, ⟨rfl, ⟨rfl, ⟨rfl, ⟨rfl, ⟨rfl, ⟨rfl, ⟨rfl, ⟨rfl, ⟨rfl, ⟨rfl, ⟨rfl, ⟨rfl, ⟨rfl, ⟨rfl, ⟨rfl, ⟨rfl, ⟨rfl, ⟨rfl, ⟨rfl, ⟨rfl, ⟨rfl, ⟨rfl, ⟨rfl, ⟨rfl, ⟨rfl, ⟨rfl, ⟨rfl, ⟨rfl, ⟨rfl, ⟨rfl, ⟨rfl, ⟨rfl, ⟨rfl, ⟨rfl, trivial⟩⟩⟩⟩⟩⟩⟩⟩⟩⟩⟩⟩⟩⟩⟩⟩⟩⟩⟩⟩⟩⟩⟩⟩⟩⟩⟩⟩⟩⟩⟩⟩⟩⟩⟩⟩⟩⟩ ⟨rfl, ⟨rfl, trivial⟩⟩ ?_
  conv => whnf
  injection H with H; subst H
  exact ret_fz [] (rtA_eq rfl)
  conv => whnf
  refine Br.f ff_ ?_
  conv => whnf
  refine Br.f ff_ ?_
  conv => whnf
  refine Br.f ff_ ?_
  conv => whnf
  refine Br.f ff_ ?_
  conv => whnf
  refine Br.f ff_ ?_
  conv => whnf
  refine Br.f ff_ ?_
  conv => whnf
  refine Br.f ff_ ?_
  conv => whnf
  refine Br.f ff_ ?_
  conv => whnf
  refine Br.f ff_ ?_
  conv => whnf
  refine Br.f ff_ ?_
  conv => whnf
  refine Br.f ff_ ?_
  conv => whnf
  refine Br.f ff_ ?_
  conv => whnf
  refine Br.f rfl ?_
  conv => whnf
  refine Br.f rfl ?_
  conv => whnf
  refine Br.f rfl ?_
  conv => whnf
  revert H; refine bind_elim (fun t3473 A H => ?_)
  refine call_mk (spec_l1In.ac A) (avAL_cons (avA_shut' rfl) (avAL_cons (avA_shut' rfl) (avAL_cons (avA_shut' rfl) (avAL_nil)))) (Or.inl rfl) rfl rfl (Nat.le_of_ble_eq_true rfl) ?_
  conv => whnf
  refine Br.f rfl ?_
  conv => whnf
  refine Br.f rfl ?_
  conv => whnf
  refine br_nt H (fun c H => ?_) (fun c H => ?_)
  conv => whnf
  refine Br.f ff_ ?_
  conv => whnf
  refine Br.f ff_ ?_
  conv => whnf
  revert H; refine bind_elim (fun t3474 A H => ?_)
  refine call_mk (spec_l2NameOk.ac A) (avAL_cons (avA_shut' rfl) (avAL_nil)) (Or.inl rfl) rfl rfl (Nat.le_of_ble_eq_true rfl) ?_
  conv => whnf
  refine Br.f ff_ ?_
  conv => whnf
  refine Br.f ff_ ?_
  conv => whnf
  refine cut_ 408 [(1, .bp 0 0), (3, .int .i64 x3), (4, .bp 136 0), (9, .int .i64 x3), (10, .bp 0 2), (11, (sv_S_impl_PlantPlace a0_2)), (12, .int .i64 (a0_2.length : Int)), (13, .bool (decide (x3 < (a0_2.length : Int)))), (16, .bp 0 2), (17, (sv_S_impl_PlantPlace a0_2)), (18, .int .i64 x3), (19, .rp [.str ((rd_impl_PlantPlace a0_2 x3).f0), .int .i64 ((rd_impl_PlantPlace a0_2 x3).f1), .str ((rd_impl_PlantPlace a0_2 x3).f2)]), (20, .agg [.str ((rd_impl_PlantPlace a0_2 x3).f0), .int .i64 ((rd_impl_PlantPlace a0_2 x3).f1), .str ((rd_impl_PlantPlace a0_2 x3).f2)]), (21, .bp 136 0), (22, .str ((rd_impl_PlantPlace a0_2 x3).f0)), (23, .bool t3470), (24, .bool (!t3470)), (25, .bool (!t3470)), (26, .int .i64 x3), (27, .bool (decide (x3 > 0))), (28, .bool (decide (x3 > 0))), (39, .bool false), (40, .bool false), (41, .bool false), (42, .bp 136 1), (43, .int .i64 ((rd_impl_PlantPlace a0_2 x3).f1)), (44, .bool t3473), (45, .bool (!t3473)), (46, .bool (!t3473)), (47, .bool (!t3473)), (48, .bp 136 2), (49, .str ((rd_impl_PlantPlace a0_2 x3).f2)), (50, .bool t3474), (51, .bool (!t3474)), (52, .bool (!t3474))] [(0, .box [(sv_str a0_0), (sv_S_impl_PlantFoe a0_1), (sv_S_impl_PlantPlace a0_2), (sv_S_impl_PlantValve a0_3)]), (136, .box [.str ((rd_impl_PlantPlace a0_2 x3).f0), .int .i64 ((rd_impl_PlantPlace a0_2 x3).f1), .str ((rd_impl_PlantPlace a0_2 x3).f2)])] rfl ⟨rfl, ⟨rfl, ⟨rfl, ⟨rfl, ⟨rfl, ⟨rfl, ⟨rfl, ⟨rfl, ⟨rfl, ⟨rfl, ⟨rfl, ⟨rfl, ⟨rfl, ⟨rfl, ⟨rfl, ⟨rfl, ⟨rfl, ⟨rfl, ⟨rfl, ⟨rfl, ⟨rfl, ⟨rfl, ⟨rfl, ⟨rfl, ⟨rfl, ⟨rfl, ⟨rfl, ⟨rfl, ⟨rfl, ⟨rfl, ⟨rfl, ⟨rfl, ⟨rfl, ⟨rfl, ⟨rfl, trivial⟩⟩⟩⟩⟩⟩⟩⟩⟩⟩⟩⟩⟩⟩⟩⟩⟩⟩⟩⟩⟩⟩⟩⟩⟩⟩⟩⟩⟩⟩⟩⟩⟩⟩⟩ ⟨rfl, ⟨rfl, trivial⟩⟩ ?_
  conv => whnf
  refine br_nt H (fun c H => ?_) (fun c H => ?_)
  conv => whnf
  exact ⟨(k, wrap64 (x3 + 1)), [], ⟨H, lt_⟩, lt_, (fits_of ⟨.inl ⟨rfl, rfl⟩, trivial⟩ trivial fi_ trivial rfl)⟩
  conv => whnf
  refine cut_ 416 [(1, .bp 0 0), (2, .bool false), (3, .int .i64 x3), (4, .bp 136 0), (9, .int .i64 x3), (10, .bp 0 2), (11, (sv_S_impl_PlantPlace a0_2)), (12, .int .i64 (a0_2.length : Int)), (13, .bool (decide (x3 < (a0_2.length : Int)))), (16, .bp 0 2), (17, (sv_S_impl_PlantPlace a0_2)), (18, .int .i64 x3), (19, .rp [.str ((rd_impl_PlantPlace a0_2 x3).f0), .int .i64 ((rd_impl_PlantPlace a0_2 x3).f1), .str ((rd_impl_PlantPlace a0_2 x3).f2)]), (20, .agg [.str ((rd_impl_PlantPlace a0_2 x3).f0), .int .i64 ((rd_impl_PlantPlace a0_2 x3).f1), .str ((rd_impl_PlantPlace a0_2 x3).f2)]), (21, .bp 136 0), (22, .str ((rd_impl_PlantPlace a0_2 x3).f0)), (23, .bool t3470), (24, .bool (!t3470)), (25, .bool (!t3470)), (26, .int .i64 x3), (27, .bool (decide (x3 > 0))), (28, .bool (decide (x3 > 0))), (39, .bool false), (40, .bool false), (41, .bool false), (42, .bp 136 1), (43, .int .i64 ((rd_impl_PlantPlace a0_2 x3).f1)), (44, .bool t3473), (45, .bool (!t3473)), (46, .bool (!t3473)), (47, .bool (!t3473)), (48, .bp 136 2), (49, .str ((rd_impl_PlantPlace a0_2 x3).f2)), (50, .bool t3474), (51, .bool (!t3474)), (52, .bool (!t3474))] [(0, .box [(sv_str a0_0), (sv_S_impl_PlantFoe a0_1), (sv_S_impl_PlantPlace a0_2), (sv_S_impl_PlantValve a0_3)]), (136, .box [.str ((rd_impl_PlantPlace a0_2 x3).f0), .int .i64 ((rd_impl_PlantPlace a0_2 x3).f1), .str ((rd_impl_PlantPlace a0_2 x3).f2)])] rfl ⟨rfl, ⟨rfl, ⟨rfl, ⟨rfl, ⟨rfl, ⟨rfl, ⟨rfl, ⟨rfl, ⟨rfl, ⟨rfl, ⟨rfl, ⟨rfl, ⟨rfl, ⟨rfl, ⟨rfl, ⟨rfl, ⟨rfl, ⟨rfl, ⟨rfl, ⟨rfl, ⟨rfl, ⟨rfl, ⟨rfl, ⟨rfl, ⟨rfl, ⟨rfl, ⟨rfl, ⟨rfl, ⟨rfl, ⟨rfl, ⟨rfl, ⟨rfl, ⟨rfl, ⟨rfl, ⟨rfl, ⟨rfl, trivial⟩⟩⟩⟩⟩⟩⟩⟩⟩⟩⟩⟩⟩⟩⟩⟩⟩⟩⟩⟩⟩⟩⟩⟩⟩⟩⟩⟩⟩⟩⟩⟩⟩⟩⟩⟩ ⟨rfl, ⟨rfl, trivial⟩⟩ ?_
  conv => whnf
  injection H with H; subst H
  exact ret_fz [] (rtA_eq rfl)
  conv => whnf
  refine Br.t ft_ ?_
  conv => whnf
  refine Br.t ft_ ?_
  conv => whnf
  refine Br.t ft_ ?_
  conv => whnf
  refine Br.t ft_ ?_
  conv => whnf
  refine cut_ 408 [(1, .bp 0 0), (3, .int .i64 x3), (4, .bp 136 0), (9, .int .i64 x3), (10, .bp 0 2), (11, (sv_S_impl_PlantPlace a0_2)), (12, .int .i64 (a0_2.length : Int)), (13, .bool (decide (x3 < (a0_2.length : Int)))), (16, .bp 0 2), (17, (sv_S_impl_PlantPlace a0_2)), (18, .int .i64 x3), (19, .rp [.str ((rd_impl_PlantPlace a0_2 x3).f0), .int .i64 ((rd_impl_PlantPlace a0_2 x3).f1), .str ((rd_impl_PlantPlace a0_2 x3).f2)]), (20, .agg [.str ((rd_impl_PlantPlace a0_2 x3).f0), .int .i64 ((rd_impl_PlantPlace a0_2 x3).f1), .str ((rd_impl_PlantPlace a0_2 x3).f2)]), (21, .bp 136 0), (22, .str ((rd_impl_PlantPlace a0_2 x3).f0)), (23, .bool t3470), (24, .bool (!t3470)), (25, .bool (!t3470)), (26, .int .i64 x3), (27, .bool (decide (x3 > 0))), (28, .bool (decide (x3 > 0))), (39, .bool false), (40, .bool false), (41, .bool false), (42, .bp 136 1), (43, .int .i64 ((rd_impl_PlantPlace a0_2 x3).f1)), (44, .bool t3473), (45, .bool (!t3473)), (46, .bool (!t3473)), (47, .bool (!t3473)), (52, .bool true)] [(0, .box [(sv_str a0_0), (sv_S_impl_PlantFoe a0_1), (sv_S_impl_PlantPlace a0_2), (sv_S_impl_PlantValve a0_3)]), (136, .box [.str ((rd_impl_PlantPlace a0_2 x3).f0), .int .i64 ((rd_impl_PlantPlace a0_2 x3).f1), .str ((rd_impl_PlantPlace a0_2 x3).f2)])] rfl ⟨rfl, ⟨rfl, ⟨rfl, ⟨rfl, ⟨rfl, ⟨rfl, ⟨rfl, ⟨rfl, ⟨rfl, ⟨rfl, ⟨rfl, ⟨rfl, ⟨rfl, ⟨rfl, ⟨rfl, ⟨rfl, ⟨rfl, ⟨rfl, ⟨rfl, ⟨rfl, ⟨rfl, ⟨rfl, ⟨rfl, ⟨rfl, ⟨rfl, ⟨rfl, ⟨rfl, ⟨rfl, ⟨rfl, ⟨rfl, ⟨rfl, trivial⟩⟩⟩⟩⟩⟩⟩⟩⟩⟩⟩⟩⟩⟩⟩⟩⟩⟩⟩⟩⟩⟩⟩⟩⟩⟩⟩⟩⟩⟩⟩ ⟨rfl, ⟨rfl, trivial⟩⟩ ?_
  conv => whnf
  refine Br.t rfl ?_
  conv => whnf
  refine cut_ 416 [(1, .bp 0 0), (2, .bool false), (3, .int .i64 x3), (4, .bp 136 0), (9, .int .i64 x3), (10, .bp 0 2), (11, (sv_S_impl_PlantPlace a0_2)), (12, .int .i64 (a0_2.length : Int)), (13, .bool (decide (x3 < (a0_2.length : Int)))), (16, .bp 0 2), (17, (sv_S_impl_PlantPlace a0_2)), (18, .int .i64 x3), (19, .rp [.str ((rd_impl_PlantPlace a0_2 x3).f0), .int .i64 ((rd_impl_PlantPlace a0_2 x3).f1), .str ((rd_impl_PlantPlace a0_2 x3).f2)]), (20, .agg [.str ((rd_impl_PlantPlace a0_2 x3).f0), .int .i64 ((rd_impl_PlantPlace a0_2 x3).f1), .str ((rd_impl_PlantPlace a0_2 x3).f2)]), (21, .bp 136 0), (22, .str ((rd_impl_PlantPlace a0_2 x3).f0)), (23, .bool t3470), (24, .bool (!t3470)), (25, .bool (!t3470)), (26, .int .i64 x3), (27, .bool (decide (x3 > 0))), (28, .bool (decide (x3 > 0))), (39, .bool false), (40, .bool false), (41, .bool false), (42, .bp 136 1), (43, .int .i64 ((rd_impl_PlantPlace a0_2 x3).f1)), (44, .bool t3473), (45, .bool (!t3473)), (46, .bool (!t3473)), (47, .bool (!t3473)), (52, .bool true)] [(0, .box [(sv_str a0_0), (sv_S_impl_PlantFoe a0_1), (sv_S_impl_PlantPlace a0_2), (sv_S_impl_PlantValve a0_3)]), (136, .box [.str ((rd_impl_PlantPlace a0_2 x3).f0), .int .i64 ((rd_impl_PlantPlace a0_2 x3).f1), .str ((rd_impl_PlantPlace a0_2 x3).f2)])] rfl ⟨rfl, ⟨rfl, ⟨rfl, ⟨rfl, ⟨rfl, ⟨rfl, ⟨rfl, ⟨rfl, ⟨rfl, ⟨rfl, ⟨rfl, ⟨rfl, ⟨rfl, ⟨rfl, ⟨rfl, ⟨rfl, ⟨rfl, ⟨rfl, ⟨rfl, ⟨rfl, ⟨rfl, ⟨rfl, ⟨rfl, ⟨rfl, ⟨rfl, ⟨rfl, ⟨rfl, ⟨rfl, ⟨rfl, ⟨rfl, ⟨rfl, ⟨rfl, trivial⟩⟩⟩⟩⟩⟩⟩⟩⟩⟩⟩⟩⟩⟩⟩⟩⟩⟩⟩⟩⟩⟩⟩⟩⟩⟩⟩⟩⟩⟩⟩⟩ ⟨rfl, ⟨rfl, trivial⟩⟩ ?_
  conv => whnf
  injection H with H; subst H
  exact ret_fz [] (rtA_eq rfl)
  conv => whnf
  refine Br.t ft_ ?_
  conv => whnf
  refine Br.t ft_ ?_
  conv => whnf
  refine Br.t ft_ ?_
  conv => whnf
  refine Br.t ft_ ?_
  conv => whnf
  refine Br.t rfl ?_
  conv => whnf
  refine Br.t rfl ?_
  conv => whnf
  refine Br.t rfl ?_
  conv => whnf
  refine Br.t rfl ?_
  conv => whnf
  refine Br.t rfl ?_
  conv => whnf
  refine Br.t rfl ?_
  conv => whnf
  refine Br.t rfl ?_
  conv => whnf
  refine Br.t rfl ?_
  conv => whnf
  refine Br.t rfl ?_
  conv => whnf
  refine Br.t rfl ?_
  conv => whnf
  refine cut_ 408 [(1, .bp 0 0), (3, .int .i64 x3), (4, .bp 136 0), (9, .int .i64 x3), (10, .bp 0 2), (11, (sv_S_impl_PlantPlace a0_2)), (12, .int .i64 (a0_2.length : Int)), (13, .bool (decide (x3 < (a0_2.length : Int)))), (16, .bp 0 2), (17, (sv_S_impl_PlantPlace a0_2)), (18, .int .i64 x3), (19, .rp [.str ((rd_impl_PlantPlace a0_2 x3).f0), .int .i64 ((rd_impl_PlantPlace a0_2 x3).f1), .str ((rd_impl_PlantPlace a0_2 x3).f2)]), (20, .agg [.str ((rd_impl_PlantPlace a0_2 x3).f0), .int .i64 ((rd_impl_PlantPlace a0_2 x3).f1), .str ((rd_impl_PlantPlace a0_2 x3).f2)]), (21, .bp 136 0), (22, .str ((rd_impl_PlantPlace a0_2 x3).f0)), (23, .bool t3470), (24, .bool (!t3470)), (25, .bool (!t3470)), (40, .bool true), (41, .bool true), (46, .bool true), (47, .bool true), (52, .bool true)] [(0, .box [(sv_str a0_0), (sv_S_impl_PlantFoe a0_1), (sv_S_impl_PlantPlace a0_2), (sv_S_impl_PlantValve a0_3)]), (136, .box [.str ((rd_impl_PlantPlace a0_2 x3).f0), .int .i64 ((rd_impl_PlantPlace a0_2 x3).f1), .str ((rd_impl_PlantPlace a0_2 x3).f2)])] rfl ⟨rfl, ⟨rfl, ⟨rfl, ⟨rfl, ⟨rfl, ⟨rfl, ⟨rfl, ⟨rfl, ⟨rfl, ⟨rfl, ⟨rfl, ⟨rfl, ⟨rfl, ⟨rfl, ⟨rfl, ⟨rfl, ⟨rfl, ⟨rfl, ⟨rfl, ⟨rfl, ⟨rfl, ⟨rfl, ⟨rfl, trivial⟩⟩⟩⟩⟩⟩⟩⟩⟩⟩⟩⟩⟩⟩⟩⟩⟩⟩⟩⟩⟩⟩⟩ ⟨rfl, ⟨rfl, trivial⟩⟩ ?_
  conv => whnf
  refine Br.t rfl ?_
  conv => whnf
  refine cut_ 416 [(1, .bp 0 0), (2, .bool false), (3, .int .i64 x3), (4, .bp 136 0), (9, .int .i64 x3), (10, .bp 0 2), (11, (sv_S_impl_PlantPlace a0_2)), (12, .int .i64 (a0_2.length : Int)), (13, .bool (decide (x3 < (a0_2.length : Int)))), (16, .bp 0 2), (17, (sv_S_impl_PlantPlace a0_2)), (18, .int .i64 x3), (19, .rp [.str ((rd_impl_PlantPlace a0_2 x3).f0), .int .i64 ((rd_impl_PlantPlace a0_2 x3).f1), .str ((rd_impl_PlantPlace a0_2 x3).f2)]), (20, .agg [.str ((rd_impl_PlantPlace a0_2 x3).f0), .int .i64 ((rd_impl_PlantPlace a0_2 x3).f1), .str ((rd_impl_PlantPlace a0_2 x3).f2)]), (21, .bp 136 0), (22, .str ((rd_impl_PlantPlace a0_2 x3).f0)), (23, .bool t3470), (24, .bool (!t3470)), (25, .bool (!t3470)), (40, .bool true), (41, .bool true), (46, .bool true), (47, .bool true), (52, .bool true)] [(0, .box [(sv_str a0_0), (sv_S_impl_PlantFoe a0_1), (sv_S_impl_PlantPlace a0_2), (sv_S_impl_PlantValve a0_3)]), (136, .box [.str ((rd_impl_PlantPlace a0_2 x3).f0), .int .i64 ((rd_impl_PlantPlace a0_2 x3).f1), .str ((rd_impl_PlantPlace a0_2 x3).f2)])] rfl ⟨rfl, ⟨rfl, ⟨rfl, ⟨rfl, ⟨rfl, ⟨rfl, ⟨rfl, ⟨rfl, ⟨rfl, ⟨rfl, ⟨rfl, ⟨rfl, ⟨rfl, ⟨rfl, ⟨rfl, ⟨rfl, ⟨rfl, ⟨rfl, ⟨rfl, ⟨rfl, ⟨rfl, ⟨rfl, ⟨rfl, ⟨rfl, trivial⟩⟩⟩⟩⟩⟩⟩⟩⟩⟩⟩⟩⟩⟩⟩⟩⟩⟩⟩⟩⟩⟩⟩⟩ ⟨rfl, ⟨rfl, trivial⟩⟩ ?_
  conv => whnf
  injection H with H; subst H
  exact ret_fz [] (rtA_eq rfl)
  conv => whnf
  injection H with H; subst H
  exact ret_fz [] (rtA_eq rfl)
theorem spec_l2Place.l0_lp {F : (Exit → St → Prop) → St → Prop} {hv : List Tmp} {Q : Exit → St → Prop} {σ : St} {r : Int} {k : Nat} {a0_2 : List S_impl_PlantPlace} {a1 : ByteArray} {x5 : Int} (H : spec_l2Place.l0 k a0_2 a1 x5 = some r) (rn : List (Option Nat)) (h1 : Fits σ σ [] [(5, .int .i64 x5)] [] [] rn)
    (h2 : ∀ (k0 : Nat) (x5 : Int), k0 < k + 1 → spec_l2Place.l0 k0 a0_2 a1 x5 = some r → headN σ hv [] [(5, .int .i64 x5)] [] [] (F (fun e σ' => match e with | .normal => ∃ (y : Nat × Int) (rn : List (Option Nat)), (spec_l2Place.l0 y.1 a0_2 a1 y.2 = some r ∧ y.1 < k + 1) ∧ y.1 < k0 ∧ Fits σ σ' [] [(5, .int .i64 y.2)] [] [] rn | e => Q e σ'))) : Lp F hv Q σ := by
  unfold Lp
  refine ⟨Nat × Int, fun x => spec_l2Place.l0 x.1 a0_2 a1 x.2 = some r ∧ x.1 < k + 1, fun x => x.1, [], fun x => [(5, .int .i64 x.2)], fun x => [], fun x => [], ⟨(k, x5), rn, ⟨H, Nat.lt_succ_self _⟩, h1⟩, ?_⟩
  rintro ⟨k, x5⟩ ⟨H, hk⟩
  exact h2 k x5 hk H
theorem spec_l2Place.ac {k : Nat} {a0_0 : List ByteArray} {a0_1 : List S_impl_PlantFoe} {a0_2 : List S_impl_PlantPlace} {a0_3 : List S_impl_PlantValve} {a1 : ByteArray} {r : Int} (H : spec_l2Place.f k a0_0 a0_1 a0_2 a0_3 a1 = some r) : ACalls Try.prog G 94 [] [.agg [(sv_str a0_0), (sv_S_impl_PlantFoe a0_1), (sv_S_impl_PlantPlace a0_2), (sv_S_impl_PlantValve a0_3)], .str a1] [] (.int .i64 r) := by
  refine acalls_of tok hP Try.func94 rfl (by kernel_rfl) [.tmp 4] rfl (by kernel_rfl) (Nat.le_of_ble_eq_true rfl) (.l .n (.l (.l .n (.l .n (.l (.c .n .n) .n))) .n)) ?_
  unfold spec_l2Place.f at H
  conv => whnf
  refine spec_l2Place.l0_lp (a0_2 := a0_2) (a1 := a1) (k := k) H [] (fits_of ⟨.inl ⟨rfl, rfl⟩, trivial⟩ trivial fi_ trivial rfl) ?_
  intro k x5 hk H; rcases k with _ | k; exact none_elim H; rw [spec_l2Place.l0] at H; conv => whnf
  refine br_d H (fun c H => ?_) (fun c H => ?_)
  conv => whnf
  refine nd_ H (fun c H => ?_)
  conv => whnf
  refine Nd.mk nf_ ?_
  conv => whnf
  refine El.mk (rdm_en_S_impl_PlantPlace _ _ nf_ nf_) ?_
  conv => whnf
  refine cut_ 128 [(1, .str a1), (2, .bp 0 0), (5, .int .i64 x5), (6, .int .i64 x5), (7, .bp 0 2), (8, (sv_S_impl_PlantPlace a0_2)), (9, .int .i64 (a0_2.length : Int)), (10, .bool (decide (x5 < (a0_2.length : Int)))), (13, .bp 0 2), (14, (sv_S_impl_PlantPlace a0_2)), (15, .int .i64 x5), (16, .rp [.str ((rd_impl_PlantPlace a0_2 x5).f0), .int .i64 ((rd_impl_PlantPlace a0_2 x5).f1), .str ((rd_impl_PlantPlace a0_2 x5).f2)]), (17, .rp [.str ((rd_impl_PlantPlace a0_2 x5).f0), .int .i64 ((rd_impl_PlantPlace a0_2 x5).f1), .str ((rd_impl_PlantPlace a0_2 x5).f2)]), (18, .str ((rd_impl_PlantPlace a0_2 x5).f0)), (19, .str a1), (20, .bool (decide (((rd_impl_PlantPlace a0_2 x5).f0).toList = a1.toList)))] [(0, .box [(sv_str a0_0), (sv_S_impl_PlantFoe a0_1), (sv_S_impl_PlantPlace a0_2), (sv_S_impl_PlantValve a0_3)])] rfl ⟨rfl, ⟨rfl, ⟨rfl, ⟨rfl, ⟨rfl, ⟨rfl, ⟨rfl, ⟨rfl, ⟨rfl, ⟨rfl, ⟨rfl, ⟨rfl, ⟨rfl, ⟨rfl, ⟨rfl, ⟨rfl, trivial⟩⟩⟩⟩⟩⟩⟩⟩⟩⟩⟩⟩⟩⟩⟩⟩ ⟨rfl, trivial⟩ ?_
  conv => whnf
  refine br_d H (fun c H => ?_) (fun c H => ?_)
  conv => whnf
  injection H with H; subst H
  exact ret_fz [] (rtA_eq rfl)
  conv => whnf
  exact ⟨(k, wrap64 (x5 + 1)), [], ⟨H, lt_⟩, lt_, (fits_of ⟨.inl ⟨rfl, rfl⟩, trivial⟩ trivial fi_ trivial rfl)⟩
  conv => whnf
  injection H with H; subst H
  exact ret_fz [] (rtA_eq rfl)
theorem spec_l2ValvesOk.l0_lp {F : (Exit → St → Prop) → St → Prop} {hv : List Tmp} {Q : Exit → St → Prop} {σ : St} {r : Bool} {k : Nat} {a0_0 : List ByteArray} {a0_1 : List S_impl_PlantFoe} {a0_2 : List S_impl_PlantPlace} {a0_3 : List S_impl_PlantValve} {x3 : Int} (H : spec_l2ValvesOk.l0 k a0_0 a0_1 a0_2 a0_3 x3 = some r) (rn : List (Option Nat)) (h1 : Fits σ σ [] [(3, .int .i64 x3)] [] [] rn)
    (h2 : ∀ (k0 : Nat) (x3 : Int), k0 < k + 1 → spec_l2ValvesOk.l0 k0 a0_0 a0_1 a0_2 a0_3 x3 = some r → headN σ hv [] [(3, .int .i64 x3)] [] [] (F (fun e σ' => match e with | .normal => ∃ (y : Nat × Int) (rn : List (Option Nat)), (spec_l2ValvesOk.l0 y.1 a0_0 a0_1 a0_2 a0_3 y.2 = some r ∧ y.1 < k + 1) ∧ y.1 < k0 ∧ Fits σ σ' [] [(3, .int .i64 y.2)] [] [] rn | e => Q e σ'))) : Lp F hv Q σ := by
  unfold Lp
  refine ⟨Nat × Int, fun x => spec_l2ValvesOk.l0 x.1 a0_0 a0_1 a0_2 a0_3 x.2 = some r ∧ x.1 < k + 1, fun x => x.1, [], fun x => [(3, .int .i64 x.2)], fun x => [], fun x => [], ⟨(k, x3), rn, ⟨H, Nat.lt_succ_self _⟩, h1⟩, ?_⟩
  rintro ⟨k, x3⟩ ⟨H, hk⟩
  exact h2 k x3 hk H
theorem spec_l2ValvesOk.ac {k : Nat} {a0_0 : List ByteArray} {a0_1 : List S_impl_PlantFoe} {a0_2 : List S_impl_PlantPlace} {a0_3 : List S_impl_PlantValve} {r : Bool} (H : spec_l2ValvesOk.f k a0_0 a0_1 a0_2 a0_3 = some r) : ACalls Try.prog G 68 [] [.agg [(sv_str a0_0), (sv_S_impl_PlantFoe a0_1), (sv_S_impl_PlantPlace a0_2), (sv_S_impl_PlantValve a0_3)]] [] (.bool r) := by
  refine acalls_of tok hP Try.func68 rfl (by kernel_rfl) [.tmp 2] rfl (by kernel_rfl) (Nat.le_of_ble_eq_true rfl) (.l .n (.l .n (.l (.l .n (.l (.c .n .n) (.l (.l .n (.c .n (.l (.c .n .n) .n))) .n))) .n))) ?_
  unfold spec_l2ValvesOk.f at H
  conv => whnf
  refine br_d H (fun c H => ?_) (fun c H => ?_)
  conv => whnf
  injection H with H; subst H
  exact ret_fz [] (rtA_eq rfl)
  conv => whnf
  refine spec_l2ValvesOk.l0_lp (a0_0 := a0_0) (a0_1 := a0_1) (a0_2 := a0_2) (a0_3 := a0_3) (k := k) H [] (fits_of ⟨.inl ⟨rfl, rfl⟩, trivial⟩ trivial fi_ trivial rfl) ?_
  intro k x3 hk H; rcases k with _ | k; exact none_elim H; rw [spec_l2ValvesOk.l0] at H; conv => whnf
  refine cut_ 96 [(1, .bp 0 0), (3, .int .i64 x3), (9, .int .i64 x3), (10, .bp 0 3), (11, (sv_S_impl_PlantValve a0_3)), (12, .int .i64 (a0_3.length : Int)), (13, .bool (decide (x3 < (a0_3.length : Int))))] [(0, .box [(sv_str a0_0), (sv_S_impl_PlantFoe a0_1), (sv_S_impl_PlantPlace a0_2), (sv_S_impl_PlantValve a0_3)])] rfl ⟨rfl, ⟨rfl, ⟨rfl, ⟨rfl, ⟨rfl, ⟨rfl, ⟨rfl, trivial⟩⟩⟩⟩⟩⟩⟩ ⟨rfl, trivial⟩ ?_
  conv => whnf
  refine br_d H (fun c H => ?_) (fun c H => ?_)
  conv => whnf
  refine nd_ H (fun c H => ?_)
  conv => whnf
  refine Nd.mk nf_ ?_
  conv => whnf
  refine El.mk (rdm_en_S_impl_PlantValve _ _ nf_ nf_) ?_
  conv => whnf
  revert H; refine bind_elim (fun t3496 A H => ?_)
  refine call_mk (spec_l2NameOk.ac A) (avAL_cons (avA_shut' rfl) (avAL_nil)) (Or.inl rfl) rfl rfl (Nat.le_of_ble_eq_true rfl) ?_
  conv => whnf
  refine br_nt H (fun c H => ?_) (fun c H => ?_)
  conv => whnf
  refine Br.f ff_ ?_
  conv => whnf
  refine Br.f ff_ ?_
  conv => whnf
  refine br_d H (fun c H => ?_) (fun c H => ?_)
  conv => whnf
  refine Br.t ft_ ?_
  conv => whnf
  refine Br.t ft_ ?_
  conv => whnf
  refine Br.t ft_ ?_
  conv => whnf
  refine Br.t ft_ ?_
  conv => whnf
  refine nd_ H (fun c H => ?_)
  conv => whnf
  refine nd_ H (fun c H => ?_)
  conv => whnf
  refine El.mk (rdm_en_S_impl_PlantValve _ _ nf_ nf_) ?_
  conv => whnf
  refine Br.t ft_ ?_
  conv => whnf
  refine Br.t ft_ ?_
  conv => whnf
  refine Br.t ft_ ?_
  conv => whnf
  refine Br.t ft_ ?_
  conv => whnf
  refine Br.t ft_ ?_
  conv => whnf
  refine Br.f ff_ ?_
  conv => whnf
  refine Br.t ft_ ?_
  conv => whnf
  refine Br.f ff_ ?_
  conv => whnf
  refine br_nt H (fun c H => ?_) (fun c H => ?_)
  conv => whnf
  refine Br.f ff_ ?_
  conv => whnf
  refine Br.f ff_ ?_
  conv => whnf
  refine Br.f ff_ ?_
  conv => whnf
  refine Br.f ff_ ?_
  conv => whnf
  refine Br.f ff_ ?_
  conv => whnf
  refine br_nt H (fun c H => ?_) (fun c H => ?_)
  conv => whnf
  refine Br.f ff_ ?_
  conv => whnf
  refine Br.f ff_ ?_
  conv => whnf
  refine Br.f ff_ ?_
  conv => whnf
  revert H; refine bind_elim (fun t3497 A H => ?_)
  refine call_mk (spec_l2Place.ac A) (avAL_cons (avA_agg (avL_cons (av_shut' rfl) (avL_cons (av_shut' rfl) (avL_cons (av_shut' rfl) (avL_cons (av_shut' rfl) (avL_nil)))))) (avAL_cons (avA_shut' rfl) (avAL_nil))) (Or.inl rfl) rfl rfl (Nat.le_of_ble_eq_true rfl) ?_
  conv => whnf
  refine Br.f ff_ ?_
  conv => whnf
  refine Br.f ff_ ?_
  conv => whnf
  refine br_d H (fun c H => ?_) (fun c H => ?_)
  conv => whnf
  refine Br.t ft_ ?_
  conv => whnf
  refine Br.t ft_ ?_
  conv => whnf
  refine Br.t ft_ ?_
  conv => whnf
  refine Br.t ft_ ?_
  conv => whnf
  refine Br.t ft_ ?_
  conv => whnf
  refine Br.t rfl ?_
  conv => whnf
  refine Br.t rfl ?_
  conv => whnf
  refine Br.t rfl ?_
  conv => whnf
  refine Br.t rfl ?_
  conv => whnf
  refine Br.t rfl ?_
  conv => whnf
  refine cut_ 528 [(1, .bp 0 0), (3, .int .i64 x3), (4, .bp 136 0), (9, .int .i64 x3), (10, .bp 0 3), (11, (sv_S_impl_PlantValve a0_3)), (12, .int .i64 (a0_3.length : Int)), (13, .bool (decide (x3 < (a0_3.length : Int)))), (16, .bp 0 3), (17, (sv_S_impl_PlantValve a0_3)), (18, .int .i64 x3), (19, .rp [.str ((rd_impl_PlantValve a0_3 x3).f0), .str ((rd_impl_PlantValve a0_3 x3).f1), .str ((rd_impl_PlantValve a0_3 x3).f2), .str ((rd_impl_PlantValve a0_3 x3).f3)]), (20, .agg [.str ((rd_impl_PlantValve a0_3 x3).f0), .str ((rd_impl_PlantValve a0_3 x3).f1), .str ((rd_impl_PlantValve a0_3 x3).f2), .str ((rd_impl_PlantValve a0_3 x3).f3)]), (21, .bp 136 0), (22, .str ((rd_impl_PlantValve a0_3 x3).f0)), (23, .bool t3496), (24, .bool (!t3496)), (25, .bool (!t3496)), (26, .int .i64 x3), (27, .bool (decide (x3 > 0))), (28, .bool (decide (x3 > 0))), (29, .bp 0 3), (30, (sv_S_impl_PlantValve a0_3)), (31, .int .i64 x3), (32, .int .i64 (wrap64 (x3 - 1))), (33, .rp [.str ((rd_impl_PlantValve a0_3 (wrap64 (x3 - 1))).f0), .str ((rd_impl_PlantValve a0_3 (wrap64 (x3 - 1))).f1), .str ((rd_impl_PlantValve a0_3 (wrap64 (x3 - 1))).f2), .str ((rd_impl_PlantValve a0_3 (wrap64 (x3 - 1))).f3)]), (34, .rp [.str ((rd_impl_PlantValve a0_3 (wrap64 (x3 - 1))).f0), .str ((rd_impl_PlantValve a0_3 (wrap64 (x3 - 1))).f1), .str ((rd_impl_PlantValve a0_3 (wrap64 (x3 - 1))).f2), .str ((rd_impl_PlantValve a0_3 (wrap64 (x3 - 1))).f3)]), (35, .str ((rd_impl_PlantValve a0_3 (wrap64 (x3 - 1))).f0)), (36, .bp 136 0), (37, .str ((rd_impl_PlantValve a0_3 x3).f0)), (38, .bool (!(Op.bytesLess ((rd_impl_PlantValve a0_3 (wrap64 (x3 - 1))).f0).toList ((rd_impl_PlantValve a0_3 x3).f0).toList))), (39, .bool (!(Op.bytesLess ((rd_impl_PlantValve a0_3 (wrap64 (x3 - 1))).f0).toList ((rd_impl_PlantValve a0_3 x3).f0).toList))), (40, .bool (!(Op.bytesLess ((rd_impl_PlantValve a0_3 (wrap64 (x3 - 1))).f0).toList ((rd_impl_PlantValve a0_3 x3).f0).toList))), (41, .bool (!(Op.bytesLess ((rd_impl_PlantValve a0_3 (wrap64 (x3 - 1))).f0).toList ((rd_impl_PlantValve a0_3 x3).f0).toList))), (42, .bp 136 1), (43, .str ((rd_impl_PlantValve a0_3 x3).f1)), (44, .bp 136 2), (45, .str ((rd_impl_PlantValve a0_3 x3).f2)), (46, .bool (!(Op.bytesLess ((rd_impl_PlantValve a0_3 x3).f1).toList ((rd_impl_PlantValve a0_3 x3).f2).toList))), (47, .bool (!(Op.bytesLess ((rd_impl_PlantValve a0_3 x3).f1).toList ((rd_impl_PlantValve a0_3 x3).f2).toList))), (48, .bool (!(Op.bytesLess ((rd_impl_PlantValve a0_3 x3).f1).toList ((rd_impl_PlantValve a0_3 x3).f2).toList))), (49, .agg [(sv_str a0_0), (sv_S_impl_PlantFoe a0_1), (sv_S_impl_PlantPlace a0_2), (sv_S_impl_PlantValve a0_3)]), (50, .bp 136 1), (51, .str ((rd_impl_PlantValve a0_3 x3).f1)), (52, .int .i64 t3497), (53, .bool (decide (t3497 < 0))), (54, .bool (decide (t3497 < 0))), (55, .bool (decide (t3497 < 0))), (61, .bool true), (62, .bool true), (67, .bool true)] [(0, .box [(sv_str a0_0), (sv_S_impl_PlantFoe a0_1), (sv_S_impl_PlantPlace a0_2), (sv_S_impl_PlantValve a0_3)]), (136, .box [.str ((rd_impl_PlantValve a0_3 x3).f0), .str ((rd_impl_PlantValve a0_3 x3).f1), .str ((rd_impl_PlantValve a0_3 x3).f2), .str ((rd_impl_PlantValve a0_3 x3).f3)])] rfl ⟨rfl, ⟨rfl, ⟨rfl, ⟨rfl, ⟨rfl, ⟨rfl, ⟨rfl, ⟨rfl, ⟨rfl, ⟨rfl, ⟨rfl, ⟨rfl, ⟨rfl, ⟨rfl, ⟨rfl, ⟨rfl, ⟨rfl, ⟨rfl, ⟨rfl, ⟨rfl, ⟨rfl, ⟨rfl, ⟨rfl, ⟨rfl, ⟨rfl, ⟨rfl, ⟨rfl, ⟨rfl, ⟨rfl, ⟨rfl, ⟨rfl, ⟨rfl, ⟨rfl, ⟨rfl, ⟨rfl, ⟨rfl, ⟨rfl, ⟨rfl, ⟨rfl, ⟨rfl, ⟨rfl, ⟨rfl, ⟨rfl, ⟨rfl, ⟨rfl, ⟨rfl, ⟨rfl, ⟨rfl, ⟨rfl, ⟨rfl, ⟨rfl, trivial⟩⟩⟩⟩⟩⟩⟩⟩⟩⟩⟩⟩⟩⟩⟩⟩⟩⟩⟩⟩⟩⟩⟩⟩⟩⟩⟩⟩⟩⟩⟩⟩⟩⟩⟩⟩⟩⟩⟩⟩⟩⟩⟩⟩⟩⟩⟩⟩⟩⟩⟩ ⟨rfl, ⟨rfl, trivial⟩⟩ ?_
  conv => whnf
  refine Br.t rfl ?_
  conv => whnf
  refine cut_ 536 [(1, .bp 0 0), (2, .bool false), (3, .int .i64 x3), (4, .bp 136 0), (9, .int .i64 x3), (10, .bp 0 3), (11, (sv_S_impl_PlantValve a0_3)), (12, .int .i64 (a0_3.length : Int)), (13, .bool (decide (x3 < (a0_3.length : Int)))), (16, .bp 0 3), (17, (sv_S_impl_PlantValve a0_3)), (18, .int .i64 x3), (19, .rp [.str ((rd_impl_PlantValve a0_3 x3).f0), .str ((rd_impl_PlantValve a0_3 x3).f1), .str ((rd_impl_PlantValve a0_3 x3).f2), .str ((rd_impl_PlantValve a0_3 x3).f3)]), (20, .agg [.str ((rd_impl_PlantValve a0_3 x3).f0), .str ((rd_impl_PlantValve a0_3 x3).f1), .str ((rd_impl_PlantValve a0_3 x3).f2), .str ((rd_impl_PlantValve a0_3 x3).f3)]), (21, .bp 136 0), (22, .str ((rd_impl_PlantValve a0_3 x3).f0)), (23, .bool t3496), (24, .bool (!t3496)), (25, .bool (!t3496)), (26, .int .i64 x3), (27, .bool (decide (x3 > 0))), (28, .bool (decide (x3 > 0))), (29, .bp 0 3), (30, (sv_S_impl_PlantValve a0_3)), (31, .int .i64 x3), (32, .int .i64 (wrap64 (x3 - 1))), (33, .rp [.str ((rd_impl_PlantValve a0_3 (wrap64 (x3 - 1))).f0), .str ((rd_impl_PlantValve a0_3 (wrap64 (x3 - 1))).f1), .str ((rd_impl_PlantValve a0_3 (wrap64 (x3 - 1))).f2), .str ((rd_impl_PlantValve a0_3 (wrap64 (x3 - 1))).f3)]), (34, .rp [.str ((rd_impl_PlantValve a0_3 (wrap64 (x3 - 1))).f0), .str ((rd_impl_PlantValve a0_3 (wrap64 (x3 - 1))).f1), .str ((rd_impl_PlantValve a0_3 (wrap64 (x3 - 1))).f2), .str ((rd_impl_PlantValve a0_3 (wrap64 (x3 - 1))).f3)]), (35, .str ((rd_impl_PlantValve a0_3 (wrap64 (x3 - 1))).f0)), (36, .bp 136 0), (37, .str ((rd_impl_PlantValve a0_3 x3).f0)), (38, .bool (!(Op.bytesLess ((rd_impl_PlantValve a0_3 (wrap64 (x3 - 1))).f0).toList ((rd_impl_PlantValve a0_3 x3).f0).toList))), (39, .bool (!(Op.bytesLess ((rd_impl_PlantValve a0_3 (wrap64 (x3 - 1))).f0).toList ((rd_impl_PlantValve a0_3 x3).f0).toList))), (40, .bool (!(Op.bytesLess ((rd_impl_PlantValve a0_3 (wrap64 (x3 - 1))).f0).toList ((rd_impl_PlantValve a0_3 x3).f0).toList))), (41, .bool (!(Op.bytesLess ((rd_impl_PlantValve a0_3 (wrap64 (x3 - 1))).f0).toList ((rd_impl_PlantValve a0_3 x3).f0).toList))), (42, .bp 136 1), (43, .str ((rd_impl_PlantValve a0_3 x3).f1)), (44, .bp 136 2), (45, .str ((rd_impl_PlantValve a0_3 x3).f2)), (46, .bool (!(Op.bytesLess ((rd_impl_PlantValve a0_3 x3).f1).toList ((rd_impl_PlantValve a0_3 x3).f2).toList))), (47, .bool (!(Op.bytesLess ((rd_impl_PlantValve a0_3 x3).f1).toList ((rd_impl_PlantValve a0_3 x3).f2).toList))), (48, .bool (!(Op.bytesLess ((rd_impl_PlantValve a0_3 x3).f1).toList ((rd_impl_PlantValve a0_3 x3).f2).toList))), (49, .agg [(sv_str a0_0), (sv_S_impl_PlantFoe a0_1), (sv_S_impl_PlantPlace a0_2), (sv_S_impl_PlantValve a0_3)]), (50, .bp 136 1), (51, .str ((rd_impl_PlantValve a0_3 x3).f1)), (52, .int .i64 t3497), (53, .bool (decide (t3497 < 0))), (54, .bool (decide (t3497 < 0))), (55, .bool (decide (t3497 < 0))), (61, .bool true), (62, .bool true), (67, .bool true)] [(0, .box [(sv_str a0_0), (sv_S_impl_PlantFoe a0_1), (sv_S_impl_PlantPlace a0_2), (sv_S_impl_PlantValve a0_3)]), (136, .box [.str ((rd_impl_PlantValve a0_3 x3).f0), .str ((rd_impl_PlantValve a0_3 x3).f1), .str ((rd_impl_PlantValve a0_3 x3).f2), .str ((rd_impl_PlantValve a0_3 x3).f3)])] rfl ⟨rfl, ⟨rfl, ⟨rfl, ⟨rfl, ⟨rfl, ⟨rfl, ⟨rfl, ⟨rfl, ⟨rfl, ⟨rfl, ⟨rfl, ⟨rfl, ⟨rfl, ⟨rfl, ⟨rfl, ⟨rfl, ⟨rfl, ⟨rfl, ⟨rfl, ⟨rfl, ⟨rfl, ⟨rfl, ⟨rfl, ⟨rfl, ⟨rfl, ⟨rfl, ⟨rfl, ⟨rfl, ⟨rfl, ⟨rfl, ⟨rfl, ⟨rfl, ⟨rfl, ⟨rfl, ⟨rfl, ⟨rfl, ⟨rfl, ⟨rfl, ⟨rfl, ⟨rfl, ⟨rfl, ⟨rfl, ⟨rfl, ⟨rfl, ⟨rfl, ⟨rfl, ⟨rfl, ⟨rfl, ⟨rfl, ⟨rfl, ⟨rfl, ⟨rfl, trivial⟩⟩⟩⟩⟩⟩⟩⟩⟩⟩⟩⟩⟩⟩⟩⟩⟩⟩⟩⟩⟩⟩⟩⟩⟩⟩⟩⟩⟩⟩⟩⟩⟩⟩⟩⟩⟩⟩⟩⟩⟩⟩⟩⟩⟩⟩⟩⟩⟩⟩⟩⟩ ⟨rfl, ⟨rfl, trivial⟩⟩ ?_
  conv => whnf
  injection H with H; subst H
  exact ret_fz [] (rtA_eq rfl)
  conv => whnf
  refine Br.f ff_ ?_
  conv => whnf
  refine Br.f ff_ ?_
  conv => whnf
  refine Br.f ff_ ?_
  conv => whnf
  revert H; refine bind_elim (fun t3498 A H => ?_)
  refine call_mk (spec_l2Place.ac A) (avAL_cons (avA_agg (avL_cons (av_shut' rfl) (avL_cons (av_shut' rfl) (avL_cons (av_shut' rfl) (avL_cons (av_shut' rfl) (avL_nil)))))) (avAL_cons (avA_shut' rfl) (avAL_nil))) (Or.inl rfl) rfl rfl (Nat.le_of_ble_eq_true rfl) ?_
  conv => whnf
  refine Br.f ff_ ?_
  conv => whnf
  refine Br.f ff_ ?_
  conv => whnf
  refine br_d H (fun c H => ?_) (fun c H => ?_)
  conv => whnf
  refine Br.t ft_ ?_
  conv => whnf
  refine Br.t ft_ ?_
  conv => whnf
  refine Br.t ft_ ?_
  conv => whnf
  refine Br.t ft_ ?_
  conv => whnf
  refine cut_ 528 [(1, .bp 0 0), (3, .int .i64 x3), (4, .bp 136 0), (9, .int .i64 x3), (10, .bp 0 3), (11, (sv_S_impl_PlantValve a0_3)), (12, .int .i64 (a0_3.length : Int)), (13, .bool (decide (x3 < (a0_3.length : Int)))), (16, .bp 0 3), (17, (sv_S_impl_PlantValve a0_3)), (18, .int .i64 x3), (19, .rp [.str ((rd_impl_PlantValve a0_3 x3).f0), .str ((rd_impl_PlantValve a0_3 x3).f1), .str ((rd_impl_PlantValve a0_3 x3).f2), .str ((rd_impl_PlantValve a0_3 x3).f3)]), (20, .agg [.str ((rd_impl_PlantValve a0_3 x3).f0), .str ((rd_impl_PlantValve a0_3 x3).f1), .str ((rd_impl_PlantValve a0_3 x3).f2), .str ((rd_impl_PlantValve a0_3 x3).f3)]), (21, .bp 136 0), (22, .str ((rd_impl_PlantValve a0_3 x3).f0)), (23, .bool t3496), (24, .bool (!t3496)), (25, .bool (!t3496)), (26, .int .i64 x3), (27, .bool (decide (x3 > 0))), (28, .bool (decide (x3 > 0))), (29, .bp 0 3), (30, (sv_S_impl_PlantValve a0_3)), (31, .int .i64 x3), (32, .int .i64 (wrap64 (x3 - 1))), (33, .rp [.str ((rd_impl_PlantValve a0_3 (wrap64 (x3 - 1))).f0), .str ((rd_impl_PlantValve a0_3 (wrap64 (x3 - 1))).f1), .str ((rd_impl_PlantValve a0_3 (wrap64 (x3 - 1))).f2), .str ((rd_impl_PlantValve a0_3 (wrap64 (x3 - 1))).f3)]), (34, .rp [.str ((rd_impl_PlantValve a0_3 (wrap64 (x3 - 1))).f0), .str ((rd_impl_PlantValve a0_3 (wrap64 (x3 - 1))).f1), .str ((rd_impl_PlantValve a0_3 (wrap64 (x3 - 1))).f2), .str ((rd_impl_PlantValve a0_3 (wrap64 (x3 - 1))).f3)]), (35, .str ((rd_impl_PlantValve a0_3 (wrap64 (x3 - 1))).f0)), (36, .bp 136 0), (37, .str ((rd_impl_PlantValve a0_3 x3).f0)), (38, .bool (!(Op.bytesLess ((rd_impl_PlantValve a0_3 (wrap64 (x3 - 1))).f0).toList ((rd_impl_PlantValve a0_3 x3).f0).toList))), (39, .bool (!(Op.bytesLess ((rd_impl_PlantValve a0_3 (wrap64 (x3 - 1))).f0).toList ((rd_impl_PlantValve a0_3 x3).f0).toList))), (40, .bool (!(Op.bytesLess ((rd_impl_PlantValve a0_3 (wrap64 (x3 - 1))).f0).toList ((rd_impl_PlantValve a0_3 x3).f0).toList))), (41, .bool (!(Op.bytesLess ((rd_impl_PlantValve a0_3 (wrap64 (x3 - 1))).f0).toList ((rd_impl_PlantValve a0_3 x3).f0).toList))), (42, .bp 136 1), (43, .str ((rd_impl_PlantValve a0_3 x3).f1)), (44, .bp 136 2), (45, .str ((rd_impl_PlantValve a0_3 x3).f2)), (46, .bool (!(Op.bytesLess ((rd_impl_PlantValve a0_3 x3).f1).toList ((rd_impl_PlantValve a0_3 x3).f2).toList))), (47, .bool (!(Op.bytesLess ((rd_impl_PlantValve a0_3 x3).f1).toList ((rd_impl_PlantValve a0_3 x3).f2).toList))), (48, .bool (!(Op.bytesLess ((rd_impl_PlantValve a0_3 x3).f1).toList ((rd_impl_PlantValve a0_3 x3).f2).toList))), (49, .agg [(sv_str a0_0), (sv_S_impl_PlantFoe a0_1), (sv_S_impl_PlantPlace a0_2), (sv_S_impl_PlantValve a0_3)]), (50, .bp 136 1), (51, .str ((rd_impl_PlantValve a0_3 x3).f1)), (52, .int .i64 t3497), (53, .bool (decide (t3497 < 0))), (54, .bool (decide (t3497 < 0))), (55, .bool (decide (t3497 < 0))), (56, .agg [(sv_str a0_0), (sv_S_impl_PlantFoe a0_1), (sv_S_impl_PlantPlace a0_2), (sv_S_impl_PlantValve a0_3)]), (57, .bp 136 2), (58, .str ((rd_impl_PlantValve a0_3 x3).f2)), (59, .int .i64 t3498), (60, .bool (decide (t3498 < 0))), (61, .bool (decide (t3498 < 0))), (62, .bool (decide (t3498 < 0))), (67, .bool true)] [(0, .box [(sv_str a0_0), (sv_S_impl_PlantFoe a0_1), (sv_S_impl_PlantPlace a0_2), (sv_S_impl_PlantValve a0_3)]), (136, .box [.str ((rd_impl_PlantValve a0_3 x3).f0), .str ((rd_impl_PlantValve a0_3 x3).f1), .str ((rd_impl_PlantValve a0_3 x3).f2), .str ((rd_impl_PlantValve a0_3 x3).f3)])] rfl ⟨rfl, ⟨rfl, ⟨rfl, ⟨rfl, ⟨rfl, ⟨rfl, ⟨rfl, ⟨rfl, ⟨rfl, ⟨rfl, ⟨rfl, ⟨rfl, ⟨rfl, ⟨rfl, ⟨rfl, ⟨rfl, ⟨rfl, ⟨rfl, ⟨rfl, ⟨rfl, ⟨rfl, ⟨rfl, ⟨rfl, ⟨rfl, ⟨rfl, ⟨rfl, ⟨rfl, ⟨rfl, ⟨rfl, ⟨rfl, ⟨rfl, ⟨rfl, ⟨rfl, ⟨rfl, ⟨rfl, ⟨rfl, ⟨rfl, ⟨rfl, ⟨rfl, ⟨rfl, ⟨rfl, ⟨rfl, ⟨rfl, ⟨rfl, ⟨rfl, ⟨rfl, ⟨rfl, ⟨rfl, ⟨rfl, ⟨rfl, ⟨rfl, ⟨rfl, ⟨rfl, ⟨rfl, ⟨rfl, ⟨rfl, trivial⟩⟩⟩⟩⟩⟩⟩⟩⟩⟩⟩⟩⟩⟩⟩⟩⟩⟩⟩⟩⟩⟩⟩⟩⟩⟩⟩⟩⟩⟩⟩⟩⟩⟩⟩⟩⟩⟩⟩⟩⟩⟩⟩⟩⟩⟩⟩⟩⟩⟩⟩⟩⟩⟩⟩⟩ ⟨rfl, ⟨rfl, trivial⟩⟩ ?_
  conv => whnf
  refine Br.t rfl ?_
  conv => whnf
  refine cut_ 536 [(1, .bp 0 0), (2, .bool false), (3, .int .i64 x3), (4, .bp 136 0), (9, .int .i64 x3), (10, .bp 0 3), (11, (sv_S_impl_PlantValve a0_3)), (12, .int .i64 (a0_3.length : Int)), (13, .bool (decide (x3 < (a0_3.length : Int)))), (16, .bp 0 3), (17, (sv_S_impl_PlantValve a0_3)), (18, .int .i64 x3), (19, .rp [.str ((rd_impl_PlantValve a0_3 x3).f0), .str ((rd_impl_PlantValve a0_3 x3).f1), .str ((rd_impl_PlantValve a0_3 x3).f2), .str ((rd_impl_PlantValve a0_3 x3).f3)]), (20, .agg [.str ((rd_impl_PlantValve a0_3 x3).f0), .str ((rd_impl_PlantValve a0_3 x3).f1), .str ((rd_impl_PlantValve a0_3 x3).f2), .str ((rd_impl_PlantValve a0_3 x3).f3)]), (21, .bp 136 0), (22, .str ((rd_impl_PlantValve a0_3 x3).f0)), (23, .bool t3496), (24, .bool (!t3496)), (25, .bool (!t3496)), (26, .int .i64 x3), (27, .bool (decide (x3 > 0))), (28, .bool (decide (x3 > 0))), (29, .bp 0 3), (30, (sv_S_impl_PlantValve a0_3)), (31, .int .i64 x3), (32, .int .i64 (wrap64 (x3 - 1))), (33, .rp [.str ((rd_impl_PlantValve a0_3 (wrap64 (x3 - 1))).f0), .str ((rd_impl_PlantValve a0_3 (wrap64 (x3 - 1))).f1), .str ((rd_impl_PlantValve a0_3 (wrap64 (x3 - 1))).f2), .str ((rd_impl_PlantValve a0_3 (wrap64 (x3 - 1))).f3)]), (34, .rp [.str ((rd_impl_PlantValve a0_3 (wrap64 (x3 - 1))).f0), .str ((rd_impl_PlantValve a0_3 (wrap64 (x3 - 1))).f1), .str ((rd_impl_PlantValve a0_3 (wrap64 (x3 - 1))).f2), .str ((rd_impl_PlantValve a0_3 (wrap64 (x3 - 1))).f3)]), (35, .str ((rd_impl_PlantValve a0_3 (wrap64 (x3 - 1))).f0)), (36, .bp 136 0), (37, .str ((rd_impl_PlantValve a0_3 x3).f0)), (38, .bool (!(Op.bytesLess ((rd_impl_PlantValve a0_3 (wrap64 (x3 - 1))).f0).toList ((rd_impl_PlantValve a0_3 x3).f0).toList))), (39, .bool (!(Op.bytesLess ((rd_impl_PlantValve a0_3 (wrap64 (x3 - 1))).f0).toList ((rd_impl_PlantValve a0_3 x3).f0).toList))), (40, .bool (!(Op.bytesLess ((rd_impl_PlantValve a0_3 (wrap64 (x3 - 1))).f0).toList ((rd_impl_PlantValve a0_3 x3).f0).toList))), (41, .bool (!(Op.bytesLess ((rd_impl_PlantValve a0_3 (wrap64 (x3 - 1))).f0).toList ((rd_impl_PlantValve a0_3 x3).f0).toList))), (42, .bp 136 1), (43, .str ((rd_impl_PlantValve a0_3 x3).f1)), (44, .bp 136 2), (45, .str ((rd_impl_PlantValve a0_3 x3).f2)), (46, .bool (!(Op.bytesLess ((rd_impl_PlantValve a0_3 x3).f1).toList ((rd_impl_PlantValve a0_3 x3).f2).toList))), (47, .bool (!(Op.bytesLess ((rd_impl_PlantValve a0_3 x3).f1).toList ((rd_impl_PlantValve a0_3 x3).f2).toList))), (48, .bool (!(Op.bytesLess ((rd_impl_PlantValve a0_3 x3).f1).toList ((rd_impl_PlantValve a0_3 x3).f2).toList))), (49, .agg [(sv_str a0_0), (sv_S_impl_PlantFoe a0_1), (sv_S_impl_PlantPlace a0_2), (sv_S_impl_PlantValve a0_3)]), (50, .bp 136 1), (51, .str ((rd_impl_PlantValve a0_3 x3).f1)), (52, .int .i64 t3497), (53, .bool (decide (t3497 < 0))), (54, .bool (decide (t3497 < 0))), (55, .bool (decide (t3497 < 0))), (56, .agg [(sv_str a0_0), (sv_S_impl_PlantFoe a0_1), (sv_S_impl_PlantPlace a0_2), (sv_S_impl_PlantValve a0_3)]), (57, .bp 136 2), (58, .str ((rd_impl_PlantValve a0_3 x3).f2)), (59, .int .i64 t3498), (60, .bool (decide (t3498 < 0))), (61, .bool (decide (t3498 < 0))), (62, .bool (decide (t3498 < 0))), (67, .bool true)] [(0, .box [(sv_str a0_0), (sv_S_impl_PlantFoe a0_1), (sv_S_impl_PlantPlace a0_2), (sv_S_impl_PlantValve a0_3)]), (136, .box [.str ((rd_impl_PlantValve a0_3 x3).f0), .str ((rd_impl_PlantValve a0_3 x3).f1), .str ((rd_impl_PlantValve a0_3 x3).f2), .str ((rd_impl_PlantValve a0_3 x3).f3)])] rfl ⟨rfl, ⟨rfl, ⟨rfl, ⟨rfl, ⟨rfl, ⟨rfl, ⟨rfl, ⟨rfl, ⟨rfl, ⟨rfl, ⟨rfl, ⟨rfl, ⟨rfl, ⟨rfl, ⟨rfl, ⟨rfl, ⟨rfl, ⟨rfl, ⟨rfl, ⟨rfl, ⟨rfl, ⟨rfl, ⟨rfl, ⟨rfl, ⟨rfl, ⟨rfl, ⟨rfl, ⟨rfl, ⟨rfl, ⟨rfl, ⟨rfl, ⟨rfl, ⟨rfl, ⟨rfl, ⟨rfl, ⟨rfl, ⟨rfl, ⟨rfl, ⟨rfl, ⟨rfl, ⟨rfl, ⟨rfl, ⟨rfl, ⟨rfl, ⟨rfl, ⟨rfl, ⟨rfl, ⟨rfl, ⟨rfl, ⟨rfl, ⟨rfl, ⟨rfl, ⟨rfl, ⟨rfl, ⟨rfl, ⟨rfl, ⟨rfl, trivial⟩⟩⟩⟩⟩⟩⟩⟩⟩⟩⟩⟩⟩⟩⟩⟩⟩⟩⟩⟩⟩⟩⟩⟩⟩⟩⟩⟩⟩⟩⟩⟩⟩⟩⟩⟩⟩⟩⟩⟩⟩⟩⟩⟩⟩⟩⟩⟩⟩⟩⟩⟩⟩⟩⟩⟩⟩ ⟨rfl, ⟨rfl, trivial⟩⟩ ?_
  conv => whnf
  injection H with H; subst H
  exact ret_fz [] (rtA_eq rfl)
  conv => whnf
  refine Br.f ff_ ?_
  conv => whnf
  refine Br.f ff_ ?_
  conv => whnf
  revert H; refine bind_elim (fun t3499 A H => ?_)
  refine call_mk (spec_l2NameOk.ac A) (avAL_cons (avA_shut' rfl) (avAL_nil)) (Or.inl rfl) rfl rfl (Nat.le_of_ble_eq_true rfl) ?_
  conv => whnf
  refine Br.f ff_ ?_
  conv => whnf
  refine Br.f ff_ ?_
  conv => whnf
  refine cut_ 528 [(1, .bp 0 0), (3, .int .i64 x3), (4, .bp 136 0), (9, .int .i64 x3), (10, .bp 0 3), (11, (sv_S_impl_PlantValve a0_3)), (12, .int .i64 (a0_3.length : Int)), (13, .bool (decide (x3 < (a0_3.length : Int)))), (16, .bp 0 3), (17, (sv_S_impl_PlantValve a0_3)), (18, .int .i64 x3), (19, .rp [.str ((rd_impl_PlantValve a0_3 x3).f0), .str ((rd_impl_PlantValve a0_3 x3).f1), .str ((rd_impl_PlantValve a0_3 x3).f2), .str ((rd_impl_PlantValve a0_3 x3).f3)]), (20, .agg [.str ((rd_impl_PlantValve a0_3 x3).f0), .str ((rd_impl_PlantValve a0_3 x3).f1), .str ((rd_impl_PlantValve a0_3 x3).f2), .str ((rd_impl_PlantValve a0_3 x3).f3)]), (21, .bp 136 0), (22, .str ((rd_impl_PlantValve a0_3 x3).f0)), (23, .bool t3496), (24, .bool (!t3496)), (25, .bool (!t3496)), (26, .int .i64 x3), (27, .bool (decide (x3 > 0))), (28, .bool (decide (x3 > 0))), (29, .bp 0 3), (30, (sv_S_impl_PlantValve a0_3)), (31, .int .i64 x3), (32, .int .i64 (wrap64 (x3 - 1))), (33, .rp [.str ((rd_impl_PlantValve a0_3 (wrap64 (x3 - 1))).f0), .str ((rd_impl_PlantValve a0_3 (wrap64 (x3 - 1))).f1), .str ((rd_impl_PlantValve a0_3 (wrap64 (x3 - 1))).f2), .str ((rd_impl_PlantValve a0_3 (wrap64 (x3 - 1))).f3)]), (34, .rp [.str ((rd_impl_PlantValve a0_3 (wrap64 (x3 - 1))).f0), .str ((rd_impl_PlantValve a0_3 (wrap64 (x3 - 1))).f1), .str ((rd_impl_PlantValve a0_3 (wrap64 (x3 - 1))).f2), .str ((rd_impl_PlantValve a0_3 (wrap64 (x3 - 1))).f3)]), (35, .str ((rd_impl_PlantValve a0_3 (wrap64 (x3 - 1))).f0)), (36, .bp 136 0), (37, .str ((rd_impl_PlantValve a0_3 x3).f0)), (38, .bool (!(Op.bytesLess ((rd_impl_PlantValve a0_3 (wrap64 (x3 - 1))).f0).toList ((rd_impl_PlantValve a0_3 x3).f0).toList))), (39, .bool (!(Op.bytesLess ((rd_impl_PlantValve a0_3 (wrap64 (x3 - 1))).f0).toList ((rd_impl_PlantValve a0_3 x3).f0).toList))), (40, .bool (!(Op.bytesLess ((rd_impl_PlantValve a0_3 (wrap64 (x3 - 1))).f0).toList ((rd_impl_PlantValve a0_3 x3).f0).toList))), (41, .bool (!(Op.bytesLess ((rd_impl_PlantValve a0_3 (wrap64 (x3 - 1))).f0).toList ((rd_impl_PlantValve a0_3 x3).f0).toList))), (42, .bp 136 1), (43, .str ((rd_impl_PlantValve a0_3 x3).f1)), (44, .bp 136 2), (45, .str ((rd_impl_PlantValve a0_3 x3).f2)), (46, .bool (!(Op.bytesLess ((rd_impl_PlantValve a0_3 x3).f1).toList ((rd_impl_PlantValve a0_3 x3).f2).toList))), (47, .bool (!(Op.bytesLess ((rd_impl_PlantValve a0_3 x3).f1).toList ((rd_impl_PlantValve a0_3 x3).f2).toList))), (48, .bool (!(Op.bytesLess ((rd_impl_PlantValve a0_3 x3).f1).toList ((rd_impl_PlantValve a0_3 x3).f2).toList))), (49, .agg [(sv_str a0_0), (sv_S_impl_PlantFoe a0_1), (sv_S_impl_PlantPlace a0_2), (sv_S_impl_PlantValve a0_3)]), (50, .bp 136 1), (51, .str ((rd_impl_PlantValve a0_3 x3).f1)), (52, .int .i64 t3497), (53, .bool (decide (t3497 < 0))), (54, .bool (decide (t3497 < 0))), (55, .bool (decide (t3497 < 0))), (56, .agg [(sv_str a0_0), (sv_S_impl_PlantFoe a0_1), (sv_S_impl_PlantPlace a0_2), (sv_S_impl_PlantValve a0_3)]), (57, .bp 136 2), (58, .str ((rd_impl_PlantValve a0_3 x3).f2)), (59, .int .i64 t3498), (60, .bool (decide (t3498 < 0))), (61, .bool (decide (t3498 < 0))), (62, .bool (decide (t3498 < 0))), (63, .bp 136 3), (64, .str ((rd_impl_PlantValve a0_3 x3).f3)), (65, .bool t3499), (66, .bool (!t3499)), (67, .bool (!t3499))] [(0, .box [(sv_str a0_0), (sv_S_impl_PlantFoe a0_1), (sv_S_impl_PlantPlace a0_2), (sv_S_impl_PlantValve a0_3)]), (136, .box [.str ((rd_impl_PlantValve a0_3 x3).f0), .str ((rd_impl_PlantValve a0_3 x3).f1), .str ((rd_impl_PlantValve a0_3 x3).f2), .str ((rd_impl_PlantValve a0_3 x3).f3)])] rfl ⟨rfl, ⟨rfl, ⟨rfl, ⟨rfl, ⟨rfl, ⟨rfl, ⟨rfl, ⟨rfl, ⟨rfl, ⟨rfl, ⟨rfl, ⟨rfl, ⟨rfl, ⟨rfl, ⟨rfl, ⟨rfl, ⟨rfl, ⟨rfl, ⟨rfl, ⟨rfl, ⟨rfl, ⟨rfl, ⟨rfl, ⟨rfl, ⟨rfl, ⟨rfl, ⟨rfl, ⟨rfl, ⟨rfl, ⟨rfl, ⟨rfl, ⟨rfl, ⟨rfl, ⟨rfl, ⟨rfl, ⟨rfl, ⟨rfl, ⟨rfl, ⟨rfl, ⟨rfl, ⟨rfl, ⟨rfl, ⟨rfl, ⟨rfl, ⟨rfl, ⟨rfl, ⟨rfl, ⟨rfl, ⟨rfl, ⟨rfl, ⟨rfl, ⟨rfl, ⟨rfl, ⟨rfl, ⟨rfl, ⟨rfl, ⟨rfl, ⟨rfl, ⟨rfl, ⟨rfl, trivial⟩⟩⟩⟩⟩⟩⟩⟩⟩⟩⟩⟩⟩⟩⟩⟩⟩⟩⟩⟩⟩⟩⟩⟩⟩⟩⟩⟩⟩⟩⟩⟩⟩⟩⟩⟩⟩⟩⟩⟩⟩⟩⟩⟩⟩⟩⟩⟩⟩⟩⟩⟩⟩⟩⟩⟩⟩⟩⟩⟩ ⟨rfl, ⟨rfl, trivial⟩⟩ ?_
  conv => whnf
  refine br_nt H (fun c H => ?_) (fun c H => ?_)
  conv => whnf
  exact ⟨(k, wrap64 (x3 + 1)), [], ⟨H, lt_⟩, lt_, (fits_of ⟨.inl ⟨rfl, rfl⟩, trivial⟩ trivial fi_ trivial rfl)⟩
  conv => whnf
  refine cut_ 536 [(1, .bp 0 0), (2, .bool false), (3, .int .i64 x3), (4, .bp 136 0), (9, .int .i64 x3), (10, .bp 0 3), (11, (sv_S_impl_PlantValve a0_3)), (12, .int .i64 (a0_3.length : Int)), (13, .bool (decide (x3 < (a0_3.length : Int)))), (16, .bp 0 3), (17, (sv_S_impl_PlantValve a0_3)), (18, .int .i64 x3), (19, .rp [.str ((rd_impl_PlantValve a0_3 x3).f0), .str ((rd_impl_PlantValve a0_3 x3).f1), .str ((rd_impl_PlantValve a0_3 x3).f2), .str ((rd_impl_PlantValve a0_3 x3).f3)]), (20, .agg [.str ((rd_impl_PlantValve a0_3 x3).f0), .str ((rd_impl_PlantValve a0_3 x3).f1), .str ((rd_impl_PlantValve a0_3 x3).f2), .str ((rd_impl_PlantValve a0_3 x3).f3)]), (21, .bp 136 0), (22, .str ((rd_impl_PlantValve a0_3 x3).f0)), (23, .bool t3496), (24, .bool (!t3496)), (25, .bool (!t3496)), (26, .int .i64 x3), (27, .bool (decide (x3 > 0))), (28, .bool (decide (x3 > 0))), (29, .bp 0 3), (30, (sv_S_impl_PlantValve a0_3)), (31, .int .i64 x3), (32, .int .i64 (wrap64 (x3 - 1))), (33, .rp [.str ((rd_impl_PlantValve a0_3 (wrap64 (x3 - 1))).f0), .str ((rd_impl_PlantValve a0_3 (wrap64 (x3 - 1))).f1), .str ((rd_impl_PlantValve a0_3 (wrap64 (x3 - 1))).f2), .str ((rd_impl_PlantValve a0_3 (wrap64 (x3 - 1))).f3)]), (34, .rp [.str ((rd_impl_PlantValve a0_3 (wrap64 (x3 - 1))).f0), .str ((rd_impl_PlantValve a0_3 (wrap64 (x3 - 1))).f1), .str ((rd_impl_PlantValve a0_3 (wrap64 (x3 - 1))).f2), .str ((rd_impl_PlantValve a0_3 (wrap64 (x3 - 1))).f3)]), (35, .str ((rd_impl_PlantValve a0_3 (wrap64 (x3 - 1))).f0)), (36, .bp 136 0), (37, .str ((rd_impl_PlantValve a0_3 x3).f0)), (38, .bool (!(Op.bytesLess ((rd_impl_PlantValve a0_3 (wrap64 (x3 - 1))).f0).toList ((rd_impl_PlantValve a0_3 x3).f0).toList))), (39, .bool (!(Op.bytesLess ((rd_impl_PlantValve a0_3 (wrap64 (x3 - 1))).f0).toList ((rd_impl_PlantValve a0_3 x3).f0).toList))), (40, .bool (!(Op.bytesLess ((rd_impl_PlantValve a0_3 (wrap64 (x3 - 1))).f0).toList ((rd_impl_PlantValve a0_3 x3).f0).toList))), (41, .bool (!(Op.bytesLess ((rd_impl_PlantValve a0_3 (wrap64 (x3 - 1))).f0).toList ((rd_impl_PlantValve a0_3 x3).f0).toList))), (42, .bp 136 1), (43, .str ((rd_impl_PlantValve a0_3 x3).f1)), (44, .bp 136 2), (45, .str ((rd_impl_PlantValve a0_3 x3).f2)), (46, .bool (!(Op.bytesLess ((rd_impl_PlantValve a0_3 x3).f1).toList ((rd_impl_PlantValve a0_3 x3).f2).toList))), (47, .bool (!(Op.bytesLess ((rd_impl_PlantValve a0_3 x3).f1).toList ((rd_impl_PlantValve a0_3 x3).f2).toList))), (48, .bool (!(Op.bytesLess ((rd_impl_PlantValve a0_3 x3).f1).toList ((rd_impl_PlantValve a0_3 x3).f2).toList))), (49, .agg [(sv_str a0_0), (sv_S_impl_PlantFoe a0_1), (sv_S_impl_PlantPlace a0_2), (sv_S_impl_PlantValve a0_3)]), (50, .bp 136 1), (51, .str ((rd_impl_PlantValve a0_3 x3).f1)), (52, .int .i64 t3497), (53, .bool (decide (t3497 < 0))), (54, .bool (decide (t3497 < 0))), (55, .bool (decide (t3497 < 0))), (56, .agg [(sv_str a0_0), (sv_S_impl_PlantFoe a0_1), (sv_S_impl_PlantPlace a0_2), (sv_S_impl_PlantValve a0_3)]), (57, .bp 136 2), (58, .str ((rd_impl_PlantValve a0_3 x3).f2)), (59, .int .i64 t3498), (60, .bool (decide (t3498 < 0))), (61, .bool (decide (t3498 < 0))), (62, .bool (decide (t3498 < 0))), (63, .bp 136 3), (64, .str ((rd_impl_PlantValve a0_3 x3).f3)), (65, .bool t3499), (66, .bool (!t3499)), (67, .bool (!t3499))] [(0, .box [(sv_str a0_0), (sv_S_impl_PlantFoe a0_1), (sv_S_impl_PlantPlace a0_2), (sv_S_impl_PlantValve a0_3)]), (136, .box [.str ((rd_impl_PlantValve a0_3 x3).f0), .str ((rd_impl_PlantValve a0_3 x3).f1), .str ((rd_impl_PlantValve a0_3 x3).f2), .str ((rd_impl_PlantValve a0_3 x3).f3)])] rfl ⟨rfl, ⟨rfl, ⟨rfl, ⟨rfl, ⟨rfl, ⟨rfl, ⟨rfl, ⟨rfl, ⟨rfl, ⟨rfl, ⟨rfl, ⟨rfl, ⟨rfl, ⟨rfl, ⟨rfl, ⟨rfl, ⟨rfl, ⟨rfl, ⟨rfl, ⟨rfl, ⟨rfl, ⟨rfl, ⟨rfl, ⟨rfl, ⟨rfl, ⟨rfl, ⟨rfl, ⟨rfl, ⟨rfl, ⟨rfl, ⟨rfl, ⟨rfl, ⟨rfl, ⟨rfl, ⟨rfl, ⟨rfl, ⟨rfl, ⟨rfl, ⟨rfl, ⟨rfl, ⟨rfl, ⟨rfl, ⟨rfl, ⟨rfl, ⟨rfl, ⟨rfl, ⟨rfl, ⟨rfl, ⟨rfl, ⟨rfl, ⟨rfl, ⟨rfl, ⟨rfl, ⟨rfl, ⟨rfl, ⟨rfl, ⟨rfl, ⟨rfl, ⟨rfl, ⟨rfl, ⟨rfl, trivial⟩⟩⟩⟩⟩⟩⟩⟩⟩⟩⟩⟩⟩⟩⟩⟩⟩⟩⟩⟩⟩⟩⟩⟩⟩⟩⟩⟩⟩⟩⟩⟩⟩⟩⟩⟩⟩⟩⟩⟩⟩⟩⟩⟩⟩⟩⟩⟩⟩⟩⟩⟩⟩⟩⟩⟩⟩⟩⟩⟩⟩ ⟨rfl, ⟨rfl, trivial⟩⟩ ?_
  conv => whnf
  injection H with H; subst H
  exact ret_fz [] (rtA_eq rfl)
  conv => whnf
  refine Br.t ft_ ?_
  conv => whnf
  refine Br.t ft_ ?_
  conv => whnf
  refine Br.t ft_ ?_
  conv => whnf
  refine Br.t ft_ ?_
  conv => whnf
  refine Br.t ft_ ?_
  conv => whnf
  refine Br.t rfl ?_
  conv => whnf
  refine Br.t rfl ?_
  conv => whnf
  refine Br.t rfl ?_
  conv => whnf
  refine Br.t rfl ?_
  conv => whnf
  refine Br.t rfl ?_
  conv => whnf
  refine Br.t rfl ?_
  conv => whnf
  refine Br.t rfl ?_
  conv => whnf
  refine Br.t rfl ?_
  conv => whnf
  refine Br.t rfl ?_
  conv => whnf
  refine Br.t rfl ?_
  conv => whnf
  refine Br.t rfl ?_
  conv => whnf
  refine cut_ 528 [(1, .bp 0 0), (3, .int .i64 x3), (4, .bp 136 0), (9, .int .i64 x3), (10, .bp 0 3), (11, (sv_S_impl_PlantValve a0_3)), (12, .int .i64 (a0_3.length : Int)), (13, .bool (decide (x3 < (a0_3.length : Int)))), (16, .bp 0 3), (17, (sv_S_impl_PlantValve a0_3)), (18, .int .i64 x3), (19, .rp [.str ((rd_impl_PlantValve a0_3 x3).f0), .str ((rd_impl_PlantValve a0_3 x3).f1), .str ((rd_impl_PlantValve a0_3 x3).f2), .str ((rd_impl_PlantValve a0_3 x3).f3)]), (20, .agg [.str ((rd_impl_PlantValve a0_3 x3).f0), .str ((rd_impl_PlantValve a0_3 x3).f1), .str ((rd_impl_PlantValve a0_3 x3).f2), .str ((rd_impl_PlantValve a0_3 x3).f3)]), (21, .bp 136 0), (22, .str ((rd_impl_PlantValve a0_3 x3).f0)), (23, .bool t3496), (24, .bool (!t3496)), (25, .bool (!t3496)), (26, .int .i64 x3), (27, .bool (decide (x3 > 0))), (28, .bool (decide (x3 > 0))), (29, .bp 0 3), (30, (sv_S_impl_PlantValve a0_3)), (31, .int .i64 x3), (32, .int .i64 (wrap64 (x3 - 1))), (33, .rp [.str ((rd_impl_PlantValve a0_3 (wrap64 (x3 - 1))).f0), .str ((rd_impl_PlantValve a0_3 (wrap64 (x3 - 1))).f1), .str ((rd_impl_PlantValve a0_3 (wrap64 (x3 - 1))).f2), .str ((rd_impl_PlantValve a0_3 (wrap64 (x3 - 1))).f3)]), (34, .rp [.str ((rd_impl_PlantValve a0_3 (wrap64 (x3 - 1))).f0), .str ((rd_impl_PlantValve a0_3 (wrap64 (x3 - 1))).f1), .str ((rd_impl_PlantValve a0_3 (wrap64 (x3 - 1))).f2), .str ((rd_impl_PlantValve a0_3 (wrap64 (x3 - 1))).f3)]), (35, .str ((rd_impl_PlantValve a0_3 (wrap64 (x3 - 1))).f0)), (36, .bp 136 0), (37, .str ((rd_impl_PlantValve a0_3 x3).f0)), (38, .bool (!(Op.bytesLess ((rd_impl_PlantValve a0_3 (wrap64 (x3 - 1))).f0).toList ((rd_impl_PlantValve a0_3 x3).f0).toList))), (39, .bool (!(Op.bytesLess ((rd_impl_PlantValve a0_3 (wrap64 (x3 - 1))).f0).toList ((rd_impl_PlantValve a0_3 x3).f0).toList))), (40, .bool (!(Op.bytesLess ((rd_impl_PlantValve a0_3 (wrap64 (x3 - 1))).f0).toList ((rd_impl_PlantValve a0_3 x3).f0).toList))), (41, .bool (!(Op.bytesLess ((rd_impl_PlantValve a0_3 (wrap64 (x3 - 1))).f0).toList ((rd_impl_PlantValve a0_3 x3).f0).toList))), (42, .bp 136 1), (43, .str ((rd_impl_PlantValve a0_3 x3).f1)), (44, .bp 136 2), (45, .str ((rd_impl_PlantValve a0_3 x3).f2)), (46, .bool (!(Op.bytesLess ((rd_impl_PlantValve a0_3 x3).f1).toList ((rd_impl_PlantValve a0_3 x3).f2).toList))), (47, .bool (!(Op.bytesLess ((rd_impl_PlantValve a0_3 x3).f1).toList ((rd_impl_PlantValve a0_3 x3).f2).toList))), (48, .bool (!(Op.bytesLess ((rd_impl_PlantValve a0_3 x3).f1).toList ((rd_impl_PlantValve a0_3 x3).f2).toList))), (54, .bool true), (55, .bool true), (61, .bool true), (62, .bool true), (67, .bool true)] [(0, .box [(sv_str a0_0), (sv_S_impl_PlantFoe a0_1), (sv_S_impl_PlantPlace a0_2), (sv_S_impl_PlantValve a0_3)]), (136, .box [.str ((rd_impl_PlantValve a0_3 x3).f0), .str ((rd_impl_PlantValve a0_3 x3).f1), .str ((rd_impl_PlantValve a0_3 x3).f2), .str ((rd_impl_PlantValve a0_3 x3).f3)])] rfl ⟨rfl, ⟨rfl, ⟨rfl, ⟨rfl, ⟨rfl, ⟨rfl, ⟨rfl, ⟨rfl, ⟨rfl, ⟨rfl, ⟨rfl, ⟨rfl, ⟨rfl, ⟨rfl, ⟨rfl, ⟨rfl, ⟨rfl, ⟨rfl, ⟨rfl, ⟨rfl, ⟨rfl, ⟨rfl, ⟨rfl, ⟨rfl, ⟨rfl, ⟨rfl, ⟨rfl, ⟨rfl, ⟨rfl, ⟨rfl, ⟨rfl, ⟨rfl, ⟨rfl, ⟨rfl, ⟨rfl, ⟨rfl, ⟨rfl, ⟨rfl, ⟨rfl, ⟨rfl, ⟨rfl, ⟨rfl, ⟨rfl, ⟨rfl, ⟨rfl, ⟨rfl, trivial⟩⟩⟩⟩⟩⟩⟩⟩⟩⟩⟩⟩⟩⟩⟩⟩⟩⟩⟩⟩⟩⟩⟩⟩⟩⟩⟩⟩⟩⟩⟩⟩⟩⟩⟩⟩⟩⟩⟩⟩⟩⟩⟩⟩⟩⟩ ⟨rfl, ⟨rfl, trivial⟩⟩ ?_
  conv => whnf
  refine Br.t rfl ?_
  conv => whnf
  refine cut_ 536 [(1, .bp 0 0), (2, .bool false), (3, .int .i64 x3), (4, .bp 136 0), (9, .int .i64 x3), (10, .bp 0 3), (11, (sv_S_impl_PlantValve a0_3)), (12, .int .i64 (a0_3.length : Int)), (13, .bool (decide (x3 < (a0_3.length : Int)))), (16, .bp 0 3), (17, (sv_S_impl_PlantValve a0_3)), (18, .int .i64 x3), (19, .rp [.str ((rd_impl_PlantValve a0_3 x3).f0), .str ((rd_impl_PlantValve a0_3 x3).f1), .str ((rd_impl_PlantValve a0_3 x3).f2), .str ((rd_impl_PlantValve a0_3 x3).f3)]), (20, .agg [.str ((rd_impl_PlantValve a0_3 x3).f0), .str ((rd_impl_PlantValve a0_3 x3).f1), .str ((rd_impl_PlantValve a0_3 x3).f2), .str ((rd_impl_PlantValve a0_3 x3).f3)]), (21, .bp 136 0), (22, .str ((rd_impl_PlantValve a0_3 x3).f0)), (23, .bool t3496), (24, .bool (!t3496)), (25, .bool (!t3496)), (26, .int .i64 x3), (27, .bool (decide (x3 > 0))), (28, .bool (decide (x3 > 0))), (29, .bp 0 3), (30, (sv_S_impl_PlantValve a0_3)), (31, .int .i64 x3), (32, .int .i64 (wrap64 (x3 - 1))), (33, .rp [.str ((rd_impl_PlantValve a0_3 (wrap64 (x3 - 1))).f0), .str ((rd_impl_PlantValve a0_3 (wrap64 (x3 - 1))).f1), .str ((rd_impl_PlantValve a0_3 (wrap64 (x3 - 1))).f2), .str ((rd_impl_PlantValve a0_3 (wrap64 (x3 - 1))).f3)]), (34, .rp [.str ((rd_impl_PlantValve a0_3 (wrap64 (x3 - 1))).f0), .str ((rd_impl_PlantValve a0_3 (wrap64 (x3 - 1))).f1), .str ((rd_impl_PlantValve a0_3 (wrap64 (x3 - 1))).f2), .str ((rd_impl_PlantValve a0_3 (wrap64 (x3 - 1))).f3)]), (35, .str ((rd_impl_PlantValve a0_3 (wrap64 (x3 - 1))).f0)), (36, .bp 136 0), (37, .str ((rd_impl_PlantValve a0_3 x3).f0)), (38, .bool (!(Op.bytesLess ((rd_impl_PlantValve a0_3 (wrap64 (x3 - 1))).f0).toList ((rd_impl_PlantValve a0_3 x3).f0).toList))), (39, .bool (!(Op.bytesLess ((rd_impl_PlantValve a0_3 (wrap64 (x3 - 1))).f0).toList ((rd_impl_PlantValve a0_3 x3).f0).toList))), (40, .bool (!(Op.bytesLess ((rd_impl_PlantValve a0_3 (wrap64 (x3 - 1))).f0).toList ((rd_impl_PlantValve a0_3 x3).f0).toList))), (41, .bool (!(Op.bytesLess ((rd_impl_PlantValve a0_3 (wrap64 (x3 - 1))).f0).toList ((rd_impl_PlantValve a0_3 x3).f0).toList))), (42, .bp 136 1), (43, .str ((rd_impl_PlantValve a0_3 x3).f1)), (44, .bp 136 2), (45, .str ((rd_impl_PlantValve a0_3 x3).f2)), (46, .bool (!(Op.bytesLess ((rd_impl_PlantValve a0_3 x3).f1).toList ((rd_impl_PlantValve a0_3 x3).f2).toList))), (47, .bool (!(Op.bytesLess ((rd_impl_PlantValve a0_3 x3).f1).toList ((rd_impl_PlantValve a0_3 x3).f2).toList))), (48, .bool (!(Op.bytesLess ((rd_impl_PlantValve a0_3 x3).f1).toList ((rd_impl_PlantValve a0_3 x3).f2).toList))), (54, .bool true), (55, .bool true), (61, .bool true), (62, .bool true), (67, .bool true)] [(0, .box [(sv_str a0_0), (sv_S_impl_PlantFoe a0_1), (sv_S_impl_PlantPlace a0_2), (sv_S_impl_PlantValve a0_3)]), (136, .box [.str ((rd_impl_PlantValve a0_3 x3).f0), .str ((rd_impl_PlantValve a0_3 x3).f1), .str ((rd_impl_PlantValve a0_3 x3).f2), .str ((rd_impl_PlantValve a0_3 x3).f3)])] rfl ⟨rfl, ⟨rfl, ⟨rfl, ⟨rfl, ⟨rfl, ⟨rfl, ⟨rfl, ⟨rfl, ⟨rfl, ⟨rfl, ⟨rfl, ⟨rfl, ⟨rfl, ⟨rfl, ⟨rfl, ⟨rfl, ⟨rfl, ⟨rfl, ⟨rfl, ⟨rfl, ⟨rfl, ⟨rfl, ⟨rfl, ⟨rfl, ⟨rfl, ⟨rfl, ⟨rfl, ⟨rfl, ⟨rfl, ⟨rfl, ⟨rfl, ⟨rfl, ⟨rfl, ⟨rfl, ⟨rfl, ⟨rfl, ⟨rfl, ⟨rfl, ⟨rfl, ⟨rfl, ⟨rfl, ⟨rfl, ⟨rfl, ⟨rfl, ⟨rfl, ⟨rfl, ⟨rfl, trivial⟩⟩⟩⟩⟩⟩⟩⟩⟩⟩⟩⟩⟩⟩⟩⟩⟩⟩⟩⟩⟩⟩⟩⟩⟩⟩⟩⟩⟩⟩⟩⟩⟩⟩⟩⟩⟩⟩⟩⟩⟩⟩⟩⟩⟩⟩⟩ ⟨rfl, ⟨rfl, trivial⟩⟩ ?_
  conv => whnf
  injection H with H; subst H
  exact ret_fz [] (rtA_eq rfl)
  conv => whnf
  refine Br.t ft_ ?_
  conv => whnf
  refine Br.t ft_ ?_
  conv => whnf
  refine Br.t ft_ ?_
  conv => whnf
  refine Br.t ft_ ?_
  conv => whnf
  refine Br.t ft_ ?_
  conv => whnf
  refine Br.t rfl ?_
  conv => whnf
  refine Br.t rfl ?_
  conv => whnf
  refine Br.t rfl ?_
  conv => whnf
  refine Br.t rfl ?_
  conv => whnf
  refine Br.t rfl ?_
  conv => whnf
  refine Br.t rfl ?_
  conv => whnf
  refine Br.t rfl ?_
  conv => whnf
  refine Br.t rfl ?_
  conv => whnf
  refine Br.t rfl ?_
  conv => whnf
  refine Br.t rfl ?_
  conv => whnf
  refine Br.t rfl ?_
  conv => whnf
  refine Br.t rfl ?_
  conv => whnf
  refine Br.t rfl ?_
  conv => whnf
  refine Br.t rfl ?_
  conv => whnf
  refine Br.t rfl ?_
  conv => whnf
  refine Br.t rfl ?_
  conv => whnf
  refine Br.t rfl ?_
  conv => whnf
  refine cut_ 528 [(1, .bp 0 0), (3, .int .i64 x3), (4, .bp 136 0), (9, .int .i64 x3), (10, .bp 0 3), (11, (sv_S_impl_PlantValve a0_3)), (12, .int .i64 (a0_3.length : Int)), (13, .bool (decide (x3 < (a0_3.length : Int)))), (16, .bp 0 3), (17, (sv_S_impl_PlantValve a0_3)), (18, .int .i64 x3), (19, .rp [.str ((rd_impl_PlantValve a0_3 x3).f0), .str ((rd_impl_PlantValve a0_3 x3).f1), .str ((rd_impl_PlantValve a0_3 x3).f2), .str ((rd_impl_PlantValve a0_3 x3).f3)]), (20, .agg [.str ((rd_impl_PlantValve a0_3 x3).f0), .str ((rd_impl_PlantValve a0_3 x3).f1), .str ((rd_impl_PlantValve a0_3 x3).f2), .str ((rd_impl_PlantValve a0_3 x3).f3)]), (21, .bp 136 0), (22, .str ((rd_impl_PlantValve a0_3 x3).f0)), (23, .bool t3496), (24, .bool (!t3496)), (25, .bool (!t3496)), (26, .int .i64 x3), (27, .bool (decide (x3 > 0))), (28, .bool (decide (x3 > 0))), (29, .bp 0 3), (30, (sv_S_impl_PlantValve a0_3)), (31, .int .i64 x3), (32, .int .i64 (wrap64 (x3 - 1))), (33, .rp [.str ((rd_impl_PlantValve a0_3 (wrap64 (x3 - 1))).f0), .str ((rd_impl_PlantValve a0_3 (wrap64 (x3 - 1))).f1), .str ((rd_impl_PlantValve a0_3 (wrap64 (x3 - 1))).f2), .str ((rd_impl_PlantValve a0_3 (wrap64 (x3 - 1))).f3)]), (34, .rp [.str ((rd_impl_PlantValve a0_3 (wrap64 (x3 - 1))).f0), .str ((rd_impl_PlantValve a0_3 (wrap64 (x3 - 1))).f1), .str ((rd_impl_PlantValve a0_3 (wrap64 (x3 - 1))).f2), .str ((rd_impl_PlantValve a0_3 (wrap64 (x3 - 1))).f3)]), (35, .str ((rd_impl_PlantValve a0_3 (wrap64 (x3 - 1))).f0)), (36, .bp 136 0), (37, .str ((rd_impl_PlantValve a0_3 x3).f0)), (38, .bool (!(Op.bytesLess ((rd_impl_PlantValve a0_3 (wrap64 (x3 - 1))).f0).toList ((rd_impl_PlantValve a0_3 x3).f0).toList))), (39, .bool (!(Op.bytesLess ((rd_impl_PlantValve a0_3 (wrap64 (x3 - 1))).f0).toList ((rd_impl_PlantValve a0_3 x3).f0).toList))), (40, .bool (!(Op.bytesLess ((rd_impl_PlantValve a0_3 (wrap64 (x3 - 1))).f0).toList ((rd_impl_PlantValve a0_3 x3).f0).toList))), (41, .bool (!(Op.bytesLess ((rd_impl_PlantValve a0_3 (wrap64 (x3 - 1))).f0).toList ((rd_impl_PlantValve a0_3 x3).f0).toList))), (47, .bool true), (48, .bool true), (54, .bool true), (55, .bool true), (61, .bool true), (62, .bool true), (67, .bool true)] [(0, .box [(sv_str a0_0), (sv_S_impl_PlantFoe a0_1), (sv_S_impl_PlantPlace a0_2), (sv_S_impl_PlantValve a0_3)]), (136, .box [.str ((rd_impl_PlantValve a0_3 x3).f0), .str ((rd_impl_PlantValve a0_3 x3).f1), .str ((rd_impl_PlantValve a0_3 x3).f2), .str ((rd_impl_PlantValve a0_3 x3).f3)])] rfl ⟨rfl, ⟨rfl, ⟨rfl, ⟨rfl, ⟨rfl, ⟨rfl, ⟨rfl, ⟨rfl, ⟨rfl, ⟨rfl, ⟨rfl, ⟨rfl, ⟨rfl, ⟨rfl, ⟨rfl, ⟨rfl, ⟨rfl, ⟨rfl, ⟨rfl, ⟨rfl, ⟨rfl, ⟨rfl, ⟨rfl, ⟨rfl, ⟨rfl, ⟨rfl, ⟨rfl, ⟨rfl, ⟨rfl, ⟨rfl, ⟨rfl, ⟨rfl, ⟨rfl, ⟨rfl, ⟨rfl, ⟨rfl, ⟨rfl, ⟨rfl, ⟨rfl, ⟨rfl, ⟨rfl, trivial⟩⟩⟩⟩⟩⟩⟩⟩⟩⟩⟩⟩⟩⟩⟩⟩⟩⟩⟩⟩⟩⟩⟩⟩⟩⟩⟩⟩⟩⟩⟩⟩⟩⟩⟩⟩⟩⟩⟩⟩⟩ ⟨rfl, ⟨rfl, trivial⟩⟩ ?_
  conv => whnf
  refine Br.t rfl ?_
  conv => whnf
  refine cut_ 536 [(1, .bp 0 0), (2, .bool false), (3, .int .i64 x3), (4, .bp 136 0), (9, .int .i64 x3), (10, .bp 0 3), (11, (sv_S_impl_PlantValve a0_3)), (12, .int .i64 (a0_3.length : Int)), (13, .bool (decide (x3 < (a0_3.length : Int)))), (16, .bp 0 3), (17, (sv_S_impl_PlantValve a0_3)), (18, .int .i64 x3), (19, .rp [.str ((rd_impl_PlantValve a0_3 x3).f0), .str ((rd_impl_PlantValve a0_3 x3).f1), .str ((rd_impl_PlantValve a0_3 x3).f2), .str ((rd_impl_PlantValve a0_3 x3).f3)]), (20, .agg [.str ((rd_impl_PlantValve a0_3 x3).f0), .str ((rd_impl_PlantValve a0_3 x3).f1), .str ((rd_impl_PlantValve a0_3 x3).f2), .str ((rd_impl_PlantValve a0_3 x3).f3)]), (21, .bp 136 0), (22, .str ((rd_impl_PlantValve a0_3 x3).f0)), (23, .bool t3496), (24, .bool (!t3496)), (25, .bool (!t3496)), (26, .int .i64 x3), (27, .bool (decide (x3 > 0))), (28, .bool (decide (x3 > 0))), (29, .bp 0 3), (30, (sv_S_impl_PlantValve a0_3)), (31, .int .i64 x3), (32, .int .i64 (wrap64 (x3 - 1))), (33, .rp [.str ((rd_impl_PlantValve a0_3 (wrap64 (x3 - 1))).f0), .str ((rd_impl_PlantValve a0_3 (wrap64 (x3 - 1))).f1), .str ((rd_impl_PlantValve a0_3 (wrap64 (x3 - 1))).f2), .str ((rd_impl_PlantValve a0_3 (wrap64 (x3 - 1))).f3)]), (34, .rp [.str ((rd_impl_PlantValve a0_3 (wrap64 (x3 - 1))).f0), .str ((rd_impl_PlantValve a0_3 (wrap64 (x3 - 1))).f1), .str ((rd_impl_PlantValve a0_3 (wrap64 (x3 - 1))).f2), .str ((rd_impl_PlantValve a0_3 (wrap64 (x3 - 1))).f3)]), (35, .str ((rd_impl_PlantValve a0_3 (wrap64 (x3 - 1))).f0)), (36, .bp 136 0), (37, .str ((rd_impl_PlantValve a0_3 x3).f0)), (38, .bool (!(Op.bytesLess ((rd_impl_PlantValve a0_3 (wrap64 (x3 - 1))).f0).toList ((rd_impl_PlantValve a0_3 x3).f0).toList))), (39, .bool (!(Op.bytesLess ((rd_impl_PlantValve a0_3 (wrap64 (x3 - 1))).f0).toList ((rd_impl_PlantValve a0_3 x3).f0).toList))), (40, .bool (!(Op.bytesLess ((rd_impl_PlantValve a0_3 (wrap64 (x3 - 1))).f0).toList ((rd_impl_PlantValve a0_3 x3).f0).toList))), (41, .bool (!(Op.bytesLess ((rd_impl_PlantValve a0_3 (wrap64 (x3 - 1))).f0).toList ((rd_impl_PlantValve a0_3 x3).f0).toList))), (47, .bool true), (48, .bool true), (54, .bool true), (55, .bool true), (61, .bool true), (62, .bool true), (67, .bool true)] [(0, .box [(sv_str a0_0), (sv_S_impl_PlantFoe a0_1), (sv_S_impl_PlantPlace a0_2), (sv_S_impl_PlantValve a0_3)]), (136, .box [.str ((rd_impl_PlantValve a0_3 x3).f0), .str ((rd_impl_PlantValve a0_3 x3).f1), .str ((rd_impl_PlantValve a0_3 x3).f2), .str ((rd_impl_PlantValve a0_3 x3).f3)])] rfl ⟨rfl, ⟨rfl, ⟨rfl, ⟨rfl, ⟨rfl, ⟨rfl, ⟨rfl, ⟨rfl, ⟨rfl, ⟨rfl, ⟨rfl, ⟨rfl, ⟨rfl, ⟨rfl, ⟨rfl, ⟨rfl, ⟨rfl, ⟨rfl, ⟨rfl, ⟨rfl, ⟨rfl, ⟨rfl, ⟨rfl, ⟨rfl, ⟨rfl, ⟨rfl, ⟨rfl, ⟨rfl, ⟨rfl, ⟨rfl, ⟨rfl, ⟨rfl, ⟨rfl, ⟨rfl, ⟨rfl, ⟨rfl, ⟨rfl, ⟨rfl, ⟨rfl, ⟨rfl, ⟨rfl, ⟨rfl, trivial⟩⟩⟩⟩⟩⟩⟩⟩⟩⟩⟩⟩⟩⟩⟩⟩⟩⟩⟩⟩⟩⟩⟩⟩⟩⟩⟩⟩⟩⟩⟩⟩⟩⟩⟩⟩⟩⟩⟩⟩⟩⟩ ⟨rfl, ⟨rfl, trivial⟩⟩ ?_
  conv => whnf
  injection H with H; subst H
  exact ret_fz [] (rtA_eq rfl)
  conv => whnf
  refine Br.f ff_ ?_
  conv => whnf
  refine Br.f ff_ ?_
  conv => whnf
  refine Br.f ff_ ?_
  conv => whnf
  refine Br.f ff_ ?_
  conv => whnf
  refine Br.f ff_ ?_
  conv => whnf
  refine Br.f ff_ ?_
  conv => whnf
  refine Br.f ff_ ?_
  conv => whnf
  refine Br.f ff_ ?_
  conv => whnf
  refine Br.f ff_ ?_
  conv => whnf
  refine Br.f ff_ ?_
  conv => whnf
  refine Br.f ff_ ?_
  conv => whnf
  refine Br.f ff_ ?_
  conv => whnf
  refine Br.f rfl ?_
  conv => whnf
  refine Br.f rfl ?_
  conv => whnf
  refine Br.f rfl ?_
  conv => whnf
  refine Br.f rfl ?_
  conv => whnf
  refine Br.f rfl ?_
  conv => whnf
  refine Br.f rfl ?_
  conv => whnf
  refine br_nt H (fun c H => ?_) (fun c H => ?_)
  conv => whnf
  refine Br.f ff_ ?_
  conv => whnf
  refine Br.f ff_ ?_
  conv => whnf
  refine Br.f ff_ ?_
  conv => whnf
  revert H; refine bind_elim (fun t3500 A H => ?_)
  refine call_mk (spec_l2Place.ac A) (avAL_cons (avA_agg (avL_cons (av_shut' rfl) (avL_cons (av_shut' rfl) (avL_cons (av_shut' rfl) (avL_cons (av_shut' rfl) (avL_nil)))))) (avAL_cons (avA_shut' rfl) (avAL_nil))) (Or.inl rfl) rfl rfl (Nat.le_of_ble_eq_true rfl) ?_
  conv => whnf
  refine Br.f ff_ ?_
  conv => whnf
  refine Br.f ff_ ?_
  conv => whnf
  refine br_d H (fun c H => ?_) (fun c H => ?_)
  conv => whnf
  refine Br.t ft_ ?_
  conv => whnf
  refine Br.t ft_ ?_
  conv => whnf
  refine Br.t ft_ ?_
  conv => whnf
  refine Br.t ft_ ?_
  conv => whnf
  refine Br.t ft_ ?_
  conv => whnf
  refine Br.t rfl ?_
  conv => whnf
  refine Br.t rfl ?_
  conv => whnf
  refine Br.t rfl ?_
  conv => whnf
  refine Br.t rfl ?_
  conv => whnf
  refine Br.t rfl ?_
  conv => whnf
  refine cut_ 528 [(1, .bp 0 0), (3, .int .i64 x3), (4, .bp 136 0), (9, .int .i64 x3), (10, .bp 0 3), (11, (sv_S_impl_PlantValve a0_3)), (12, .int .i64 (a0_3.length : Int)), (13, .bool (decide (x3 < (a0_3.length : Int)))), (16, .bp 0 3), (17, (sv_S_impl_PlantValve a0_3)), (18, .int .i64 x3), (19, .rp [.str ((rd_impl_PlantValve a0_3 x3).f0), .str ((rd_impl_PlantValve a0_3 x3).f1), .str ((rd_impl_PlantValve a0_3 x3).f2), .str ((rd_impl_PlantValve a0_3 x3).f3)]), (20, .agg [.str ((rd_impl_PlantValve a0_3 x3).f0), .str ((rd_impl_PlantValve a0_3 x3).f1), .str ((rd_impl_PlantValve a0_3 x3).f2), .str ((rd_impl_PlantValve a0_3 x3).f3)]), (21, .bp 136 0), (22, .str ((rd_impl_PlantValve a0_3 x3).f0)), (23, .bool t3496), (24, .bool (!t3496)), (25, .bool (!t3496)), (26, .int .i64 x3), (27, .bool (decide (x3 > 0))), (28, .bool (decide (x3 > 0))), (39, .bool false), (40, .bool false), (41, .bool false), (42, .bp 136 1), (43, .str ((rd_impl_PlantValve a0_3 x3).f1)), (44, .bp 136 2), (45, .str ((rd_impl_PlantValve a0_3 x3).f2)), (46, .bool (!(Op.bytesLess ((rd_impl_PlantValve a0_3 x3).f1).toList ((rd_impl_PlantValve a0_3 x3).f2).toList))), (47, .bool (!(Op.bytesLess ((rd_impl_PlantValve a0_3 x3).f1).toList ((rd_impl_PlantValve a0_3 x3).f2).toList))), (48, .bool (!(Op.bytesLess ((rd_impl_PlantValve a0_3 x3).f1).toList ((rd_impl_PlantValve a0_3 x3).f2).toList))), (49, .agg [(sv_str a0_0), (sv_S_impl_PlantFoe a0_1), (sv_S_impl_PlantPlace a0_2), (sv_S_impl_PlantValve a0_3)]), (50, .bp 136 1), (51, .str ((rd_impl_PlantValve a0_3 x3).f1)), (52, .int .i64 t3500), (53, .bool (decide (t3500 < 0))), (54, .bool (decide (t3500 < 0))), (55, .bool (decide (t3500 < 0))), (61, .bool true), (62, .bool true), (67, .bool true)] [(0, .box [(sv_str a0_0), (sv_S_impl_PlantFoe a0_1), (sv_S_impl_PlantPlace a0_2), (sv_S_impl_PlantValve a0_3)]), (136, .box [.str ((rd_impl_PlantValve a0_3 x3).f0), .str ((rd_impl_PlantValve a0_3 x3).f1), .str ((rd_impl_PlantValve a0_3 x3).f2), .str ((rd_impl_PlantValve a0_3 x3).f3)])] rfl ⟨rfl, ⟨rfl, ⟨rfl, ⟨rfl, ⟨rfl, ⟨rfl, ⟨rfl, ⟨rfl, ⟨rfl, ⟨rfl, ⟨rfl, ⟨rfl, ⟨rfl, ⟨rfl, ⟨rfl, ⟨rfl, ⟨rfl, ⟨rfl, ⟨rfl, ⟨rfl, ⟨rfl, ⟨rfl, ⟨rfl, ⟨rfl, ⟨rfl, ⟨rfl, ⟨rfl, ⟨rfl, ⟨rfl, ⟨rfl, ⟨rfl, ⟨rfl, ⟨rfl, ⟨rfl, ⟨rfl, ⟨rfl, ⟨rfl, ⟨rfl, ⟨rfl, ⟨rfl, ⟨rfl, trivial⟩⟩⟩⟩⟩⟩⟩⟩⟩⟩⟩⟩⟩⟩⟩⟩⟩⟩⟩⟩⟩⟩⟩⟩⟩⟩⟩⟩⟩⟩⟩⟩⟩⟩⟩⟩⟩⟩⟩⟩⟩ ⟨rfl, ⟨rfl, trivial⟩⟩ ?_
  conv => whnf
  refine Br.t rfl ?_
  conv => whnf
  refine cut_ 536 [(1, .bp 0 0), (2, .bool false), (3, .int .i64 x3), (4, .bp 136 0), (9, .int .i64 x3), (10, .bp 0 3), (11, (sv_S_impl_PlantValve a0_3)), (12, .int .i64 (a0_3.length : Int)), (13, .bool (decide (x3 < (a0_3.length : Int)))), (16, .bp 0 3), (17, (sv_S_impl_PlantValve a0_3)), (18, .int .i64 x3), (19, .rp [.str ((rd_impl_PlantValve a0_3 x3).f0), .str ((rd_impl_PlantValve a0_3 x3).f1), .str ((rd_impl_PlantValve a0_3 x3).f2), .str ((rd_impl_PlantValve a0_3 x3).f3)]), (20, .agg [.str ((rd_impl_PlantValve a0_3 x3).f0), .str ((rd_impl_PlantValve a0_3 x3).f1), .str ((rd_impl_PlantValve a0_3 x3).f2), .str ((rd_impl_PlantValve a0_3 x3).f3)]), (21, .bp 136 0), (22, .str ((rd_impl_PlantValve a0_3 x3).f0)), (23, .bool t3496), (24, .bool (!t3496)), (25, .bool (!t3496)), (26, .int .i64 x3), (27, .bool (decide (x3 > 0))), (28, .bool (decide (x3 > 0))), (39, .bool false), (40, .bool false), (41, .bool false), (42, .bp 136 1), (43, .str ((rd_impl_PlantValve a0_3 x3).f1)), (44, .bp 136 2), (45, .str ((rd_impl_PlantValve a0_3 x3).f2)), (46, .bool (!(Op.bytesLess ((rd_impl_PlantValve a0_3 x3).f1).toList ((rd_impl_PlantValve a0_3 x3).f2).toList))), (47, .bool (!(Op.bytesLess ((rd_impl_PlantValve a0_3 x3).f1).toList ((rd_impl_PlantValve a0_3 x3).f2).toList))), (48, .bool (!(Op.bytesLess ((rd_impl_PlantValve a0_3 x3).f1).toList ((rd_impl_PlantValve a0_3 x3).f2).toList))), (49, .agg [(sv_str a0_0), (sv_S_impl_PlantFoe a0_1), (sv_S_impl_PlantPlace a0_2), (sv_S_impl_PlantValve a0_3)]), (50, .bp 136 1), (51, .str ((rd_impl_PlantValve a0_3 x3).f1)), (52, .int .i64 t3500), (53, .bool (decide (t3500 < 0))), (54, .bool (decide (t3500 < 0))), (55, .bool (decide (t3500 < 0))), (61, .bool true), (62, .bool true), (67, .bool true)] [(0, .box [(sv_str a0_0), (sv_S_impl_PlantFoe a0_1), (sv_S_impl_PlantPlace a0_2), (sv_S_impl_PlantValve a0_3)]), (136, .box [.str ((rd_impl_PlantValve a0_3 x3).f0), .str ((rd_impl_PlantValve a0_3 x3).f1), .str ((rd_impl_PlantValve a0_3 x3).f2), .str ((rd_impl_PlantValve a0_3 x3).f3)])] rfl ⟨rfl, ⟨rfl, ⟨rfl, ⟨rfl, ⟨rfl, ⟨rfl, ⟨rfl, ⟨rfl, ⟨rfl, ⟨rfl, ⟨rfl, ⟨rfl, ⟨rfl, ⟨rfl, ⟨rfl, ⟨rfl, ⟨rfl, ⟨rfl, ⟨rfl, ⟨rfl, ⟨rfl, ⟨rfl, ⟨rfl, ⟨rfl, ⟨rfl, ⟨rfl, ⟨rfl, ⟨rfl, ⟨rfl, ⟨rfl, ⟨rfl, ⟨rfl, ⟨rfl, ⟨rfl, ⟨rfl, ⟨rfl, ⟨rfl, ⟨rfl, ⟨rfl, ⟨rfl, ⟨rfl, ⟨rfl, trivial⟩⟩⟩⟩⟩⟩⟩⟩⟩⟩⟩⟩⟩⟩⟩⟩⟩⟩⟩⟩⟩⟩⟩⟩⟩⟩⟩⟩⟩⟩⟩⟩⟩⟩⟩⟩⟩⟩⟩⟩⟩⟩ ⟨rfl, ⟨rfl, trivial⟩⟩ ?_
  conv => whnf
  injection H with H; subst H
  exact ret_fz [] (rtA_eq rfl)
  conv => whnf
  refine Br.f ff_ ?_
  conv => whnf
  refine Br.f ff_ ?_
  conv => whnf
  refine Br.f ff_ ?_
  conv => whnf
  revert H; refine bind_elim (fun t3501 A H => ?_)
  refine call_mk (spec_l2Place.ac A) (avAL_cons (avA_agg (avL_cons (av_shut' rfl) (avL_cons (av_shut' rfl) (avL_cons (av_shut' rfl) (avL_cons (av_shut' rfl) (avL_nil)))))) (avAL_cons (avA_shut' rfl) (avAL_nil))) (Or.inl rfl) rfl rfl (Nat.le_of_ble_eq_true rfl) ?_
  conv => whnf
  refine Br.f ff_ ?_
  conv => whnf
  refine Br.f ff_ ?_
  conv => whnf
  refine br_d H (fun c H => ?_) (fun c H => ?_)
  conv => whnf
  refine Br.t ft_ ?_
  conv => whnf
  refine Br.t ft_ ?_
  conv => whnf
  refine Br.t ft_ ?_
  conv => whnf
  refine Br.t ft_ ?_
  conv => whnf
  refine cut_ 528 [(1, .bp 0 0), (3, .int .i64 x3), (4, .bp 136 0), (9, .int .i64 x3), (10, .bp 0 3), (11, (sv_S_impl_PlantValve a0_3)), (12, .int .i64 (a0_3.length : Int)), (13, .bool (decide (x3 < (a0_3.length : Int)))), (16, .bp 0 3), (17, (sv_S_impl_PlantValve a0_3)), (18, .int .i64 x3), (19, .rp [.str ((rd_impl_PlantValve a0_3 x3).f0), .str ((rd_impl_PlantValve a0_3 x3).f1), .str ((rd_impl_PlantValve a0_3 x3).f2), .str ((rd_impl_PlantValve a0_3 x3).f3)]), (20, .agg [.str ((rd_impl_PlantValve a0_3 x3).f0), .str ((rd_impl_PlantValve a0_3 x3).f1), .str ((rd_impl_PlantValve a0_3 x3).f2), .str ((rd_impl_PlantValve a0_3 x3).f3)]), (21, .bp 136 0), (22, .str ((rd_impl_PlantValve a0_3 x3).f0)), (23, .bool t3496), (24, .bool (!t3496)), (25, .bool (!t3496)), (26, .int .i64 x3), (27, .bool (decide (x3 > 0))), (28, .bool (decide (x3 > 0))), (39, .bool false), (40, .bool false), (41, .bool false), (42, .bp 136 1), (43, .str ((rd_impl_PlantValve a0_3 x3).f1)), (44, .bp 136 2), (45, .str ((rd_impl_PlantValve a0_3 x3).f2)), (46, .bool (!(Op.bytesLess ((rd_impl_PlantValve a0_3 x3).f1).toList ((rd_impl_PlantValve a0_3 x3).f2).toList))), (47, .bool (!(Op.bytesLess ((rd_impl_PlantValve a0_3 x3).f1).toList ((rd_impl_PlantValve a0_3 x3).f2).toList))), (48, .bool (!(Op.bytesLess ((rd_impl_PlantValve a0_3 x3).f1).toList ((rd_impl_PlantValve a0_3 x3).f2).toList))), (49, .agg [(sv_str a0_0), (sv_S_impl_PlantFoe a0_1), (sv_S_impl_PlantPlace a0_2), (sv_S_impl_PlantValve a0_3)]), (50, .bp 136 1), (51, .str ((rd_impl_PlantValve a0_3 x3).f1)), (52, .int .i64 t3500), (53, .bool (decide (t3500 < 0))), (54, .bool (decide (t3500 < 0))), (55, .bool (decide (t3500 < 0))), (56, .agg [(sv_str a0_0), (sv_S_impl_PlantFoe a0_1), (sv_S_impl_PlantPlace a0_2), (sv_S_impl_PlantValve a0_3)]), (57, .bp 136 2), (58, .str ((rd_impl_PlantValve a0_3 x3).f2)), (59, .int .i64 t3501), (60, .bool (decide (t3501 < 0))), (61, .bool (decide (t3501 < 0))), (62, .bool (decide (t3501 < 0))), (67, .bool true)] [(0, .box [(sv_str a0_0), (sv_S_impl_PlantFoe a0_1), (sv_S_impl_PlantPlace a0_2), (sv_S_impl_PlantValve a0_3)]), (136, .box [.str ((rd_impl_PlantValve a0_3 x3).f0), .str ((rd_impl_PlantValve a0_3 x3).f1), .str ((rd_impl_PlantValve a0_3 x3).f2), .str ((rd_impl_PlantValve a0_3 x3).f3)])] rfl ⟨rfl, ⟨rfl, ⟨rfl, ⟨rfl, ⟨rfl, ⟨rfl, ⟨rfl, ⟨rfl, ⟨rfl, ⟨rfl, ⟨rfl, ⟨rfl, ⟨rfl, ⟨rfl, ⟨rfl, ⟨rfl, ⟨rfl, ⟨rfl, ⟨rfl, ⟨rfl, ⟨rfl, ⟨rfl, ⟨rfl, ⟨rfl, ⟨rfl, ⟨rfl, ⟨rfl, ⟨rfl, ⟨rfl, ⟨rfl, ⟨rfl, ⟨rfl, ⟨rfl, ⟨rfl, ⟨rfl, ⟨rfl, ⟨rfl, ⟨rfl, ⟨rfl, ⟨rfl, ⟨rfl, ⟨rfl, ⟨rfl, ⟨rfl, ⟨rfl, ⟨rfl, trivial⟩⟩⟩⟩⟩⟩⟩⟩⟩⟩⟩⟩⟩⟩⟩⟩⟩⟩⟩⟩⟩⟩⟩⟩⟩⟩⟩⟩⟩⟩⟩⟩⟩⟩⟩⟩⟩⟩⟩⟩⟩⟩⟩⟩⟩⟩ ⟨rfl, ⟨rfl, trivial⟩⟩ ?_
  conv => whnf
  refine Br.t rfl ?_
  conv => whnf
  refine cut_ 536 [(1, .bp 0 0), (2, .bool false), (3, .int .i64 x3), (4, .bp 136 0), (9, .int .i64 x3), (10, .bp 0 3), (11, (sv_S_impl_PlantValve a0_3)), (12, .int .i64 (a0_3.length : Int)), (13, .bool (decide (x3 < (a0_3.length : Int)))), (16, .bp 0 3), (17, (sv_S_impl_PlantValve a0_3)), (18, .int .i64 x3), (19, .rp [.str ((rd_impl_PlantValve a0_3 x3).f0), .str ((rd_impl_PlantValve a0_3 x3).f1), .str ((rd_impl_PlantValve a0_3 x3).f2), .str ((rd_impl_PlantValve a0_3 x3).f3)]), (20, .agg [.str ((rd_impl_PlantValve a0_3 x3).f0), .str ((rd_impl_PlantValve a0_3 x3).f1), .str ((rd_impl_PlantValve a0_3 x3).f2), .str ((rd_impl_PlantValve a0_3 x3).f3)]), (21, .bp 136 0), (22, .str ((rd_impl_PlantValve a0_3 x3).f0)), (23, .bool t3496), (24, .bool (!t3496)), (25, .bool (!t3496)), (26, .int .i64 x3), (27, .bool (decide (x3 > 0))), (28, .bool (decide (x3 > 0))), (39, .bool false), (40, .bool false), (41, .bool false), (42, .bp 136 1), (43, .str ((rd_impl_PlantValve a0_3 x3).f1)), (44, .bp 136 2), (45, .str ((rd_impl_PlantValve a0_3 x3).f2)), (46, .bool (!(Op.bytesLess ((rd_impl_PlantValve a0_3 x3).f1).toList ((rd_impl_PlantValve a0_3 x3).f2).toList))), (47, .bool (!(Op.bytesLess ((rd_impl_PlantValve a0_3 x3).f1).toList ((rd_impl_PlantValve a0_3 x3).f2).toList))), (48, .bool (!(Op.bytesLess ((rd_impl_PlantValve a0_3 x3).f1).toList ((rd_impl_PlantValve a0_3 x3).f2).toList))), (49, .agg [(sv_str a0_0), (sv_S_impl_PlantFoe a0_1), (sv_S_impl_PlantPlace a0_2), (sv_S_impl_PlantValve a0_3)]), (50, .bp 136 1), (51, .str ((rd_impl_PlantValve a0_3 x3).f1)), (52, .int .i64 t3500), (53, .bool (decide (t3500 < 0))), (54, .bool (decide (t3500 < 0))), (55, .bool (decide (t3500 < 0))), (56, .agg [(sv_str a0_0), (sv_S_impl_PlantFoe a0_1), (sv_S_impl_PlantPlace a0_2), (sv_S_impl_PlantValve a0_3)]), (57, .bp 136 2), (58, .str ((rd_impl_PlantValve a0_3 x3).f2)), (59, .int .i64 t3501), (60, .bool (decide (t3501 < 0))), (61, .bool (decide (t3501 < 0))), (62, .bool (decide (t3501 < 0))), (67, .bool true)] [(0, .box [(sv_str a0_0), (sv_S_impl_PlantFoe a0_1), (sv_S_impl_PlantPlace a0_2), (sv_S_impl_PlantValve a0_3)]), (136, .box [.str ((rd_impl_PlantValve a0_3 x3).f0), .str ((rd_impl_PlantValve a0_3 x3).f1), .str ((rd_impl_PlantValve a0_3 x3).f2), .str ((rd_impl_PlantValve a0_3 x3).f3)])] rfl ⟨rfl, ⟨rfl, ⟨rfl, ⟨rfl, ⟨rfl, ⟨rfl, ⟨rfl, ⟨rfl, ⟨rfl, ⟨rfl, ⟨rfl, ⟨rfl, ⟨rfl, ⟨rfl, ⟨rfl, ⟨rfl, ⟨rfl, ⟨rfl, ⟨rfl, ⟨rfl, ⟨rfl, ⟨rfl, ⟨rfl, ⟨rfl, ⟨rfl, ⟨rfl, ⟨rfl, ⟨rfl, ⟨rfl, ⟨rfl, ⟨rfl, ⟨rfl, ⟨rfl, ⟨rfl, ⟨rfl, ⟨rfl, ⟨rfl, ⟨rfl, ⟨rfl, ⟨rfl, ⟨rfl, ⟨rfl, ⟨rfl, ⟨rfl, ⟨rfl, ⟨rfl, ⟨rfl, trivial⟩⟩⟩⟩⟩⟩⟩⟩⟩⟩⟩⟩⟩⟩⟩⟩⟩⟩⟩⟩⟩⟩⟩⟩⟩⟩⟩⟩⟩⟩⟩⟩⟩⟩⟩⟩⟩⟩⟩⟩⟩⟩⟩⟩⟩⟩⟩ ⟨rfl, ⟨rfl, trivial⟩⟩ ?_
  conv => whnf
  injection H with H; subst H
  exact ret_fz [] (rtA_eq rfl)
  conv => whnf
  refine Br.f ff_ ?_
  conv => whnf
  refine Br.f ff_ ?_
  conv => whnf
  revert H; refine bind_elim (fun t3502 A H => ?_)
  refine call_mk (spec_l2NameOk.ac A) (avAL_cons (avA_shut' rfl) (avAL_nil)) (Or.inl rfl) rfl rfl (Nat.le_of_ble_eq_true rfl) ?_
  conv => whnf
  refine Br.f ff_ ?_
  conv => whnf
  refine Br.f ff_ ?_
  conv => whnf
  refine cut_ 528 [(1, .bp 0 0), (3, .int .i64 x3), (4, .bp 136 0), (9, .int .i64 x3), (10, .bp 0 3), (11, (sv_S_impl_PlantValve a0_3)), (12, .int .i64 (a0_3.length : Int)), (13, .bool (decide (x3 < (a0_3.length : Int)))), (16, .bp 0 3), (17, (sv_S_impl_PlantValve a0_3)), (18, .int .i64 x3), (19, .rp [.str ((rd_impl_PlantValve a0_3 x3).f0), .str ((rd_impl_PlantValve a0_3 x3).f1), .str ((rd_impl_PlantValve a0_3 x3).f2), .str ((rd_impl_PlantValve a0_3 x3).f3)]), (20, .agg [.str ((rd_impl_PlantValve a0_3 x3).f0), .str ((rd_impl_PlantValve a0_3 x3).f1), .str ((rd_impl_PlantValve a0_3 x3).f2), .str ((rd_impl_PlantValve a0_3 x3).f3)]), (21, .bp 136 0), (22, .str ((rd_impl_PlantValve a0_3 x3).f0)), (23, .bool t3496), (24, .bool (!t3496)), (25, .bool (!t3496)), (26, .int .i64 x3), (27, .bool (decide (x3 > 0))), (28, .bool (decide (x3 > 0))), (39, .bool false), (40, .bool false), (41, .bool false), (42, .bp 136 1), (43, .str ((rd_impl_PlantValve a0_3 x3).f1)), (44, .bp 136 2), (45, .str ((rd_impl_PlantValve a0_3 x3).f2)), (46, .bool (!(Op.bytesLess ((rd_impl_PlantValve a0_3 x3).f1).toList ((rd_impl_PlantValve a0_3 x3).f2).toList))), (47, .bool (!(Op.bytesLess ((rd_impl_PlantValve a0_3 x3).f1).toList ((rd_impl_PlantValve a0_3 x3).f2).toList))), (48, .bool (!(Op.bytesLess ((rd_impl_PlantValve a0_3 x3).f1).toList ((rd_impl_PlantValve a0_3 x3).f2).toList))), (49, .agg [(sv_str a0_0), (sv_S_impl_PlantFoe a0_1), (sv_S_impl_PlantPlace a0_2), (sv_S_impl_PlantValve a0_3)]), (50, .bp 136 1), (51, .str ((rd_impl_PlantValve a0_3 x3).f1)), (52, .int .i64 t3500), (53, .bool (decide (t3500 < 0))), (54, .bool (decide (t3500 < 0))), (55, .bool (decide (t3500 < 0))), (56, .agg [(sv_str a0_0), (sv_S_impl_PlantFoe a0_1), (sv_S_impl_PlantPlace a0_2), (sv_S_impl_PlantValve a0_3)]), (57, .bp 136 2), (58, .str ((rd_impl_PlantValve a0_3 x3).f2)), (59, .int .i64 t3501), (60, .bool (decide (t3501 < 0))), (61, .bool (decide (t3501 < 0))), (62, .bool (decide (t3501 < 0))), (63, .bp 136 3), (64, .str ((rd_impl_PlantValve a0_3 x3).f3)), (65, .bool t3502), (66, .bool (!t3502)), (67, .bool (!t3502))] [(0, .box [(sv_str a0_0), (sv_S_impl_PlantFoe a0_1), (sv_S_impl_PlantPlace a0_2), (sv_S_impl_PlantValve a0_3)]), (136, .box [.str ((rd_impl_PlantValve a0_3 x3).f0), .str ((rd_impl_PlantValve a0_3 x3).f1), .str ((rd_impl_PlantValve a0_3 x3).f2), .str ((rd_impl_PlantValve a0_3 x3).f3)])] rfl ⟨rfl, ⟨rfl, ⟨rfl, ⟨rfl, ⟨rfl, ⟨rfl, ⟨rfl, ⟨rfl, ⟨rfl, ⟨rfl, ⟨rfl, ⟨rfl, ⟨rfl, ⟨rfl, ⟨rfl, ⟨rfl, ⟨rfl, ⟨rfl, ⟨rfl, ⟨rfl, ⟨rfl, ⟨rfl, ⟨rfl, ⟨rfl, ⟨rfl, ⟨rfl, ⟨rfl, ⟨rfl, ⟨rfl, ⟨rfl, ⟨rfl, ⟨rfl, ⟨rfl, ⟨rfl, ⟨rfl, ⟨rfl, ⟨rfl, ⟨rfl, ⟨rfl, ⟨rfl, ⟨rfl, ⟨rfl, ⟨rfl, ⟨rfl, ⟨rfl, ⟨rfl, ⟨rfl, ⟨rfl, ⟨rfl, ⟨rfl, trivial⟩⟩⟩⟩⟩⟩⟩⟩⟩⟩⟩⟩⟩⟩⟩⟩⟩⟩⟩⟩⟩⟩⟩⟩⟩⟩⟩⟩⟩⟩⟩⟩⟩⟩⟩⟩⟩⟩⟩⟩⟩⟩⟩⟩⟩⟩⟩⟩⟩⟩ ⟨rfl, ⟨rfl, trivial⟩⟩ ?_
  conv => whnf
  refine br_nt H (fun c H => ?_) (fun c H => ?_)
  conv => whnf
  exact ⟨(k, wrap64 (x3 + 1)), [], ⟨H, lt_⟩, lt_, (fits_of ⟨.inl ⟨rfl, rfl⟩, trivial⟩ trivial fi_ trivial rfl)⟩
  conv => whnf
  refine cut_ 536 [(1, .bp 0 0), (2, .bool false), (3, .int .i64 x3), (4, .bp 136 0), (9, .int .i64 x3), (10, .bp 0 3), (11, (sv_S_impl_PlantValve a0_3)), (12, .int .i64 (a0_3.length : Int)), (13, .bool (decide (x3 < (a0_3.length : Int)))), (16, .bp 0 3), (17, (sv_S_impl_PlantValve a0_3)), (18, .int .i64 x3), (19, .rp [.str ((rd_impl_PlantValve a0_3 x3).f0), .str ((rd_impl_PlantValve a0_3 x3).f1), .str ((rd_impl_PlantValve a0_3 x3).f2), .str ((rd_impl_PlantValve a0_3 x3).f3)]), (20, .agg [.str ((rd_impl_PlantValve a0_3 x3).f0), .str ((rd_impl_PlantValve a0_3 x3).f1), .str ((rd_impl_PlantValve a0_3 x3).f2), .str ((rd_impl_PlantValve a0_3 x3).f3)]), (21, .bp 136 0), (22, .str ((rd_impl_PlantValve a0_3 x3).f0)), (23, .bool t3496), (24, .bool (!t3496)), (25, .bool (!t3496)), (26, .int .i64 x3), (27, .bool (decide (x3 > 0))), (28, .bool (decide (x3 > 0))), (39, .bool false), (40, .bool false), (41, .bool false), (42, .bp 136 1), (43, .str ((rd_impl_PlantValve a0_3 x3).f1)), (44, .bp 136 2), (45, .str ((rd_impl_PlantValve a0_3 x3).f2)), (46, .bool (!(Op.bytesLess ((rd_impl_PlantValve a0_3 x3).f1).toList ((rd_impl_PlantValve a0_3 x3).f2).toList))), (47, .bool (!(Op.bytesLess ((rd_impl_PlantValve a0_3 x3).f1).toList ((rd_impl_PlantValve a0_3 x3).f2).toList))), (48, .bool (!(Op.bytesLess ((rd_impl_PlantValve a0_3 x3).f1).toList ((rd_impl_PlantValve a0_3 x3).f2).toList))), (49, .agg [(sv_str a0_0), (sv_S_impl_PlantFoe a0_1), (sv_S_impl_PlantPlace a0_2), (sv_S_impl_PlantValve a0_3)]), (50, .bp 136 1), (51, .str ((rd_impl_PlantValve a0_3 x3).f1)), (52, .int .i64 t3500), (53, .bool (decide (t3500 < 0))), (54, .bool (decide (t3500 < 0))), (55, .bool (decide (t3500 < 0))), (56, .agg [(sv_str a0_0), (sv_S_impl_PlantFoe a0_1), (sv_S_impl_PlantPlace a0_2), (sv_S_impl_PlantValve a0_3)]), (57, .bp 136 2), (58, .str ((rd_impl_PlantValve a0_3 x3).f2)), (59, .int .i64 t3501), (60, .bool (decide (t3501 < 0))), (61, .bool (decide (t3501 < 0))), (62, .bool (decide (t3501 < 0))), (63, .bp 136 3), (64, .str ((rd_impl_PlantValve a0_3 x3).f3)), (65, .bool t3502), (66, .bool (!t3502)), (67, .bool (!t3502))] [(0, .box [(sv_str a0_0), (sv_S_impl_PlantFoe a0_1), (sv_S_impl_PlantPlace a0_2), (sv_S_impl_PlantValve a0_3)]), (136, .box [.str ((rd_impl_PlantValve a0_3 x3).f0), .str ((rd_impl_PlantValve a0_3 x3).f1), .str ((rd_impl_PlantValve a0_3 x3).f2), .str ((rd_impl_PlantValve a0_3 x3).f3)])] rfl ⟨rfl, ⟨rfl, ⟨rfl, ⟨rfl, ⟨rfl, ⟨rfl, ⟨rfl, ⟨rfl, ⟨rfl, ⟨rfl, ⟨rfl, ⟨rfl, ⟨rfl, ⟨rfl, ⟨rfl, ⟨rfl, ⟨rfl, ⟨rfl, ⟨rfl, ⟨rfl, ⟨rfl, ⟨rfl, ⟨rfl, ⟨rfl, ⟨rfl, ⟨rfl, ⟨rfl, ⟨rfl, ⟨rfl, ⟨rfl, ⟨rfl, ⟨rfl, ⟨rfl, ⟨rfl, ⟨rfl, ⟨rfl, ⟨rfl, ⟨rfl, ⟨rfl, ⟨rfl, ⟨rfl, ⟨rfl, ⟨rfl, ⟨rfl, ⟨rfl, ⟨rfl, ⟨rfl, ⟨rfl, ⟨rfl, ⟨rfl, ⟨rfl, trivial⟩⟩⟩⟩⟩⟩⟩⟩⟩⟩⟩⟩⟩⟩⟩⟩⟩⟩⟩⟩⟩⟩⟩⟩⟩⟩⟩⟩⟩⟩⟩⟩⟩⟩⟩⟩⟩⟩⟩⟩⟩⟩⟩⟩⟩⟩⟩⟩⟩⟩⟩ ⟨rfl, ⟨rfl, trivial⟩⟩ ?_
  conv => whnf
  injection H with H; subst H
  exact ret_fz [] (rtA_eq rfl)
  conv => whnf
  refine Br.t ft_ ?_
  conv => whnf
  refine Br.t ft_ ?_
  conv => whnf
  refine Br.t ft_ ?_
  conv => whnf
  refine Br.t ft_ ?_
  conv => whnf
  refine Br.t ft_ ?_
  conv => whnf
  refine Br.t rfl ?_
  conv => whnf
  refine Br.t rfl ?_
  conv => whnf
  refine Br.t rfl ?_
  conv => whnf
  refine Br.t rfl ?_
  conv => whnf
  refine Br.t rfl ?_
  conv => whnf
  refine Br.t rfl ?_
  conv => whnf
  refine Br.t rfl ?_
  conv => whnf
  refine Br.t rfl ?_
  conv => whnf
  refine Br.t rfl ?_
  conv => whnf
  refine Br.t rfl ?_
  conv => whnf
  refine Br.t rfl ?_
  conv => whnf
  refine cut_ 528 [(1, .bp 0 0), (3, .int .i64 x3), (4, .bp 136 0), (9, .int .i64 x3), (10, .bp 0 3), (11, (sv_S_impl_PlantValve a0_3)), (12, .int .i64 (a0_3.length : Int)), (13, .bool (decide (x3 < (a0_3.length : Int)))), (16, .bp 0 3), (17, (sv_S_impl_PlantValve a0_3)), (18, .int .i64 x3), (19, .rp [.str ((rd_impl_PlantValve a0_3 x3).f0), .str ((rd_impl_PlantValve a0_3 x3).f1), .str ((rd_impl_PlantValve a0_3 x3).f2), .str ((rd_impl_PlantValve a0_3 x3).f3)]), (20, .agg [.str ((rd_impl_PlantValve a0_3 x3).f0), .str ((rd_impl_PlantValve a0_3 x3).f1), .str ((rd_impl_PlantValve a0_3 x3).f2), .str ((rd_impl_PlantValve a0_3 x3).f3)]), (21, .bp 136 0), (22, .str ((rd_impl_PlantValve a0_3 x3).f0)), (23, .bool t3496), (24, .bool (!t3496)), (25, .bool (!t3496)), (26, .int .i64 x3), (27, .bool (decide (x3 > 0))), (28, .bool (decide (x3 > 0))), (39, .bool false), (40, .bool false), (41, .bool false), (42, .bp 136 1), (43, .str ((rd_impl_PlantValve a0_3 x3).f1)), (44, .bp 136 2), (45, .str ((rd_impl_PlantValve a0_3 x3).f2)), (46, .bool (!(Op.bytesLess ((rd_impl_PlantValve a0_3 x3).f1).toList ((rd_impl_PlantValve a0_3 x3).f2).toList))), (47, .bool (!(Op.bytesLess ((rd_impl_PlantValve a0_3 x3).f1).toList ((rd_impl_PlantValve a0_3 x3).f2).toList))), (48, .bool (!(Op.bytesLess ((rd_impl_PlantValve a0_3 x3).f1).toList ((rd_impl_PlantValve a0_3 x3).f2).toList))), (54, .bool true), (55, .bool true), (61, .bool true), (62, .bool true), (67, .bool true)] [(0, .box [(sv_str a0_0), (sv_S_impl_PlantFoe a0_1), (sv_S_impl_PlantPlace a0_2), (sv_S_impl_PlantValve a0_3)]), (136, .box [.str ((rd_impl_PlantValve a0_3 x3).f0), .str ((rd_impl_PlantValve a0_3 x3).f1), .str ((rd_impl_PlantValve a0_3 x3).f2), .str ((rd_impl_PlantValve a0_3 x3).f3)])] rfl ⟨rfl, ⟨rfl, ⟨rfl, ⟨rfl, ⟨rfl, ⟨rfl, ⟨rfl, ⟨rfl, ⟨rfl, ⟨rfl, ⟨rfl, ⟨rfl, ⟨rfl, ⟨rfl, ⟨rfl, ⟨rfl, ⟨rfl, ⟨rfl, ⟨rfl, ⟨rfl, ⟨rfl, ⟨rfl, ⟨rfl, ⟨rfl, ⟨rfl, ⟨rfl, ⟨rfl, ⟨rfl, ⟨rfl, ⟨rfl, ⟨rfl, ⟨rfl, ⟨rfl, ⟨rfl, ⟨rfl, ⟨rfl, trivial⟩⟩⟩⟩⟩⟩⟩⟩⟩⟩⟩⟩⟩⟩⟩⟩⟩⟩⟩⟩⟩⟩⟩⟩⟩⟩⟩⟩⟩⟩⟩⟩⟩⟩⟩⟩ ⟨rfl, ⟨rfl, trivial⟩⟩ ?_
  conv => whnf
  refine Br.t rfl ?_
  conv => whnf
  refine cut_ 536 [(1, .bp 0 0), (2, .bool false), (3, .int .i64 x3), (4, .bp 136 0), (9, .int .i64 x3), (10, .bp 0 3), (11, (sv_S_impl_PlantValve a0_3)), (12, .int .i64 (a0_3.length : Int)), (13, .bool (decide (x3 < (a0_3.length : Int)))), (16, .bp 0 3), (17, (sv_S_impl_PlantValve a0_3)), (18, .int .i64 x3), (19, .rp [.str ((rd_impl_PlantValve a0_3 x3).f0), .str ((rd_impl_PlantValve a0_3 x3).f1), .str ((rd_impl_PlantValve a0_3 x3).f2), .str ((rd_impl_PlantValve a0_3 x3).f3)]), (20, .agg [.str ((rd_impl_PlantValve a0_3 x3).f0), .str ((rd_impl_PlantValve a0_3 x3).f1), .str ((rd_impl_PlantValve a0_3 x3).f2), .str ((rd_impl_PlantValve a0_3 x3).f3)]), (21, .bp 136 0), (22, .str ((rd_impl_PlantValve a0_3 x3).f0)), (23, .bool t3496), (24, .bool (!t3496)), (25, .bool (!t3496)), (26, .int .i64 x3), (27, .bool (decide (x3 > 0))), (28, .bool (decide (x3 > 0))), (39, .bool false), (40, .bool false), (41, .bool false), (42, .bp 136 1), (43, .str ((rd_impl_PlantValve a0_3 x3).f1)), (44, .bp 136 2), (45, .str ((rd_impl_PlantValve a0_3 x3).f2)), (46, .bool (!(Op.bytesLess ((rd_impl_PlantValve a0_3 x3).f1).toList ((rd_impl_PlantValve a0_3 x3).f2).toList))), (47, .bool (!(Op.bytesLess ((rd_impl_PlantValve a0_3 x3).f1).toList ((rd_impl_PlantValve a0_3 x3).f2).toList))), (48, .bool (!(Op.bytesLess ((rd_impl_PlantValve a0_3 x3).f1).toList ((rd_impl_PlantValve a0_3 x3).f2).toList))), (54, .bool true), (55, .bool true), (61, .bool true), (62, .bool true), (67, .bool true)] [(0, .box [(sv_str a0_0), (sv_S_impl_PlantFoe a0_1), (sv_S_impl_PlantPlace a0_2), (sv_S_impl_PlantValve a0_3)]), (136, .box [.str ((rd_impl_PlantValve a0_3 x3).f0), .str ((rd_impl_PlantValve a0_3 x3).f1), .str ((rd_impl_PlantValve a0_3 x3).f2), .str ((rd_impl_PlantValve a0_3 x3).f3)])] rfl ⟨rfl, ⟨rfl, ⟨rfl, ⟨rfl, ⟨rfl, ⟨rfl, ⟨rfl, ⟨rfl, ⟨rfl, ⟨rfl, ⟨rfl, ⟨rfl, ⟨rfl, ⟨rfl, ⟨rfl, ⟨rfl, ⟨rfl, ⟨rfl, ⟨rfl, ⟨rfl, ⟨rfl, ⟨rfl, ⟨rfl, ⟨rfl, ⟨rfl, ⟨rfl, ⟨rfl, ⟨rfl, ⟨rfl, ⟨rfl, ⟨rfl, ⟨rfl, ⟨rfl, ⟨rfl, ⟨rfl, ⟨rfl, ⟨rfl, trivial⟩⟩⟩⟩⟩⟩⟩⟩⟩⟩⟩⟩⟩⟩⟩⟩⟩⟩⟩⟩⟩⟩⟩⟩⟩⟩⟩⟩⟩⟩⟩⟩⟩⟩⟩⟩⟩ ⟨rfl, ⟨rfl, trivial⟩⟩ ?_
  conv => whnf
  injection H with H; subst H
  exact ret_fz [] (rtA_eq rfl)
  conv => whnf
  refine Br.t ft_ ?_
  conv => whnf
  refine Br.t ft_ ?_
  conv => whnf
  refine Br.t ft_ ?_
  conv => whnf
  refine Br.t ft_ ?_
  conv => whnf
  refine Br.t rfl ?_
  conv => whnf
  refine Br.t rfl ?_
  conv => whnf
  refine Br.t rfl ?_
  conv => whnf
  refine Br.t rfl ?_
  conv => whnf
  refine Br.t rfl ?_
  conv => whnf
  refine Br.t rfl ?_
  conv => whnf
  refine Br.t rfl ?_
  conv => whnf
  refine Br.t rfl ?_
  conv => whnf
  refine Br.t rfl ?_
  conv => whnf
  refine Br.t rfl ?_
  conv => whnf
  refine Br.t rfl ?_
  conv => whnf
  refine Br.t rfl ?_
  conv => whnf
  refine Br.t rfl ?_
  conv => whnf
  refine Br.t rfl ?_
  conv => whnf
  refine Br.t rfl ?_
  conv => whnf
  refine Br.t rfl ?_
  conv => whnf
  refine Br.t rfl ?_
  conv => whnf
  refine Br.t rfl ?_
  conv => whnf
  refine Br.t rfl ?_
  conv => whnf
  refine Br.t rfl ?_
  conv => whnf
  refine Br.t rfl ?_
  conv => whnf
  refine Br.t rfl ?_
  conv => whnf
  refine Br.t rfl ?_
  conv => whnf
  refine cut_ 528 [(1, .bp 0 0), (3, .int .i64 x3), (4, .bp 136 0), (9, .int .i64 x3), (10, .bp 0 3), (11, (sv_S_impl_PlantValve a0_3)), (12, .int .i64 (a0_3.length : Int)), (13, .bool (decide (x3 < (a0_3.length : Int)))), (16, .bp 0 3), (17, (sv_S_impl_PlantValve a0_3)), (18, .int .i64 x3), (19, .rp [.str ((rd_impl_PlantValve a0_3 x3).f0), .str ((rd_impl_PlantValve a0_3 x3).f1), .str ((rd_impl_PlantValve a0_3 x3).f2), .str ((rd_impl_PlantValve a0_3 x3).f3)]), (20, .agg [.str ((rd_impl_PlantValve a0_3 x3).f0), .str ((rd_impl_PlantValve a0_3 x3).f1), .str ((rd_impl_PlantValve a0_3 x3).f2), .str ((rd_impl_PlantValve a0_3 x3).f3)]), (21, .bp 136 0), (22, .str ((rd_impl_PlantValve a0_3 x3).f0)), (23, .bool t3496), (24, .bool (!t3496)), (25, .bool (!t3496)), (40, .bool true), (41, .bool true), (47, .bool true), (48, .bool true), (54, .bool true), (55, .bool true), (61, .bool true), (62, .bool true), (67, .bool true)] [(0, .box [(sv_str a0_0), (sv_S_impl_PlantFoe a0_1), (sv_S_impl_PlantPlace a0_2), (sv_S_impl_PlantValve a0_3)]), (136, .box [.str ((rd_impl_PlantValve a0_3 x3).f0), .str ((rd_impl_PlantValve a0_3 x3).f1), .str ((rd_impl_PlantValve a0_3 x3).f2), .str ((rd_impl_PlantValve a0_3 x3).f3)])] rfl ⟨rfl, ⟨rfl, ⟨rfl, ⟨rfl, ⟨rfl, ⟨rfl, ⟨rfl, ⟨rfl, ⟨rfl, ⟨rfl, ⟨rfl, ⟨rfl, ⟨rfl, ⟨rfl, ⟨rfl, ⟨rfl, ⟨rfl, ⟨rfl, ⟨rfl, ⟨rfl, ⟨rfl, ⟨rfl, ⟨rfl, ⟨rfl, ⟨rfl, ⟨rfl, ⟨rfl, trivial⟩⟩⟩⟩⟩⟩⟩⟩⟩⟩⟩⟩⟩⟩⟩⟩⟩⟩⟩⟩⟩⟩⟩⟩⟩⟩⟩ ⟨rfl, ⟨rfl, trivial⟩⟩ ?_
  conv => whnf
  refine Br.t rfl ?_
  conv => whnf
  refine cut_ 536 [(1, .bp 0 0), (2, .bool false), (3, .int .i64 x3), (4, .bp 136 0), (9, .int .i64 x3), (10, .bp 0 3), (11, (sv_S_impl_PlantValve a0_3)), (12, .int .i64 (a0_3.length : Int)), (13, .bool (decide (x3 < (a0_3.length : Int)))), (16, .bp 0 3), (17, (sv_S_impl_PlantValve a0_3)), (18, .int .i64 x3), (19, .rp [.str ((rd_impl_PlantValve a0_3 x3).f0), .str ((rd_impl_PlantValve a0_3 x3).f1), .str ((rd_impl_PlantValve a0_3 x3).f2), .str ((rd_impl_PlantValve a0_3 x3).f3)]), (20, .agg [.str ((rd_impl_PlantValve a0_3 x3).f0), .str ((rd_impl_PlantValve a0_3 x3).f1), .str ((rd_impl_PlantValve a0_3 x3).f2), .str ((rd_impl_PlantValve a0_3 x3).f3)]), (21, .bp 136 0), (22, .str ((rd_impl_PlantValve a0_3 x3).f0)), (23, .bool t3496), (24, .bool (!t3496)), (25, .bool (!t3496)), (40, .bool true), (41, .bool true), (47, .bool true), (48, .bool true), (54, .bool true), (55, .bool true), (61, .bool true), (62, .bool true), (67, .bool true)] [(0, .box [(sv_str a0_0), (sv_S_impl_PlantFoe a0_1), (sv_S_impl_PlantPlace a0_2), (sv_S_impl_PlantValve a0_3)]), (136, .box [.str ((rd_impl_PlantValve a0_3 x3).f0), .str ((rd_impl_PlantValve a0_3 x3).f1), .str ((rd_impl_PlantValve a0_3 x3).f2), .str ((rd_impl_PlantValve a0_3 x3).f3)])] rfl ⟨rfl, ⟨rfl, ⟨rfl, ⟨rfl, ⟨rfl, ⟨rfl, ⟨rfl, ⟨rfl, ⟨rfl, ⟨rfl, ⟨rfl, ⟨rfl, ⟨rfl, ⟨rfl, ⟨rfl, ⟨rfl, ⟨rfl, ⟨rfl, ⟨rfl, ⟨rfl, ⟨rfl, ⟨rfl, ⟨rfl, ⟨rfl, ⟨rfl, ⟨rfl, ⟨rfl, ⟨rfl, trivial⟩⟩⟩⟩⟩⟩⟩⟩⟩⟩⟩⟩⟩⟩⟩⟩⟩⟩⟩⟩⟩⟩⟩⟩⟩⟩⟩⟩ ⟨rfl, ⟨rfl, trivial⟩⟩ ?_
  conv => whnf
  injection H with H; subst H
  exact ret_fz [] (rtA_eq rfl)
  conv => whnf
  injection H with H; subst H
  exact ret_fz [] (rtA_eq rfl)
theorem spec_PlantValid.ac {k : Nat} {a0_0 : List ByteArray} {a0_1 : List S_impl_PlantFoe} {a0_2 : List S_impl_PlantPlace} {a0_3 : List S_impl_PlantValve} {r : Bool} (H : spec_PlantValid.f k a0_0 a0_1 a0_2 a0_3 = some r) : ACalls Try.prog G 15 [] [.agg [(sv_str a0_0), (sv_S_impl_PlantFoe a0_1), (sv_S_impl_PlantPlace a0_2), (sv_S_impl_PlantValve a0_3)]] [] (.bool r) := by
  refine acalls_of tok hP Try.func15 rfl (by kernel_rfl) [.tmp 2] rfl (by kernel_rfl) (Nat.le_of_ble_eq_true rfl) (.l .n (.c .n .n)) ?_
  unfold spec_PlantValid.f at H
  conv => whnf
  revert H; refine bind_elim (fun t3506 A H => ?_)
  refine call_mk (spec_l2StuffsOk.ac A) (avAL_cons (avA_agg (avL_cons (av_shut' rfl) (avL_cons (av_shut' rfl) (avL_cons (av_shut' rfl) (avL_cons (av_shut' rfl) (avL_nil)))))) (avAL_nil)) (Or.inl rfl) rfl rfl (Nat.le_of_ble_eq_true rfl) ?_
  conv => whnf
  refine br_t H (fun c H => ?_) (fun c H => ?_)
  conv => whnf
  refine Br.t ft_ ?_
  conv => whnf
  revert H; refine bind_elim (fun t3507 A H => ?_)
  refine call_mk (spec_l2PlacesOk.ac A) (avAL_cons (avA_agg (avL_cons (av_shut' rfl) (avL_cons (av_shut' rfl) (avL_cons (av_shut' rfl) (avL_cons (av_shut' rfl) (avL_nil)))))) (avAL_nil)) (Or.inl rfl) rfl rfl (Nat.le_of_ble_eq_true rfl) ?_
  conv => whnf
  refine Br.t ft_ ?_
  conv => whnf
  refine br_t H (fun c H => ?_) (fun c H => ?_)
  conv => whnf
  refine Br.t ft_ ?_
  conv => whnf
  revert H; refine bind_elim (fun t3508 A H => ?_)
  refine call_mk (spec_l2ValvesOk.ac A) (avAL_cons (avA_agg (avL_cons (av_shut' rfl) (avL_cons (av_shut' rfl) (avL_cons (av_shut' rfl) (avL_cons (av_shut' rfl) (avL_nil)))))) (avAL_nil)) (Or.inl rfl) rfl rfl (Nat.le_of_ble_eq_true rfl) ?_
  conv => whnf
  refine Br.t ft_ ?_
  conv => whnf
  refine cut_ 104 [(2, .bool t3508)] [] rfl ⟨rfl, trivial⟩ trivial ?_
  conv => whnf
  injection H with H; subst H
  exact ret_fz [] (rtA_eq rfl)
  conv => whnf
  refine Br.f ff_ ?_
  conv => whnf
  refine Br.f ff_ ?_
  conv => whnf
  refine cut_ 104 [(2, .bool false)] [] rfl ⟨rfl, trivial⟩ trivial ?_
  conv => whnf
  injection H with H; subst H
  exact ret_fz [] (rtA_eq rfl)
  conv => whnf
  refine Br.f ff_ ?_
  conv => whnf
  refine Br.f ff_ ?_
  conv => whnf
  refine Br.f rfl ?_
  conv => whnf
  refine Br.f rfl ?_
  conv => whnf
  refine Br.f rfl ?_
  conv => whnf
  refine cut_ 104 [(2, .bool false)] [] rfl ⟨rfl, trivial⟩ trivial ?_
  conv => whnf
  injection H with H; subst H
  exact ret_fz [] (rtA_eq rfl)
theorem spec_l4Beside.l0_lp {F : (Exit → St → Prop) → St → Prop} {hv : List Tmp} {Q : Exit → St → Prop} {σ : St} {r : List ByteArray} {k : Nat} {a0_3 : List S_impl_PlantValve} {a1 : ByteArray} {x5 : List ByteArray} {x6 : Int} (H : spec_l4Beside.l0 k a0_3 a1 x5 x6 = some r) (rn : List (Option Nat)) (h1 : Fits σ σ [16] [(5, .own 0 x5.length), (6, .int .i64 x6)] [] [.arr 9 1 (x5.map en_str)] rn)
    (h2 : ∀ (k0 : Nat) (x5 : List ByteArray) (x6 : Int), k0 < k + 1 → spec_l4Beside.l0 k0 a0_3 a1 x5 x6 = some r → headN σ hv [16] [(5, .own 0 x5.length), (6, .int .i64 x6)] [] [.arr 9 1 (x5.map en_str)] (F (fun e σ' => match e with | .normal => ∃ (y : Nat × (List ByteArray) × Int) (rn : List (Option Nat)), (spec_l4Beside.l0 y.1 a0_3 a1 y.2.1 y.2.2 = some r ∧ y.1 < k + 1) ∧ y.1 < k0 ∧ Fits σ σ' [16] [(5, .own 0 y.2.1.length), (6, .int .i64 y.2.2)] [] [.arr 9 1 (y.2.1.map en_str)] rn | e => Q e σ'))) : Lp F hv Q σ := by
  unfold Lp
  refine ⟨Nat × (List ByteArray) × Int, fun x => spec_l4Beside.l0 x.1 a0_3 a1 x.2.1 x.2.2 = some r ∧ x.1 < k + 1, fun x => x.1, [16], fun x => [(5, .own 0 x.2.1.length), (6, .int .i64 x.2.2)], fun x => [], fun x => [.arr 9 1 (x.2.1.map en_str)], ⟨(k, x5, x6), rn, ⟨H, Nat.lt_succ_self _⟩, h1⟩, ?_⟩
  rintro ⟨k, x5, x6⟩ ⟨H, hk⟩
  exact h2 k x5 x6 hk H
theorem spec_l4Beside.ac {k : Nat} {a0_0 : List ByteArray} {a0_1 : List S_impl_PlantFoe} {a0_2 : List S_impl_PlantPlace} {a0_3 : List S_impl_PlantValve} {a1 : ByteArray} {r : List ByteArray} (H : spec_l4Beside.f k a0_0 a0_1 a0_2 a0_3 a1 = some r) : ACalls Try.prog G 83 [] [.agg [(sv_str a0_0), (sv_S_impl_PlantFoe a0_1), (sv_S_impl_PlantPlace a0_2), (sv_S_impl_PlantValve a0_3)], .str a1] [.arr 9 1 (r.map en_str)] (.own 0 r.length) := by
  refine acalls_of tok hP Try.func83 rfl (by kernel_rfl) [.tmp 4] rfl (by kernel_rfl) (Nat.le_of_ble_eq_true rfl) (.l .n (.l .n (.l (.l .n (.l (.c .n .n) (.c (.c .n .n) .n))) .n))) ?_
  unfold spec_l4Beside.f at H
  conv => whnf
  refine spec_l4Beside.l0_lp (a0_3 := a0_3) (a1 := a1) (k := k) H [some 16] (fits_of ⟨mt_own lm_, ⟨.inl ⟨rfl, rfl⟩, trivial⟩⟩ ⟨fm_, trivial⟩ fi_ trivial rfl) ?_
  intro k x5 x6 hk H; rcases k with _ | k; exact none_elim H; rw [spec_l4Beside.l0] at H; conv => whnf
  refine cut_ 81 [(1, .str a1), (2, .bp 0 0), (4, .nil), (5, .own 40 x5.length), (6, .int .i64 x6), (8, .int .i64 x6), (9, .bp 0 3), (10, (sv_S_impl_PlantValve a0_3)), (11, .int .i64 (a0_3.length : Int)), (12, .bool (decide (x6 < (a0_3.length : Int))))] [(0, .box [(sv_str a0_0), (sv_S_impl_PlantFoe a0_1), (sv_S_impl_PlantPlace a0_2), (sv_S_impl_PlantValve a0_3)]), (40, .arr 9 1 (x5.map en_str))] rfl ⟨rfl, ⟨rfl, ⟨rfl, ⟨rfl, ⟨rfl, ⟨rfl, ⟨rfl, ⟨rfl, ⟨rfl, ⟨rfl, trivial⟩⟩⟩⟩⟩⟩⟩⟩⟩⟩ ⟨rfl, ⟨rfl, trivial⟩⟩ ?_
  conv => whnf
  refine br_d H (fun c H => ?_) (fun c H => ?_)
  conv => whnf
  refine nd_ H (fun c H => ?_)
  conv => whnf
  refine Nd.mk nf_ ?_
  conv => whnf
  refine El.mk (rdm_en_S_impl_PlantValve _ _ nf_ nf_) ?_
  conv => whnf
  refine br_d H (fun c H => ?_) (fun c H => ?_)
  conv => whnf
  refine Br.t ft_ ?_
  conv => whnf
  refine Br.t ft_ ?_
  conv => whnf
  refine Br.t ft_ ?_
  conv => whnf
  refine Br.t ft_ ?_
  conv => whnf
  refine Br.t ft_ ?_
  conv => whnf
  refine Br.t ft_ ?_
  conv => whnf
  refine Br.t ft_ ?_
  conv => whnf
  refine Br.t ft_ ?_
  conv => whnf
  refine cut_ 225 [(1, .str a1), (2, .bp 0 0), (4, .nil), (5, .own 40 x5.length), (6, .int .i64 x6), (8, .int .i64 x6), (9, .bp 0 3), (10, (sv_S_impl_PlantValve a0_3)), (11, .int .i64 (a0_3.length : Int)), (12, .bool (decide (x6 < (a0_3.length : Int)))), (15, .bp 0 3), (16, (sv_S_impl_PlantValve a0_3)), (17, .int .i64 x6), (18, .rp [.str ((rd_impl_PlantValve a0_3 x6).f0), .str ((rd_impl_PlantValve a0_3 x6).f1), .str ((rd_impl_PlantValve a0_3 x6).f2), .str ((rd_impl_PlantValve a0_3 x6).f3)]), (19, .rp [.str ((rd_impl_PlantValve a0_3 x6).f1), .str ((rd_impl_PlantValve a0_3 x6).f2), .str ((rd_impl_PlantValve a0_3 x6).f3)]), (20, .str ((rd_impl_PlantValve a0_3 x6).f1)), (21, .str a1), (22, .bool (decide (((rd_impl_PlantValve a0_3 x6).f1).toList = a1.toList))), (23, .bool (decide (((rd_impl_PlantValve a0_3 x6).f1).toList = a1.toList))), (32, .bool true)] [(0, .box [(sv_str a0_0), (sv_S_impl_PlantFoe a0_1), (sv_S_impl_PlantPlace a0_2), (sv_S_impl_PlantValve a0_3)]), (40, .arr 9 1 (x5.map en_str))] rfl ⟨rfl, ⟨rfl, ⟨rfl, ⟨rfl, ⟨rfl, ⟨rfl, ⟨rfl, ⟨rfl, ⟨rfl, ⟨rfl, ⟨rfl, ⟨rfl, ⟨rfl, ⟨rfl, ⟨rfl, ⟨rfl, ⟨rfl, ⟨rfl, ⟨rfl, ⟨rfl, trivial⟩⟩⟩⟩⟩⟩⟩⟩⟩⟩⟩⟩⟩⟩⟩⟩⟩⟩⟩⟩ ⟨rfl, ⟨rfl, trivial⟩⟩ ?_
  conv => whnf
  refine Br.t rfl ?_
  conv => whnf
  refine Nd.mk nf_ ?_
  conv => whnf
  refine Nd.mk nf_ ?_
  conv => whnf
  refine El.mk (rdm_en_S_impl_PlantValve _ _ nf_ nf_) ?_
  conv => whnf
  refine nd_ H (fun c H => ?_)
  conv => whnf
  refine cut_ 305 [(1, .str a1), (2, .bp 0 0), (4, .nil), (5, .own 289 (x5.length + 1)), (6, .int .i64 x6), (8, .int .i64 x6), (9, .bp 0 3), (10, (sv_S_impl_PlantValve a0_3)), (11, .int .i64 (a0_3.length : Int)), (12, .bool (decide (x6 < (a0_3.length : Int)))), (15, .bp 0 3), (16, (sv_S_impl_PlantValve a0_3)), (17, .int .i64 x6), (18, .rp [.str ((rd_impl_PlantValve a0_3 x6).f0), .str ((rd_impl_PlantValve a0_3 x6).f1), .str ((rd_impl_PlantValve a0_3 x6).f2), .str ((rd_impl_PlantValve a0_3 x6).f3)]), (19, .rp [.str ((rd_impl_PlantValve a0_3 x6).f1), .str ((rd_impl_PlantValve a0_3 x6).f2), .str ((rd_impl_PlantValve a0_3 x6).f3)]), (20, .str ((rd_impl_PlantValve a0_3 x6).f1)), (21, .str a1), (22, .bool (decide (((rd_impl_PlantValve a0_3 x6).f1).toList = a1.toList))), (23, .bool (decide (((rd_impl_PlantValve a0_3 x6).f1).toList = a1.toList))), (32, .bool true), (33, .own 40 x5.length), (34, .bp 0 3), (35, (sv_S_impl_PlantValve a0_3)), (36, .int .i64 x6), (37, .rp [.str ((rd_impl_PlantValve a0_3 x6).f0), .str ((rd_impl_PlantValve a0_3 x6).f1), .str ((rd_impl_PlantValve a0_3 x6).f2), .str ((rd_impl_PlantValve a0_3 x6).f3)]), (38, .rp [.str ((rd_impl_PlantValve a0_3 x6).f0), .str ((rd_impl_PlantValve a0_3 x6).f1), .str ((rd_impl_PlantValve a0_3 x6).f2), .str ((rd_impl_PlantValve a0_3 x6).f3)]), (39, .str ((rd_impl_PlantValve a0_3 x6).f0)), (40, .own 281 1), (41, .own 289 (x5.length + 1))] [(0, .box [(sv_str a0_0), (sv_S_impl_PlantFoe a0_1), (sv_S_impl_PlantPlace a0_2), (sv_S_impl_PlantValve a0_3)]), (281, .arr 9 1 (([(rd_impl_PlantValve a0_3 x6).f0] : List ByteArray).map en_str)), (289, .arr 9 1 ((x5 ++ ([(rd_impl_PlantValve a0_3 x6).f0] : List ByteArray)).map en_str))] rfl ⟨rfl, ⟨rfl, ⟨rfl, ⟨rfl, ⟨rfl, ⟨rfl, ⟨rfl, ⟨rfl, ⟨rfl, ⟨rfl, ⟨rfl, ⟨rfl, ⟨rfl, ⟨rfl, ⟨rfl, ⟨rfl, ⟨rfl, ⟨rfl, ⟨rfl, ⟨rfl, ⟨rfl, ⟨rfl, ⟨rfl, ⟨rfl, ⟨rfl, ⟨rfl, ⟨rfl, ⟨rfl, ⟨rfl, trivial⟩⟩⟩⟩⟩⟩⟩⟩⟩⟩⟩⟩⟩⟩⟩⟩⟩⟩⟩⟩⟩⟩⟩⟩⟩⟩⟩⟩⟩ ⟨rfl, ⟨fm_, ⟨fm_, trivial⟩⟩⟩ ?_
  conv => whnf
  exact ⟨(k, (x5 ++ ([(rd_impl_PlantValve a0_3 x6).f0] : List ByteArray)), wrap64 (x6 + 1)), [some 289], ⟨H, lt_⟩, lt_, (fits_of ⟨mt_own lm_, ⟨.inl ⟨rfl, rfl⟩, trivial⟩⟩ ⟨rfl, trivial⟩ fi_ trivial rfl)⟩
  conv => whnf
  refine Br.f ff_ ?_
  conv => whnf
  refine Br.f ff_ ?_
  conv => whnf
  refine Br.f ff_ ?_
  conv => whnf
  refine Nd.mk nf_ ?_
  conv => whnf
  refine Nd.mk nf_ ?_
  conv => whnf
  refine El.mk (rdm_en_S_impl_PlantValve _ _ nf_ nf_) ?_
  conv => whnf
  refine Br.f ff_ ?_
  conv => whnf
  refine Br.f ff_ ?_
  conv => whnf
  refine Br.f ff_ ?_
  conv => whnf
  refine Br.f ff_ ?_
  conv => whnf
  refine Br.f ff_ ?_
  conv => whnf
  refine cut_ 225 [(1, .str a1), (2, .bp 0 0), (4, .nil), (5, .own 40 x5.length), (6, .int .i64 x6), (8, .int .i64 x6), (9, .bp 0 3), (10, (sv_S_impl_PlantValve a0_3)), (11, .int .i64 (a0_3.length : Int)), (12, .bool (decide (x6 < (a0_3.length : Int)))), (15, .bp 0 3), (16, (sv_S_impl_PlantValve a0_3)), (17, .int .i64 x6), (18, .rp [.str ((rd_impl_PlantValve a0_3 x6).f0), .str ((rd_impl_PlantValve a0_3 x6).f1), .str ((rd_impl_PlantValve a0_3 x6).f2), .str ((rd_impl_PlantValve a0_3 x6).f3)]), (19, .rp [.str ((rd_impl_PlantValve a0_3 x6).f1), .str ((rd_impl_PlantValve a0_3 x6).f2), .str ((rd_impl_PlantValve a0_3 x6).f3)]), (20, .str ((rd_impl_PlantValve a0_3 x6).f1)), (21, .str a1), (22, .bool (decide (((rd_impl_PlantValve a0_3 x6).f1).toList = a1.toList))), (23, .bool (decide (((rd_impl_PlantValve a0_3 x6).f1).toList = a1.toList))), (24, .bp 0 3), (25, (sv_S_impl_PlantValve a0_3)), (26, .int .i64 x6), (27, .rp [.str ((rd_impl_PlantValve a0_3 x6).f0), .str ((rd_impl_PlantValve a0_3 x6).f1), .str ((rd_impl_PlantValve a0_3 x6).f2), .str ((rd_impl_PlantValve a0_3 x6).f3)]), (28, .rp [.str ((rd_impl_PlantValve a0_3 x6).f2), .str ((rd_impl_PlantValve a0_3 x6).f3)]), (29, .str ((rd_impl_PlantValve a0_3 x6).f2)), (30, .str a1), (31, .bool (decide (((rd_impl_PlantValve a0_3 x6).f2).toList = a1.toList))), (32, .bool (decide (((rd_impl_PlantValve a0_3 x6).f2).toList = a1.toList)))] [(0, .box [(sv_str a0_0), (sv_S_impl_PlantFoe a0_1), (sv_S_impl_PlantPlace a0_2), (sv_S_impl_PlantValve a0_3)]), (40, .arr 9 1 (x5.map en_str))] rfl ⟨rfl, ⟨rfl, ⟨rfl, ⟨rfl, ⟨rfl, ⟨rfl, ⟨rfl, ⟨rfl, ⟨rfl, ⟨rfl, ⟨rfl, ⟨rfl, ⟨rfl, ⟨rfl, ⟨rfl, ⟨rfl, ⟨rfl, ⟨rfl, ⟨rfl, ⟨rfl, ⟨rfl, ⟨rfl, ⟨rfl, ⟨rfl, ⟨rfl, ⟨rfl, ⟨rfl, ⟨rfl, trivial⟩⟩⟩⟩⟩⟩⟩⟩⟩⟩⟩⟩⟩⟩⟩⟩⟩⟩⟩⟩⟩⟩⟩⟩⟩⟩⟩⟩ ⟨rfl, ⟨rfl, trivial⟩⟩ ?_
  conv => whnf
  refine br_d H (fun c H => ?_) (fun c H => ?_)
  conv => whnf
  refine Nd.mk nf_ ?_
  conv => whnf
  refine Nd.mk nf_ ?_
  conv => whnf
  refine El.mk (rdm_en_S_impl_PlantValve _ _ nf_ nf_) ?_
  conv => whnf
  refine nd_ H (fun c H => ?_)
  conv => whnf
  refine cut_ 305 [(1, .str a1), (2, .bp 0 0), (4, .nil), (5, .own 289 (x5.length + 1)), (6, .int .i64 x6), (8, .int .i64 x6), (9, .bp 0 3), (10, (sv_S_impl_PlantValve a0_3)), (11, .int .i64 (a0_3.length : Int)), (12, .bool (decide (x6 < (a0_3.length : Int)))), (15, .bp 0 3), (16, (sv_S_impl_PlantValve a0_3)), (17, .int .i64 x6), (18, .rp [.str ((rd_impl_PlantValve a0_3 x6).f0), .str ((rd_impl_PlantValve a0_3 x6).f1), .str ((rd_impl_PlantValve a0_3 x6).f2), .str ((rd_impl_PlantValve a0_3 x6).f3)]), (19, .rp [.str ((rd_impl_PlantValve a0_3 x6).f1), .str ((rd_impl_PlantValve a0_3 x6).f2), .str ((rd_impl_PlantValve a0_3 x6).f3)]), (20, .str ((rd_impl_PlantValve a0_3 x6).f1)), (21, .str a1), (22, .bool (decide (((rd_impl_PlantValve a0_3 x6).f1).toList = a1.toList))), (23, .bool (decide (((rd_impl_PlantValve a0_3 x6).f1).toList = a1.toList))), (24, .bp 0 3), (25, (sv_S_impl_PlantValve a0_3)), (26, .int .i64 x6), (27, .rp [.str ((rd_impl_PlantValve a0_3 x6).f0), .str ((rd_impl_PlantValve a0_3 x6).f1), .str ((rd_impl_PlantValve a0_3 x6).f2), .str ((rd_impl_PlantValve a0_3 x6).f3)]), (28, .rp [.str ((rd_impl_PlantValve a0_3 x6).f2), .str ((rd_impl_PlantValve a0_3 x6).f3)]), (29, .str ((rd_impl_PlantValve a0_3 x6).f2)), (30, .str a1), (31, .bool (decide (((rd_impl_PlantValve a0_3 x6).f2).toList = a1.toList))), (32, .bool (decide (((rd_impl_PlantValve a0_3 x6).f2).toList = a1.toList))), (33, .own 40 x5.length), (34, .bp 0 3), (35, (sv_S_impl_PlantValve a0_3)), (36, .int .i64 x6), (37, .rp [.str ((rd_impl_PlantValve a0_3 x6).f0), .str ((rd_impl_PlantValve a0_3 x6).f1), .str ((rd_impl_PlantValve a0_3 x6).f2), .str ((rd_impl_PlantValve a0_3 x6).f3)]), (38, .rp [.str ((rd_impl_PlantValve a0_3 x6).f0), .str ((rd_impl_PlantValve a0_3 x6).f1), .str ((rd_impl_PlantValve a0_3 x6).f2), .str ((rd_impl_PlantValve a0_3 x6).f3)]), (39, .str ((rd_impl_PlantValve a0_3 x6).f0)), (40, .own 281 1), (41, .own 289 (x5.length + 1))] [(0, .box [(sv_str a0_0), (sv_S_impl_PlantFoe a0_1), (sv_S_impl_PlantPlace a0_2), (sv_S_impl_PlantValve a0_3)]), (281, .arr 9 1 (([(rd_impl_PlantValve a0_3 x6).f0] : List ByteArray).map en_str)), (289, .arr 9 1 ((x5 ++ ([(rd_impl_PlantValve a0_3 x6).f0] : List ByteArray)).map en_str))] rfl ⟨rfl, ⟨rfl, ⟨rfl, ⟨rfl, ⟨rfl, ⟨rfl, ⟨rfl, ⟨rfl, ⟨rfl, ⟨rfl, ⟨rfl, ⟨rfl, ⟨rfl, ⟨rfl, ⟨rfl, ⟨rfl, ⟨rfl, ⟨rfl, ⟨rfl, ⟨rfl, ⟨rfl, ⟨rfl, ⟨rfl, ⟨rfl, ⟨rfl, ⟨rfl, ⟨rfl, ⟨rfl, ⟨rfl, ⟨rfl, ⟨rfl, ⟨rfl, ⟨rfl, ⟨rfl, ⟨rfl, ⟨rfl, ⟨rfl, trivial⟩⟩⟩⟩⟩⟩⟩⟩⟩⟩⟩⟩⟩⟩⟩⟩⟩⟩⟩⟩⟩⟩⟩⟩⟩⟩⟩⟩⟩⟩⟩⟩⟩⟩⟩⟩⟩ ⟨rfl, ⟨fm_, ⟨fm_, trivial⟩⟩⟩ ?_
  conv => whnf
  exact ⟨(k, (x5 ++ ([(rd_impl_PlantValve a0_3 x6).f0] : List ByteArray)), wrap64 (x6 + 1)), [some 289], ⟨H, lt_⟩, lt_, (fits_of ⟨mt_own lm_, ⟨.inl ⟨rfl, rfl⟩, trivial⟩⟩ ⟨rfl, trivial⟩ fi_ trivial rfl)⟩
  conv => whnf
  refine cut_ 225 [(1, .str a1), (2, .bp 0 0), (4, .nil), (5, .own 40 x5.length), (6, .int .i64 x6), (8, .int .i64 x6), (9, .bp 0 3), (10, (sv_S_impl_PlantValve a0_3)), (11, .int .i64 (a0_3.length : Int)), (12, .bool (decide (x6 < (a0_3.length : Int)))), (15, .bp 0 3), (16, (sv_S_impl_PlantValve a0_3)), (17, .int .i64 x6), (18, .rp [.str ((rd_impl_PlantValve a0_3 x6).f0), .str ((rd_impl_PlantValve a0_3 x6).f1), .str ((rd_impl_PlantValve a0_3 x6).f2), .str ((rd_impl_PlantValve a0_3 x6).f3)]), (19, .rp [.str ((rd_impl_PlantValve a0_3 x6).f1), .str ((rd_impl_PlantValve a0_3 x6).f2), .str ((rd_impl_PlantValve a0_3 x6).f3)]), (20, .str ((rd_impl_PlantValve a0_3 x6).f1)), (21, .str a1), (22, .bool (decide (((rd_impl_PlantValve a0_3 x6).f1).toList = a1.toList))), (23, .bool (decide (((rd_impl_PlantValve a0_3 x6).f1).toList = a1.toList))), (24, .bp 0 3), (25, (sv_S_impl_PlantValve a0_3)), (26, .int .i64 x6), (27, .rp [.str ((rd_impl_PlantValve a0_3 x6).f0), .str ((rd_impl_PlantValve a0_3 x6).f1), .str ((rd_impl_PlantValve a0_3 x6).f2), .str ((rd_impl_PlantValve a0_3 x6).f3)]), (28, .rp [.str ((rd_impl_PlantValve a0_3 x6).f2), .str ((rd_impl_PlantValve a0_3 x6).f3)]), (29, .str ((rd_impl_PlantValve a0_3 x6).f2)), (30, .str a1), (31, .bool (decide (((rd_impl_PlantValve a0_3 x6).f2).toList = a1.toList))), (32, .bool (decide (((rd_impl_PlantValve a0_3 x6).f2).toList = a1.toList)))] [(0, .box [(sv_str a0_0), (sv_S_impl_PlantFoe a0_1), (sv_S_impl_PlantPlace a0_2), (sv_S_impl_PlantValve a0_3)]), (40, .arr 9 1 (x5.map en_str))] rfl ⟨rfl, ⟨rfl, ⟨rfl, ⟨rfl, ⟨rfl, ⟨rfl, ⟨rfl, ⟨rfl, ⟨rfl, ⟨rfl, ⟨rfl, ⟨rfl, ⟨rfl, ⟨rfl, ⟨rfl, ⟨rfl, ⟨rfl, ⟨rfl, ⟨rfl, ⟨rfl, ⟨rfl, ⟨rfl, ⟨rfl, ⟨rfl, ⟨rfl, ⟨rfl, ⟨rfl, ⟨rfl, trivial⟩⟩⟩⟩⟩⟩⟩⟩⟩⟩⟩⟩⟩⟩⟩⟩⟩⟩⟩⟩⟩⟩⟩⟩⟩⟩⟩⟩ ⟨rfl, ⟨rfl, trivial⟩⟩ ?_
  conv => whnf
  exact ⟨(k, x5, wrap64 (x6 + 1)), [some 40], ⟨H, lt_⟩, lt_, (fits_of ⟨rfl, ⟨.inl ⟨rfl, rfl⟩, trivial⟩⟩ ⟨rfl, trivial⟩ fi_ trivial rfl)⟩
  conv => whnf
  injection H with H; subst H
  exact ret_gen [some 40] [] ((rfl)) ⟨rfl, trivial⟩ rfl
theorem spec_PlantBeside.ac {k : Nat} {a0_0 : List ByteArray} {a0_1 : List S_impl_PlantFoe} {a0_2 : List S_impl_PlantPlace} {a0_3 : List S_impl_PlantValve} {a1 : ByteArray} {r : List ByteArray} (H : spec_PlantBeside.f k a0_0 a0_1 a0_2 a0_3 a1 = some r) : ACalls Try.prog G 21 [] [.agg [(sv_str a0_0), (sv_S_impl_PlantFoe a0_1), (sv_S_impl_PlantPlace a0_2), (sv_S_impl_PlantValve a0_3)], .str a1] [.arr 9 1 (r.map en_str)] (.own 0 r.length) := by
  refine acalls_of tok hP Try.func21 rfl (by kernel_rfl) [.tmp 4] rfl (by kernel_rfl) (Nat.le_of_ble_eq_true rfl) .n ?_
  unfold spec_PlantBeside.f at H
  conv => whnf
  revert H; refine bind_elim (fun t3511 A H => ?_)
  refine call_mk (spec_PlantValid.ac A) (avAL_cons (avA_agg (avL_cons (av_shut' rfl) (avL_cons (av_shut' rfl) (avL_cons (av_shut' rfl) (avL_cons (av_shut' rfl) (avL_nil)))))) (avAL_nil)) (Or.inl rfl) rfl rfl (Nat.le_of_ble_eq_true rfl) ?_
  conv => whnf
  refine br_nt H (fun c H => ?_) (fun c H => ?_)
  conv => whnf
  revert H; refine bind_elim (fun t3513 A H => ?_)
  refine call_mk (spec_l4Beside.ac A) (avAL_cons (avA_agg (avL_cons (av_shut' rfl) (avL_cons (av_shut' rfl) (avL_cons (av_shut' rfl) (avL_cons (av_shut' rfl) (avL_nil)))))) (avAL_cons (avA_shut' rfl) (avAL_nil))) (Or.inl rfl) rfl rfl (Nat.le_of_ble_eq_true rfl) ?_
  conv => whnf
  injection H with H; subst H
  exact ret_gen [some 56] [] ((rfl)) ⟨rfl, trivial⟩ rfl
  conv => whnf
  injection H with H; subst H
  exact ret_gen [some 40] [] ((mt_own lm_)) ⟨fm_, trivial⟩ rfl
theorem impl_isName.l0_lp {F : (Exit → St → Prop) → St → Prop} {hv : List Tmp} {Q : Exit → St → Prop} {σ : St} {r : Bool} {k : Nat} {a0 : ByteArray} {x7 : Int} (H : impl_isName.l0 k a0 x7 = some r) (rn : List (Option Nat)) (h1 : Fits σ σ [] [(7, .int .i64 x7)] [] [] rn)
    (h2 : ∀ (k0 : Nat) (x7 : Int), k0 < k + 1 → impl_isName.l0 k0 a0 x7 = some r → headN σ hv [] [(7, .int .i64 x7)] [] [] (F (fun e σ' => match e with | .normal => ∃ (y : Nat × Int) (rn : List (Option Nat)), (impl_isName.l0 y.1 a0 y.2 = some r ∧ y.1 < k + 1) ∧ y.1 < k0 ∧ Fits σ σ' [] [(7, .int .i64 y.2)] [] [] rn | e => Q e σ'))) : Lp F hv Q σ := by
  unfold Lp
  refine ⟨Nat × Int, fun x => impl_isName.l0 x.1 a0 x.2 = some r ∧ x.1 < k + 1, fun x => x.1, [], fun x => [(7, .int .i64 x.2)], fun x => [], fun x => [], ⟨(k, x7), rn, ⟨H, Nat.lt_succ_self _⟩, h1⟩, ?_⟩
  rintro ⟨k, x7⟩ ⟨H, hk⟩
  exact h2 k x7 hk H
theorem impl_isName.ac {k : Nat} {a0 : ByteArray} {r : Bool} (H : impl_isName.f k a0 = some r) : ACalls Try.prog G 76 [] [.str a0] [] (.bool r) := by
  refine acalls_of tok hP Try.func76 rfl (by kernel_rfl) [.tmp 2] rfl (by kernel_rfl) (Nat.le_of_ble_eq_true rfl) (.l .n (.l (.l .n (.l .n (.l .n (.l (.l .n (.c .n (.c .n (.l (.c .n .n) .n)))) .n)))) (.c .n .n))) ?_
  unfold impl_isName.f at H
  conv => whnf
  refine impl_isName.l0_lp (a0 := a0) (k := k) H [] (fits_of ⟨.inl ⟨rfl, rfl⟩, trivial⟩ trivial fi_ trivial rfl) ?_
  intro k x7 hk H; rcases k with _ | k; exact none_elim H; rw [impl_isName.l0] at H; conv => whnf
  refine br_d H (fun c H => ?_) (fun c H => ?_)
  conv => whnf
  refine nd_ H (fun c H => ?_)
  conv => whnf
  refine Nd.mk nf_ ?_
  conv => whnf
  refine cut_ 88 [(0, .str a0), (3, .int .i64 x7), (4, .int .u8 (bt a0 x7)), (6, .int .i64 (a0.size : Int)), (7, .int .i64 x7), (8, .bool (decide (x7 < (a0.size : Int)))), (9, .int .i64 x7), (10, .str a0), (11, .int .i64 x7), (12, .int .u8 (bt a0 x7))] [] rfl ⟨rfl, ⟨rfl, ⟨rfl, ⟨rfl, ⟨rfl, ⟨rfl, ⟨rfl, ⟨rfl, ⟨rfl, ⟨rfl, trivial⟩⟩⟩⟩⟩⟩⟩⟩⟩⟩ trivial ?_
  conv => whnf
  refine br_d H (fun c H => ?_) (fun c H => ?_)
  conv => whnf
  refine Br.t ft_ ?_
  conv => whnf
  refine Br.t ft_ ?_
  conv => whnf
  refine Br.t rfl ?_
  conv => whnf
  refine Br.t rfl ?_
  conv => whnf
  refine Br.t rfl ?_
  conv => whnf
  refine br_d H (fun c H => ?_) (fun c H => ?_)
  conv => whnf
  refine Br.t ft_ ?_
  conv => whnf
  refine Br.t rfl ?_
  conv => whnf
  refine Br.t ft_ ?_
  conv => whnf
  refine Br.t rfl ?_
  conv => whnf
  refine Br.t rfl ?_
  conv => whnf
  refine Br.t rfl ?_
  conv => whnf
  refine Br.t rfl ?_
  conv => whnf
  refine cut_ 232 [(0, .str a0), (3, .int .i64 x7), (4, .int .u8 (bt a0 x7)), (6, .int .i64 (a0.size : Int)), (7, .int .i64 x7), (8, .bool (decide (x7 < (a0.size : Int)))), (9, .int .i64 x7), (10, .str a0), (11, .int .i64 x7), (12, .int .u8 (bt a0 x7)), (13, .int .u8 (bt a0 x7)), (14, .bool (decide ((bt a0 x7) < 97))), (15, .bool (decide ((bt a0 x7) < 97))), (18, .bool true), (19, .bool true), (20, .int .u8 (bt a0 x7)), (21, .bool (decide ((bt a0 x7) < 48))), (22, .bool (decide ((bt a0 x7) < 48))), (25, .bool true), (26, .bool true), (27, .bool true), (28, .int .u8 (bt a0 x7)), (29, .bool (!(decide ((bt a0 x7) = 45)))), (30, .bool (!(decide ((bt a0 x7) = 45))))] [] rfl ⟨rfl, ⟨rfl, ⟨rfl, ⟨rfl, ⟨rfl, ⟨rfl, ⟨rfl, ⟨rfl, ⟨rfl, ⟨rfl, ⟨rfl, ⟨rfl, ⟨rfl, ⟨rfl, ⟨rfl, ⟨rfl, ⟨rfl, ⟨rfl, ⟨rfl, ⟨rfl, ⟨rfl, ⟨rfl, ⟨rfl, ⟨rfl, trivial⟩⟩⟩⟩⟩⟩⟩⟩⟩⟩⟩⟩⟩⟩⟩⟩⟩⟩⟩⟩⟩⟩⟩⟩ trivial ?_
  conv => whnf
  refine br_nd H (fun c H => ?_) (fun c H => ?_)
  conv => whnf
  exact ⟨(k, wrap64 (x7 + 1)), [], ⟨H, lt_⟩, lt_, (fits_of ⟨.inl ⟨rfl, rfl⟩, trivial⟩ trivial fi_ trivial rfl)⟩
  conv => whnf
  refine cut_ 240 [(0, .str a0), (2, .bool false), (3, .int .i64 x7), (4, .int .u8 (bt a0 x7)), (6, .int .i64 (a0.size : Int)), (7, .int .i64 x7), (8, .bool (decide (x7 < (a0.size : Int)))), (9, .int .i64 x7), (10, .str a0), (11, .int .i64 x7), (12, .int .u8 (bt a0 x7)), (13, .int .u8 (bt a0 x7)), (14, .bool (decide ((bt a0 x7) < 97))), (15, .bool (decide ((bt a0 x7) < 97))), (18, .bool true), (19, .bool true), (20, .int .u8 (bt a0 x7)), (21, .bool (decide ((bt a0 x7) < 48))), (22, .bool (decide ((bt a0 x7) < 48))), (25, .bool true), (26, .bool true), (27, .bool true), (28, .int .u8 (bt a0 x7)), (29, .bool (!(decide ((bt a0 x7) = 45)))), (30, .bool (!(decide ((bt a0 x7) = 45))))] [] rfl ⟨rfl, ⟨rfl, ⟨rfl, ⟨rfl, ⟨rfl, ⟨rfl, ⟨rfl, ⟨rfl, ⟨rfl, ⟨rfl, ⟨rfl, ⟨rfl, ⟨rfl, ⟨rfl, ⟨rfl, ⟨rfl, ⟨rfl, ⟨rfl, ⟨rfl, ⟨rfl, ⟨rfl, ⟨rfl, ⟨rfl, ⟨rfl, ⟨rfl, trivial⟩⟩⟩⟩⟩⟩⟩⟩⟩⟩⟩⟩⟩⟩⟩⟩⟩⟩⟩⟩⟩⟩⟩⟩⟩ trivial ?_
  conv => whnf
  injection H with H; subst H
  exact ret_fz [] (rtA_eq rfl)
  conv => whnf
  refine Br.f ff_ ?_
  conv => whnf
  refine Br.t rfl ?_
  conv => whnf
  refine Br.f ff_ ?_
  conv => whnf
  refine Br.t rfl ?_
  conv => whnf
  refine br_d H (fun c H => ?_) (fun c H => ?_)
  conv => whnf
  refine Br.t ft_ ?_
  conv => whnf
  refine Br.t ft_ ?_
  conv => whnf
  refine cut_ 232 [(0, .str a0), (3, .int .i64 x7), (4, .int .u8 (bt a0 x7)), (6, .int .i64 (a0.size : Int)), (7, .int .i64 x7), (8, .bool (decide (x7 < (a0.size : Int)))), (9, .int .i64 x7), (10, .str a0), (11, .int .i64 x7), (12, .int .u8 (bt a0 x7)), (13, .int .u8 (bt a0 x7)), (14, .bool (decide ((bt a0 x7) < 97))), (15, .bool (decide ((bt a0 x7) < 97))), (18, .bool true), (19, .bool true), (20, .int .u8 (bt a0 x7)), (21, .bool (decide ((bt a0 x7) < 48))), (22, .bool (decide ((bt a0 x7) < 48))), (23, .int .u8 (bt a0 x7)), (24, .bool (decide ((bt a0 x7) > 57))), (25, .bool (decide ((bt a0 x7) > 57))), (26, .bool (decide ((bt a0 x7) > 57))), (27, .bool (decide ((bt a0 x7) > 57))), (28, .int .u8 (bt a0 x7)), (29, .bool (!(decide ((bt a0 x7) = 45)))), (30, .bool (!(decide ((bt a0 x7) = 45))))] [] rfl ⟨rfl, ⟨rfl, ⟨rfl, ⟨rfl, ⟨rfl, ⟨rfl, ⟨rfl, ⟨rfl, ⟨rfl, ⟨rfl, ⟨rfl, ⟨rfl, ⟨rfl, ⟨rfl, ⟨rfl, ⟨rfl, ⟨rfl, ⟨rfl, ⟨rfl, ⟨rfl, ⟨rfl, ⟨rfl, ⟨rfl, ⟨rfl, ⟨rfl, ⟨rfl, trivial⟩⟩⟩⟩⟩⟩⟩⟩⟩⟩⟩⟩⟩⟩⟩⟩⟩⟩⟩⟩⟩⟩⟩⟩⟩⟩ trivial ?_
  conv => whnf
  refine br_nd H (fun c H => ?_) (fun c H => ?_)
  conv => whnf
  exact ⟨(k, wrap64 (x7 + 1)), [], ⟨H, lt_⟩, lt_, (fits_of ⟨.inl ⟨rfl, rfl⟩, trivial⟩ trivial fi_ trivial rfl)⟩
  conv => whnf
  refine cut_ 240 [(0, .str a0), (2, .bool false), (3, .int .i64 x7), (4, .int .u8 (bt a0 x7)), (6, .int .i64 (a0.size : Int)), (7, .int .i64 x7), (8, .bool (decide (x7 < (a0.size : Int)))), (9, .int .i64 x7), (10, .str a0), (11, .int .i64 x7), (12, .int .u8 (bt a0 x7)), (13, .int .u8 (bt a0 x7)), (14, .bool (decide ((bt a0 x7) < 97))), (15, .bool (decide ((bt a0 x7) < 97))), (18, .bool true), (19, .bool true), (20, .int .u8 (bt a0 x7)), (21, .bool (decide ((bt a0 x7) < 48))), (22, .bool (decide ((bt a0 x7) < 48))), (23, .int .u8 (bt a0 x7)), (24, .bool (decide ((bt a0 x7) > 57))), (25, .bool (decide ((bt a0 x7) > 57))), (26, .bool (decide ((bt a0 x7) > 57))), (27, .bool (decide ((bt a0 x7) > 57))), (28, .int .u8 (bt a0 x7)), (29, .bool (!(decide ((bt a0 x7) = 45)))), (30, .bool (!(decide ((bt a0 x7) = 45))))] [] rfl ⟨rfl, ⟨rfl, ⟨rfl, ⟨rfl, ⟨rfl, ⟨rfl, ⟨rfl, ⟨rfl, ⟨rfl, ⟨rfl, ⟨rfl, ⟨rfl, ⟨rfl, ⟨rfl, ⟨rfl, ⟨rfl, ⟨rfl, ⟨rfl, ⟨rfl, ⟨rfl, ⟨rfl, ⟨rfl, ⟨rfl, ⟨rfl, ⟨rfl, ⟨rfl, ⟨rfl, trivial⟩⟩⟩⟩⟩⟩⟩⟩⟩⟩⟩⟩⟩⟩⟩⟩⟩⟩⟩⟩⟩⟩⟩⟩⟩⟩⟩ trivial ?_
  conv => whnf
  injection H with H; subst H
  exact ret_fz [] (rtA_eq rfl)
  conv => whnf
  refine Br.f ff_ ?_
  conv => whnf
  refine Br.f ff_ ?_
  conv => whnf
  refine cut_ 232 [(0, .str a0), (3, .int .i64 x7), (4, .int .u8 (bt a0 x7)), (6, .int .i64 (a0.size : Int)), (7, .int .i64 x7), (8, .bool (decide (x7 < (a0.size : Int)))), (9, .int .i64 x7), (10, .str a0), (11, .int .i64 x7), (12, .int .u8 (bt a0 x7)), (13, .int .u8 (bt a0 x7)), (14, .bool (decide ((bt a0 x7) < 97))), (15, .bool (decide ((bt a0 x7) < 97))), (18, .bool true), (19, .bool true), (20, .int .u8 (bt a0 x7)), (21, .bool (decide ((bt a0 x7) < 48))), (22, .bool (decide ((bt a0 x7) < 48))), (23, .int .u8 (bt a0 x7)), (24, .bool (decide ((bt a0 x7) > 57))), (25, .bool (decide ((bt a0 x7) > 57))), (26, .bool (decide ((bt a0 x7) > 57))), (27, .bool (decide ((bt a0 x7) > 57))), (30, .bool false)] [] rfl ⟨rfl, ⟨rfl, ⟨rfl, ⟨rfl, ⟨rfl, ⟨rfl, ⟨rfl, ⟨rfl, ⟨rfl, ⟨rfl, ⟨rfl, ⟨rfl, ⟨rfl, ⟨rfl, ⟨rfl, ⟨rfl, ⟨rfl, ⟨rfl, ⟨rfl, ⟨rfl, ⟨rfl, ⟨rfl, ⟨rfl, ⟨rfl, trivial⟩⟩⟩⟩⟩⟩⟩⟩⟩⟩⟩⟩⟩⟩⟩⟩⟩⟩⟩⟩⟩⟩⟩⟩ trivial ?_
  conv => whnf
  refine Br.f rfl ?_
  conv => whnf
  exact ⟨(k, wrap64 (x7 + 1)), [], ⟨H, lt_⟩, lt_, (fits_of ⟨.inl ⟨rfl, rfl⟩, trivial⟩ trivial fi_ trivial rfl)⟩
  conv => whnf
  refine Br.f ff_ ?_
  conv => whnf
  refine Br.f ff_ ?_
  conv => whnf
  refine br_d H (fun c H => ?_) (fun c H => ?_)
  conv => whnf
  refine Br.t ft_ ?_
  conv => whnf
  refine Br.t ft_ ?_
  conv => whnf
  refine br_d H (fun c H => ?_) (fun c H => ?_)
  conv => whnf
  refine Br.t ft_ ?_
  conv => whnf
  refine Br.t ft_ ?_
  conv => whnf
  refine Br.t ft_ ?_
  conv => whnf
  refine Br.t ft_ ?_
  conv => whnf
  refine Br.t rfl ?_
  conv => whnf
  refine Br.t rfl ?_
  conv => whnf
  refine Br.t rfl ?_
  conv => whnf
  refine cut_ 232 [(0, .str a0), (3, .int .i64 x7), (4, .int .u8 (bt a0 x7)), (6, .int .i64 (a0.size : Int)), (7, .int .i64 x7), (8, .bool (decide (x7 < (a0.size : Int)))), (9, .int .i64 x7), (10, .str a0), (11, .int .i64 x7), (12, .int .u8 (bt a0 x7)), (13, .int .u8 (bt a0 x7)), (14, .bool (decide ((bt a0 x7) < 97))), (15, .bool (decide ((bt a0 x7) < 97))), (16, .int .u8 (bt a0 x7)), (17, .bool (decide ((bt a0 x7) > 122))), (18, .bool (decide ((bt a0 x7) > 122))), (19, .bool (decide ((bt a0 x7) > 122))), (20, .int .u8 (bt a0 x7)), (21, .bool (decide ((bt a0 x7) < 48))), (22, .bool (decide ((bt a0 x7) < 48))), (25, .bool true), (26, .bool true), (27, .bool true), (28, .int .u8 (bt a0 x7)), (29, .bool (!(decide ((bt a0 x7) = 45)))), (30, .bool (!(decide ((bt a0 x7) = 45))))] [] rfl ⟨rfl, ⟨rfl, ⟨rfl, ⟨rfl, ⟨rfl, ⟨rfl, ⟨rfl, ⟨rfl, ⟨rfl, ⟨rfl, ⟨rfl, ⟨rfl, ⟨rfl, ⟨rfl, ⟨rfl, ⟨rfl, ⟨rfl, ⟨rfl, ⟨rfl, ⟨rfl, ⟨rfl, ⟨rfl, ⟨rfl, ⟨rfl, ⟨rfl, ⟨rfl, trivial⟩⟩⟩⟩⟩⟩⟩⟩⟩⟩⟩⟩⟩⟩⟩⟩⟩⟩⟩⟩⟩⟩⟩⟩⟩⟩ trivial ?_
  conv => whnf
  refine br_nd H (fun c H => ?_) (fun c H => ?_)
  conv => whnf
  exact ⟨(k, wrap64 (x7 + 1)), [], ⟨H, lt_⟩, lt_, (fits_of ⟨.inl ⟨rfl, rfl⟩, trivial⟩ trivial fi_ trivial rfl)⟩
  conv => whnf
  refine cut_ 240 [(0, .str a0), (2, .bool false), (3, .int .i64 x7), (4, .int .u8 (bt a0 x7)), (6, .int .i64 (a0.size : Int)), (7, .int .i64 x7), (8, .bool (decide (x7 < (a0.size : Int)))), (9, .int .i64 x7), (10, .str a0), (11, .int .i64 x7), (12, .int .u8 (bt a0 x7)), (13, .int .u8 (bt a0 x7)), (14, .bool (decide ((bt a0 x7) < 97))), (15, .bool (decide ((bt a0 x7) < 97))), (16, .int .u8 (bt a0 x7)), (17, .bool (decide ((bt a0 x7) > 122))), (18, .bool (decide ((bt a0 x7) > 122))), (19, .bool (decide ((bt a0 x7) > 122))), (20, .int .u8 (bt a0 x7)), (21, .bool (decide ((bt a0 x7) < 48))), (22, .bool (decide ((bt a0 x7) < 48))), (25, .bool true), (26, .bool true), (27, .bool true), (28, .int .u8 (bt a0 x7)), (29, .bool (!(decide ((bt a0 x7) = 45)))), (30, .bool (!(decide ((bt a0 x7) = 45))))] [] rfl ⟨rfl, ⟨rfl, ⟨rfl, ⟨rfl, ⟨rfl, ⟨rfl, ⟨rfl, ⟨rfl, ⟨rfl, ⟨rfl, ⟨rfl, ⟨rfl, ⟨rfl, ⟨rfl, ⟨rfl, ⟨rfl, ⟨rfl, ⟨rfl, ⟨rfl, ⟨rfl, ⟨rfl, ⟨rfl, ⟨rfl, ⟨rfl, ⟨rfl, ⟨rfl, ⟨rfl, trivial⟩⟩⟩⟩⟩⟩⟩⟩⟩⟩⟩⟩⟩⟩⟩⟩⟩⟩⟩⟩⟩⟩⟩⟩⟩⟩⟩ trivial ?_
  conv => whnf
  injection H with H; subst H
  exact ret_fz [] (rtA_eq rfl)
  conv => whnf
  refine Br.f ff_ ?_
  conv => whnf
  refine Br.t ft_ ?_
  conv => whnf
  refine Br.f ff_ ?_
  conv => whnf
  refine Br.t ft_ ?_
  conv => whnf
  refine br_d H (fun c H => ?_) (fun c H => ?_)
  conv => whnf
  refine Br.t ft_ ?_
  conv => whnf
  refine Br.t ft_ ?_
  conv => whnf
  refine cut_ 232 [(0, .str a0), (3, .int .i64 x7), (4, .int .u8 (bt a0 x7)), (6, .int .i64 (a0.size : Int)), (7, .int .i64 x7), (8, .bool (decide (x7 < (a0.size : Int)))), (9, .int .i64 x7), (10, .str a0), (11, .int .i64 x7), (12, .int .u8 (bt a0 x7)), (13, .int .u8 (bt a0 x7)), (14, .bool (decide ((bt a0 x7) < 97))), (15, .bool (decide ((bt a0 x7) < 97))), (16, .int .u8 (bt a0 x7)), (17, .bool (decide ((bt a0 x7) > 122))), (18, .bool (decide ((bt a0 x7) > 122))), (19, .bool (decide ((bt a0 x7) > 122))), (20, .int .u8 (bt a0 x7)), (21, .bool (decide ((bt a0 x7) < 48))), (22, .bool (decide ((bt a0 x7) < 48))), (23, .int .u8 (bt a0 x7)), (24, .bool (decide ((bt a0 x7) > 57))), (25, .bool (decide ((bt a0 x7) > 57))), (26, .bool (decide ((bt a0 x7) > 57))), (27, .bool (decide ((bt a0 x7) > 57))), (28, .int .u8 (bt a0 x7)), (29, .bool (!(decide ((bt a0 x7) = 45)))), (30, .bool (!(decide ((bt a0 x7) = 45))))] [] rfl ⟨rfl, ⟨rfl, ⟨rfl, ⟨rfl, ⟨rfl, ⟨rfl, ⟨rfl, ⟨rfl, ⟨rfl, ⟨rfl, ⟨rfl, ⟨rfl, ⟨rfl, ⟨rfl, ⟨rfl, ⟨rfl, ⟨rfl, ⟨rfl, ⟨rfl, ⟨rfl, ⟨rfl, ⟨rfl, ⟨rfl, ⟨rfl, ⟨rfl, ⟨rfl, ⟨rfl, ⟨rfl, trivial⟩⟩⟩⟩⟩⟩⟩⟩⟩⟩⟩⟩⟩⟩⟩⟩⟩⟩⟩⟩⟩⟩⟩⟩⟩⟩⟩⟩ trivial ?_
  conv => whnf
  refine br_nd H (fun c H => ?_) (fun c H => ?_)
  conv => whnf
  exact ⟨(k, wrap64 (x7 + 1)), [], ⟨H, lt_⟩, lt_, (fits_of ⟨.inl ⟨rfl, rfl⟩, trivial⟩ trivial fi_ trivial rfl)⟩
  conv => whnf
  refine cut_ 240 [(0, .str a0), (2, .bool false), (3, .int .i64 x7), (4, .int .u8 (bt a0 x7)), (6, .int .i64 (a0.size : Int)), (7, .int .i64 x7), (8, .bool (decide (x7 < (a0.size : Int)))), (9, .int .i64 x7), (10, .str a0), (11, .int .i64 x7), (12, .int .u8 (bt a0 x7)), (13, .int .u8 (bt a0 x7)), (14, .bool (decide ((bt a0 x7) < 97))), (15, .bool (decide ((bt a0 x7) < 97))), (16, .int .u8 (bt a0 x7)), (17, .bool (decide ((bt a0 x7) > 122))), (18, .bool (decide ((bt a0 x7) > 122))), (19, .bool (decide ((bt a0 x7) > 122))), (20, .int .u8 (bt a0 x7)), (21, .bool (decide ((bt a0 x7) < 48))), (22, .bool (decide ((bt a0 x7) < 48))), (23, .int .u8 (bt a0 x7)), (24, .bool (decide ((bt a0 x7) > 57))), (25, .bool (decide ((bt a0 x7) > 57))), (26, .bool (decide ((bt a0 x7) > 57))), (27, .bool (decide ((bt a0 x7) > 57))), (28, .int .u8 (bt a0 x7)), (29, .bool (!(decide ((bt a0 x7) = 45)))), (30, .bool (!(decide ((bt a0 x7) = 45))))] [] rfl ⟨rfl, ⟨rfl, ⟨rfl, ⟨rfl, ⟨rfl, ⟨rfl, ⟨rfl, ⟨rfl, ⟨rfl, ⟨rfl, ⟨rfl, ⟨rfl, ⟨rfl, ⟨rfl, ⟨rfl, ⟨rfl, ⟨rfl, ⟨rfl, ⟨rfl, ⟨rfl, ⟨rfl, ⟨rfl, ⟨rfl, ⟨rfl, ⟨rfl, ⟨rfl, ⟨rfl, ⟨rfl, ⟨rfl, trivial⟩⟩⟩⟩⟩⟩⟩⟩⟩⟩⟩⟩⟩⟩⟩⟩⟩⟩⟩⟩⟩⟩⟩⟩⟩⟩⟩⟩⟩ trivial ?_
  conv => whnf
  injection H with H; subst H
  exact ret_fz [] (rtA_eq rfl)
  conv => whnf
  refine Br.f ff_ ?_
  conv => whnf
  refine Br.f ff_ ?_
  conv => whnf
  refine cut_ 232 [(0, .str a0), (3, .int .i64 x7), (4, .int .u8 (bt a0 x7)), (6, .int .i64 (a0.size : Int)), (7, .int .i64 x7), (8, .bool (decide (x7 < (a0.size : Int)))), (9, .int .i64 x7), (10, .str a0), (11, .int .i64 x7), (12, .int .u8 (bt a0 x7)), (13, .int .u8 (bt a0 x7)), (14, .bool (decide ((bt a0 x7) < 97))), (15, .bool (decide ((bt a0 x7) < 97))), (16, .int .u8 (bt a0 x7)), (17, .bool (decide ((bt a0 x7) > 122))), (18, .bool (decide ((bt a0 x7) > 122))), (19, .bool (decide ((bt a0 x7) > 122))), (20, .int .u8 (bt a0 x7)), (21, .bool (decide ((bt a0 x7) < 48))), (22, .bool (decide ((bt a0 x7) < 48))), (23, .int .u8 (bt a0 x7)), (24, .bool (decide ((bt a0 x7) > 57))), (25, .bool (decide ((bt a0 x7) > 57))), (26, .bool (decide ((bt a0 x7) > 57))), (27, .bool (decide ((bt a0 x7) > 57))), (30, .bool false)] [] rfl ⟨rfl, ⟨rfl, ⟨rfl, ⟨rfl, ⟨rfl, ⟨rfl, ⟨rfl, ⟨rfl, ⟨rfl, ⟨rfl, ⟨rfl, ⟨rfl, ⟨rfl, ⟨rfl, ⟨rfl, ⟨rfl, ⟨rfl, ⟨rfl, ⟨rfl, ⟨rfl, ⟨rfl, ⟨rfl, ⟨rfl, ⟨rfl, ⟨rfl, ⟨rfl, trivial⟩⟩⟩⟩⟩⟩⟩⟩⟩⟩⟩⟩⟩⟩⟩⟩⟩⟩⟩⟩⟩⟩⟩⟩⟩⟩ trivial ?_
  conv => whnf
  refine Br.f rfl ?_
  conv => whnf
  exact ⟨(k, wrap64 (x7 + 1)), [], ⟨H, lt_⟩, lt_, (fits_of ⟨.inl ⟨rfl, rfl⟩, trivial⟩ trivial fi_ trivial rfl)⟩
  conv => whnf
  refine Br.f ff_ ?_
  conv => whnf
  refine Br.f ff_ ?_
  conv => whnf
  refine Br.f ff_ ?_
  conv => whnf
  refine Br.f ff_ ?_
  conv => whnf
  refine Br.f rfl ?_
  conv => whnf
  refine Br.f rfl ?_
  conv => whnf
  refine Br.f rfl ?_
  conv => whnf
  refine cut_ 232 [(0, .str a0), (3, .int .i64 x7), (4, .int .u8 (bt a0 x7)), (6, .int .i64 (a0.size : Int)), (7, .int .i64 x7), (8, .bool (decide (x7 < (a0.size : Int)))), (9, .int .i64 x7), (10, .str a0), (11, .int .i64 x7), (12, .int .u8 (bt a0 x7)), (13, .int .u8 (bt a0 x7)), (14, .bool (decide ((bt a0 x7) < 97))), (15, .bool (decide ((bt a0 x7) < 97))), (16, .int .u8 (bt a0 x7)), (17, .bool (decide ((bt a0 x7) > 122))), (18, .bool (decide ((bt a0 x7) > 122))), (19, .bool (decide ((bt a0 x7) > 122))), (26, .bool false), (27, .bool false), (30, .bool false)] [] rfl ⟨rfl, ⟨rfl, ⟨rfl, ⟨rfl, ⟨rfl, ⟨rfl, ⟨rfl, ⟨rfl, ⟨rfl, ⟨rfl, ⟨rfl, ⟨rfl, ⟨rfl, ⟨rfl, ⟨rfl, ⟨rfl, ⟨rfl, ⟨rfl, ⟨rfl, ⟨rfl, trivial⟩⟩⟩⟩⟩⟩⟩⟩⟩⟩⟩⟩⟩⟩⟩⟩⟩⟩⟩⟩ trivial ?_
  conv => whnf
  refine Br.f rfl ?_
  conv => whnf
  exact ⟨(k, wrap64 (x7 + 1)), [], ⟨H, lt_⟩, lt_, (fits_of ⟨.inl ⟨rfl, rfl⟩, trivial⟩ trivial fi_ trivial rfl)⟩
  conv => whnf
  refine br_d H (fun c H => ?_) (fun c H => ?_)
  conv => whnf
  refine Br.t ft_ ?_
  conv => whnf
  refine Br.t ft_ ?_
  conv => whnf
  refine Br.t ft_ ?_
  conv => whnf
  refine cut_ 112 [(2, .bool (decide ((a0.size : Int) ≤ 8)))] [] rfl ⟨rfl, trivial⟩ trivial ?_
  conv => whnf
  injection H with H; subst H
  exact ret_fz [] (rtA_eq rfl)
  conv => whnf
  refine Br.f ff_ ?_
  conv => whnf
  refine Br.f ff_ ?_
  conv => whnf
  refine Br.f ff_ ?_
  conv => whnf
  refine cut_ 112 [(2, .bool false)] [] rfl ⟨rfl, trivial⟩ trivial ?_
  conv => whnf
  injection H with H; subst H
  exact ret_fz [] (rtA_eq rfl)
theorem impl_rising.l0_lp {F : (Exit → St → Prop) → St → Prop} {hv : List Tmp} {Q : Exit → St → Prop} {σ : St} {r : Bool} {k : Nat} {l0 : List ByteArray} {x3 : Int} (H : impl_rising.l0 k l0 x3 = some r) (rn : List (Option Nat)) (h1 : Fits σ σ [] [(3, .int .i64 x3)] [] [] rn)
    (h2 : ∀ (k0 : Nat) (x3 : Int), k0 < k + 1 → impl_rising.l0 k0 l0 x3 = some r → headN σ hv [] [(3, .int .i64 x3)] [] [] (F (fun e σ' => match e with | .normal => ∃ (y : Nat × Int) (rn : List (Option Nat)), (impl_rising.l0 y.1 l0 y.2 = some r ∧ y.1 < k + 1) ∧ y.1 < k0 ∧ Fits σ σ' [] [(3, .int .i64 y.2)] [] [] rn | e => Q e σ'))) : Lp F hv Q σ := by
  unfold Lp
  refine ⟨Nat × Int, fun x => impl_rising.l0 x.1 l0 x.2 = some r ∧ x.1 < k + 1, fun x => x.1, [], fun x => [(3, .int .i64 x.2)], fun x => [], fun x => [], ⟨(k, x3), rn, ⟨H, Nat.lt_succ_self _⟩, h1⟩, ?_⟩
  rintro ⟨k, x3⟩ ⟨H, hk⟩
  exact h2 k x3 hk H
theorem impl_rising.ac {k : Nat} {l0 : List ByteArray} {r : Bool} (H : impl_rising.f k l0 = some r) : ACalls Try.prog G 125 [] [(sv_str l0)] [] (.bool r) := by
  refine acalls_of tok hP Try.func125 rfl (by kernel_rfl) [.tmp 2] rfl (by kernel_rfl) (Nat.le_of_ble_eq_true rfl) (.l .n (.l (.l .n (.l .n (.l (.c .n .n) .n))) .n)) ?_
  unfold impl_rising.f at H
  conv => whnf
  refine impl_rising.l0_lp (l0 := l0) (k := k) H [] (fits_of ⟨.inl ⟨rfl, rfl⟩, trivial⟩ trivial fi_ trivial rfl) ?_
  intro k x3 hk H; rcases k with _ | k; exact none_elim H; rw [impl_rising.l0] at H; conv => whnf
  refine br_d H (fun c H => ?_) (fun c H => ?_)
  conv => whnf
  refine nd_ H (fun c H => ?_)
  conv => whnf
  refine nd_ H (fun c H => ?_)
  conv => whnf
  refine El.mk (rdm_en_str _ _ nf_ nf_) ?_
  conv => whnf
  refine nd_ H (fun c H => ?_)
  conv => whnf
  refine Nd.mk nf_ ?_
  conv => whnf
  refine El.mk (rdm_en_str _ _ nf_ nf_) ?_
  conv => whnf
  refine cut_ 128 [(0, (sv_str l0)), (3, .int .i64 x3), (4, .int .i64 x3), (5, (sv_str l0)), (6, .int .i64 (l0.length : Int)), (7, .bool (decide (x3 < (l0.length : Int)))), (10, (sv_str l0)), (11, .int .i64 x3), (12, .int .i64 (wrap64 (x3 - 1))), (13, .rp [.str (rdOf ByteArray.empty l0 (wrap64 (x3 - 1)))]), (14, .str (rdOf ByteArray.empty l0 (wrap64 (x3 - 1)))), (15, (sv_str l0)), (16, .int .i64 x3), (17, .rp [.str (rdOf ByteArray.empty l0 x3)]), (18, .str (rdOf ByteArray.empty l0 x3)), (19, .bool (!(Op.bytesLess (rdOf ByteArray.empty l0 (wrap64 (x3 - 1))).toList (rdOf ByteArray.empty l0 x3).toList)))] [] rfl ⟨rfl, ⟨rfl, ⟨rfl, ⟨rfl, ⟨rfl, ⟨rfl, ⟨rfl, ⟨rfl, ⟨rfl, ⟨rfl, ⟨rfl, ⟨rfl, ⟨rfl, ⟨rfl, ⟨rfl, ⟨rfl, trivial⟩⟩⟩⟩⟩⟩⟩⟩⟩⟩⟩⟩⟩⟩⟩⟩ trivial ?_
  conv => whnf
  refine br_nt H (fun c H => ?_) (fun c H => ?_)
  conv => whnf
  exact ⟨(k, wrap64 (x3 + 1)), [], ⟨H, lt_⟩, lt_, (fits_of ⟨.inl ⟨rfl, rfl⟩, trivial⟩ trivial fi_ trivial rfl)⟩
  conv => whnf
  injection H with H; subst H
  exact ret_fz [] (rtA_eq rfl)
  conv => whnf
  injection H with H; subst H
  exact ret_fz [] (rtA_eq rfl)
theorem impl_names.l0_lp {F : (Exit → St → Prop) → St → Prop} {hv : List Tmp} {Q : Exit → St → Prop} {σ : St} {r : Bool} {k : Nat} {l0 : List ByteArray} {x7 : Int} (H : impl_names.l0 k l0 x7 = some r) (rn : List (Option Nat)) (h1 : Fits σ σ [] [(7, .int .i64 x7)] [] [] rn)
    (h2 : ∀ (k0 : Nat) (x7 : Int), k0 < k + 1 → impl_names.l0 k0 l0 x7 = some r → headN σ hv [] [(7, .int .i64 x7)] [] [] (F (fun e σ' => match e with | .normal => ∃ (y : Nat × Int) (rn : List (Option Nat)), (impl_names.l0 y.1 l0 y.2 = some r ∧ y.1 < k + 1) ∧ y.1 < k0 ∧ Fits σ σ' [] [(7, .int .i64 y.2)] [] [] rn | e => Q e σ'))) : Lp F hv Q σ := by
  unfold Lp
  refine ⟨Nat × Int, fun x => impl_names.l0 x.1 l0 x.2 = some r ∧ x.1 < k + 1, fun x => x.1, [], fun x => [(7, .int .i64 x.2)], fun x => [], fun x => [], ⟨(k, x7), rn, ⟨H, Nat.lt_succ_self _⟩, h1⟩, ?_⟩
  rintro ⟨k, x7⟩ ⟨H, hk⟩
  exact h2 k x7 hk H
theorem impl_names.ac {k : Nat} {l0 : List ByteArray} {r : Bool} (H : impl_names.f k l0 = some r) : ACalls Try.prog G 72 [] [(sv_str l0)] [] (.bool r) := by
  refine acalls_of tok hP Try.func72 rfl (by kernel_rfl) [.tmp 2] rfl (by kernel_rfl) (Nat.le_of_ble_eq_true rfl) (.l .n (.l (.l .n (.l .n (.l .n (.l (.l .n (.c .n .n)) .n)))) .n)) ?_
  unfold impl_names.f at H
  conv => whnf
  refine impl_names.l0_lp (l0 := l0) (k := k) H [] (fits_of ⟨.inl ⟨rfl, rfl⟩, trivial⟩ trivial fi_ trivial rfl) ?_
  intro k x7 hk H; rcases k with _ | k; exact none_elim H; rw [impl_names.l0] at H; conv => whnf
  refine br_d H (fun c H => ?_) (fun c H => ?_)
  conv => whnf
  refine nd_ H (fun c H => ?_)
  conv => whnf
  refine Nd.mk nf_ ?_
  conv => whnf
  refine El.mk (rdm_en_str _ _ nf_ nf_) ?_
  conv => whnf
  revert H; refine bind_elim (fun t3517 A H => ?_)
  refine call_mk (impl_isName.ac A) (avAL_cons (avA_shut' rfl) (avAL_nil)) (Or.inl rfl) rfl rfl (Nat.le_of_ble_eq_true rfl) ?_
  conv => whnf
  refine cut_ 88 [(0, (sv_str l0)), (4, .str (rdOf ByteArray.empty l0 x7)), (5, (sv_str l0)), (6, .int .i64 (l0.length : Int)), (7, .int .i64 x7), (8, .bool (decide (x7 < (l0.length : Int)))), (9, .rp [.str (rdOf ByteArray.empty l0 x7)]), (10, .str (rdOf ByteArray.empty l0 x7)), (11, .str (rdOf ByteArray.empty l0 x7)), (12, .bool t3517), (13, .bool (!t3517))] [] rfl ⟨rfl, ⟨rfl, ⟨rfl, ⟨rfl, ⟨rfl, ⟨rfl, ⟨rfl, ⟨rfl, ⟨rfl, ⟨rfl, ⟨rfl, trivial⟩⟩⟩⟩⟩⟩⟩⟩⟩⟩⟩ trivial ?_
  conv => whnf
  refine br_nt H (fun c H => ?_) (fun c H => ?_)
  conv => whnf
  exact ⟨(k, wrap64 (x7 + 1)), [], ⟨H, lt_⟩, lt_, (fits_of ⟨.inl ⟨rfl, rfl⟩, trivial⟩ trivial fi_ trivial rfl)⟩
  conv => whnf
  injection H with H; subst H
  exact ret_fz [] (rtA_eq rfl)
  conv => whnf
  revert H; refine bind_elim (fun t3519 A H => ?_)
  refine call_mk (impl_rising.ac A) (avAL_cons (avA_shut' rfl) (avAL_nil)) (Or.inl rfl) rfl rfl (Nat.le_of_ble_eq_true rfl) ?_
  conv => whnf
  injection H with H; subst H
  exact ret_fz [] (rtA_eq rfl)
theorem impl_Plant_pairs.l0_lp {F : (Exit → St → Prop) → St → Prop} {hv : List Tmp} {Q : Exit → St → Prop} {σ : St} {r : List S_A2_string} {k : Nat} {a0_1 : List S_impl_PlantFoe} {x2 : List S_A2_string} {x8 : Int} (H : impl_Plant_pairs.l0 k a0_1 x2 x8 = some r) (rn : List (Option Nat)) (h1 : Fits σ σ [0] [(2, .own 0 x2.length), (8, .int .i64 x8)] [] [.arr 150 2 (x2.map en_S_A2_string)] rn)
    (h2 : ∀ (k0 : Nat) (x2 : List S_A2_string) (x8 : Int), k0 < k + 1 → impl_Plant_pairs.l0 k0 a0_1 x2 x8 = some r → headN σ hv [0] [(2, .own 0 x2.length), (8, .int .i64 x8)] [] [.arr 150 2 (x2.map en_S_A2_string)] (F (fun e σ' => match e with | .normal => ∃ (y : Nat × (List S_A2_string) × Int) (rn : List (Option Nat)), (impl_Plant_pairs.l0 y.1 a0_1 y.2.1 y.2.2 = some r ∧ y.1 < k + 1) ∧ y.1 < k0 ∧ Fits σ σ' [0] [(2, .own 0 y.2.1.length), (8, .int .i64 y.2.2)] [] [.arr 150 2 (y.2.1.map en_S_A2_string)] rn | e => Q e σ'))) : Lp F hv Q σ := by
  unfold Lp
  refine ⟨Nat × (List S_A2_string) × Int, fun x => impl_Plant_pairs.l0 x.1 a0_1 x.2.1 x.2.2 = some r ∧ x.1 < k + 1, fun x => x.1, [0], fun x => [(2, .own 0 x.2.1.length), (8, .int .i64 x.2.2)], fun x => [], fun x => [.arr 150 2 (x.2.1.map en_S_A2_string)], ⟨(k, x2, x8), rn, ⟨H, Nat.lt_succ_self _⟩, h1⟩, ?_⟩
  rintro ⟨k, x2, x8⟩ ⟨H, hk⟩
  exact h2 k x2 x8 hk H
theorem impl_Plant_pairs.ac {k : Nat} {a0_0 : List ByteArray} {a0_1 : List S_impl_PlantFoe} {a0_2 : List S_impl_PlantPlace} {a0_3 : List S_impl_PlantValve} {r : List S_A2_string} (H : impl_Plant_pairs.f k a0_0 a0_1 a0_2 a0_3 = some r) : ACalls Try.prog G 74 [] [.agg [(sv_str a0_0), (sv_S_impl_PlantFoe a0_1), (sv_S_impl_PlantPlace a0_2), (sv_S_impl_PlantValve a0_3)]] [] ((sv_S_A2_string r)) := by
  refine acalls_of tok hP Try.func74 rfl (by kernel_rfl) [.tmp 2] rfl (by kernel_rfl) (Nat.le_of_ble_eq_true rfl) (.l .n (.l (.l .n (.l .n (.l .n (.l (.c .n .n) .n)))) .n)) ?_
  unfold impl_Plant_pairs.f at H
  conv => whnf
  refine impl_Plant_pairs.l0_lp (a0_1 := a0_1) (k := k) H [none] (fits_of ⟨⟨rfl, rfl⟩, ⟨.inl ⟨rfl, rfl⟩, trivial⟩⟩ ⟨⟨_, _, rfl⟩, trivial⟩ fi_ trivial rfl) ?_
  intro k x2 x8 hk H; rcases k with _ | k; exact none_elim H; rw [impl_Plant_pairs.l0] at H; conv => whnf
  refine br_d H (fun c H => ?_) (fun c H => ?_)
  conv => whnf
  refine nd_ H (fun c H => ?_)
  conv => whnf
  refine Nd.mk nf_ ?_
  conv => whnf
  refine El.mk (rdm_en_S_impl_PlantFoe _ _ nf_ nf_) ?_
  conv => whnf
  refine cut_ 89 [(2, .own 48 x2.length), (4, .bp 73 0), (6, (sv_S_impl_PlantFoe a0_1)), (7, .int .i64 (a0_1.length : Int)), (8, .int .i64 x8), (9, .bool (decide (x8 < (a0_1.length : Int)))), (10, .rp [.str ((rd_impl_PlantFoe a0_1 x8).f0), .str ((rd_impl_PlantFoe a0_1 x8).f1)]), (11, .agg [.str ((rd_impl_PlantFoe a0_1 x8).f0), .str ((rd_impl_PlantFoe a0_1 x8).f1)])] [(48, .arr 150 2 (x2.map en_S_A2_string)), (73, .box [.str ((rd_impl_PlantFoe a0_1 x8).f0), .str ((rd_impl_PlantFoe a0_1 x8).f1)])] rfl ⟨rfl, ⟨rfl, ⟨rfl, ⟨rfl, ⟨rfl, ⟨rfl, ⟨rfl, ⟨rfl, trivial⟩⟩⟩⟩⟩⟩⟩⟩ ⟨rfl, ⟨rfl, trivial⟩⟩ ?_
  conv => whnf
  refine nd_ H (fun c H => ?_)
  conv => whnf
  exact ⟨(k, (x2 ++ ([(⟨(rd_impl_PlantFoe a0_1 x8).f0, (rd_impl_PlantFoe a0_1 x8).f1⟩ : S_A2_string)] : List S_A2_string)), wrap64 (x8 + 1)), [some 145], ⟨H, lt_⟩, lt_, (fits_of ⟨mt_own lm_, ⟨.inl ⟨rfl, rfl⟩, trivial⟩⟩ ⟨fm_, trivial⟩ fi_ trivial rfl)⟩
  conv => whnf
  injection H with H; subst H
  exact ret_fz [48] (rtA_fz' rfl rfl)
theorem impl_foesOk.l0_lp {F : (Exit → St → Prop) → St → Prop} {hv : List Tmp} {Q : Exit → St → Prop} {σ : St} {r : Bool} {k : Nat} {l0 : List S_A2_string} {a1 : Int} {x9 : Int} (H : impl_foesOk.l0 k l0 a1 x9 = some r) (rn : List (Option Nat)) (h1 : Fits σ σ [] [(9, .int .i64 x9)] [] [] rn)
    (h2 : ∀ (k0 : Nat) (x9 : Int), k0 < k + 1 → impl_foesOk.l0 k0 l0 a1 x9 = some r → headN σ hv [] [(9, .int .i64 x9)] [] [] (F (fun e σ' => match e with | .normal => ∃ (y : Nat × Int) (rn : List (Option Nat)), (impl_foesOk.l0 y.1 l0 a1 y.2 = some r ∧ y.1 < k + 1) ∧ y.1 < k0 ∧ Fits σ σ' [] [(9, .int .i64 y.2)] [] [] rn | e => Q e σ'))) : Lp F hv Q σ := by
  unfold Lp
  refine ⟨Nat × Int, fun x => impl_foesOk.l0 x.1 l0 a1 x.2 = some r ∧ x.1 < k + 1, fun x => x.1, [], fun x => [(9, .int .i64 x.2)], fun x => [], fun x => [], ⟨(k, x9), rn, ⟨H, Nat.lt_succ_self _⟩, h1⟩, ?_⟩
  rintro ⟨k, x9⟩ ⟨H, hk⟩
  exact h2 k x9 hk H

end Go.Proofs.Ytpildfacenlceaa.GB

