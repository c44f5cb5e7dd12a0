import Derived.Test.YtodeegjblililaaY1
set_option linter.unusedVariables false
namespace Go.Proofs.Ytodeegjblililaa.RB
open Go Go.RowKit Go.Aw
structure S_impl_RecPhase where
  f0 : ByteArray
  f1 : Int
  f2 : ByteArray
  f3 : ByteArray
  f4 : Int
  f5 : Int
  f6 : ByteArray
  f7 : ByteArray
def z_impl_RecPhase : S_impl_RecPhase := ⟨(⟨#[]⟩ : ByteArray), (0 : Int), (⟨#[]⟩ : ByteArray), (⟨#[]⟩ : ByteArray), (0 : Int), (0 : Int), (⟨#[]⟩ : ByteArray), (⟨#[]⟩ : ByteArray)⟩
def rd_impl_RecPhase (xs : List S_impl_RecPhase) (i : Int) : S_impl_RecPhase := xs.getD i.toNat z_impl_RecPhase
def spec_l41Open.f (l0 : List Int) : Option ((List Int) × Int) := (if (l0.length : Int) > 2000 then (if 2000 ≤ (l0.length : Int) then (some ((l0.take (2000 : Int).toNat), 0)) else none) else (some (l0, 0)))
def spec_l45Names.f : Option (List ByteArray) := (some ([(⟨#[98, 114, 101, 119]⟩ : ByteArray), (⟨#[102, 49]⟩ : ByteArray), (⟨#[102, 50]⟩ : ByteArray), (⟨#[103]⟩ : ByteArray), (⟨#[104]⟩ : ByteArray), (⟨#[109, 97, 115, 104]⟩ : ByteArray), (⟨#[114, 101, 115, 116]⟩ : ByteArray), (⟨#[120, 45, 57]⟩ : ByteArray)] : List ByteArray))
def spec_l41Rd_pick.f (a0_0 : List Int) (a0_1 : Int) (a1 : Int) : Option (Int × (List Int) × Int) := (if a1 < 1 then (some (0, a0_0, wrap64 (a0_1 + 1))) else (if (a0_0.length : Int) = 0 then (some (0, a0_0, wrap64 (a0_1 + 1))) else (if (wrap64 ((wrap64 (a0_1 + 1)) - 1)) < (a0_0.length : Int) then (if 0 ≤ (wrap64 ((wrap64 (a0_1 + 1)) - 1)) then (if a1 ≠ 0 then (some (Int.tmod (wrap64 (rd a0_0 (wrap64 ((wrap64 (a0_1 + 1)) - 1)))) a1, a0_0, wrap64 (a0_1 + 1))) else none) else none) else (if (a0_0.length : Int) ≠ 0 then (if 0 ≤ (Int.tmod (wrap64 ((wrap64 (a0_1 + 1)) - 1)) (a0_0.length : Int)) then (if (Int.tmod (wrap64 ((wrap64 (a0_1 + 1)) - 1)) (a0_0.length : Int)) < (a0_0.length : Int) then (if 0 ≤ (Int.tmod (wrap64 ((wrap64 ((wrap64 ((wrap64 (a0_1 + 1)) - 1)) * 7)) + 3)) (a0_0.length : Int)) then (if (Int.tmod (wrap64 ((wrap64 ((wrap64 ((wrap64 (a0_1 + 1)) - 1)) * 7)) + 3)) (a0_0.length : Int)) < (a0_0.length : Int) then (if a1 ≠ 0 then (some (Int.tmod (xorI .i64 (wrap64 ((wrap64 ((wrap64 ((wrap64 ((wrap64 (rd a0_0 (Int.tmod (wrap64 ((wrap64 (a0_1 + 1)) - 1)) (a0_0.length : Int)))) * 131)) + (wrap64 ((wrap64 (rd a0_0 (Int.tmod (wrap64 ((wrap64 ((wrap64 ((wrap64 (a0_1 + 1)) - 1)) * 7)) + 3)) (a0_0.length : Int)))) * 1117)))) + (wrap64 ((wrap64 ((wrap64 (a0_1 + 1)) - 1)) * 29)))) + (wrap64 ((wrap64 (Int.tdiv (wrap64 ((wrap64 (a0_1 + 1)) - 1)) (a0_0.length : Int))) * 53)))) (wrap64 (Int.tdiv (wrap64 ((wrap64 ((wrap64 ((wrap64 ((wrap64 (rd a0_0 (Int.tmod (wrap64 ((wrap64 (a0_1 + 1)) - 1)) (a0_0.length : Int)))) * 131)) + (wrap64 ((wrap64 (rd a0_0 (Int.tmod (wrap64 ((wrap64 ((wrap64 ((wrap64 (a0_1 + 1)) - 1)) * 7)) + 3)) (a0_0.length : Int)))) * 1117)))) + (wrap64 ((wrap64 ((wrap64 (a0_1 + 1)) - 1)) * 29)))) + (wrap64 ((wrap64 (Int.tdiv (wrap64 ((wrap64 (a0_1 + 1)) - 1)) (a0_0.length : Int))) * 53)))) 64))) a1, a0_0, wrap64 (a0_1 + 1))) else none) else none) else none) else none) else none) else none))))
def spec_l41Rd_of.f (a0_0 : List Int) (a0_1 : Int) (l1 : List ByteArray) : Option (ByteArray × (List Int) × Int) := ((spec_l41Rd_pick.f a0_0 a0_1 (l1.length : Int)).bind fun t32 => (if 0 ≤ t32.1 then (if t32.1 < (l1.length : Int) then (some (rdOf ByteArray.empty l1 t32.1, t32.2.1, t32.2.2)) else none) else none))
def spec_l45Slot.f (a0_0 : List Int) (a0_1 : Int) : Option (ByteArray × (List Int) × Int) := ((spec_l41Rd_of.f a0_0 a0_1 ([(⟨#[115, 49]⟩ : ByteArray), (⟨#[115, 49]⟩ : ByteArray), (⟨#[115, 50]⟩ : ByteArray), (⟨#[115, 51]⟩ : ByteArray), (⟨#[107, 101, 103]⟩ : ByteArray)] : List ByteArray)).bind fun t34 => (some (t34.1, t34.2.1, t34.2.2)))
def spec_l45Phase.j0 : Nat → ByteArray → List ByteArray → Int × (List Int) × Int → ByteArray × (List Int) × Int → Int × (List Int) × Int → List Int → Int → ByteArray → Int → Option (ByteArray × Int × ByteArray × ByteArray × Int × Int × ByteArray × ByteArray × (List Int) × Int)
  | 0, _, _, _, _, _, _, _, _, _ => none
  | k + 1, a1, l2, t59, t60, t61, x1000000, x1000001, x1089003, x1089004 => (if (3 + l2.length) * 16 ≤ 140737488355328 then ((spec_l41Rd_of.f x1000000 x1000001 (([(⟨#[103, 111, 111, 100]⟩ : ByteArray), (⟨#[115, 97, 118, 101, 100]⟩ : ByteArray), (⟨#[115, 99, 114, 97, 112, 112, 101, 100]⟩ : ByteArray)] : List ByteArray) ++ l2)).bind fun t84 => ((spec_l41Rd_of.f t84.2.1 t84.2.2 (([(⟨#[103, 111, 111, 100]⟩ : ByteArray), (⟨#[115, 97, 118, 101, 100]⟩ : ByteArray), (⟨#[115, 99, 114, 97, 112, 112, 101, 100]⟩ : ByteArray)] : List ByteArray) ++ l2)).bind fun t85 => (if (l2.length : Int) > 0 then ((spec_l41Rd_pick.f t85.2.1 t85.2.2 4).bind fun t86 => (if t86.1 > 0 then (if 0 < (l2.length : Int) then (some (a1, wrap64 (1 + t59.1), t60.1, x1089003, x1089004, wrap64 (1 + t61.1), rdOf ByteArray.empty l2 0, t85.1, t86.2.1, t86.2.2)) else none) else (some (a1, wrap64 (1 + t59.1), t60.1, x1089003, x1089004, wrap64 (1 + t61.1), t84.1, t85.1, t86.2.1, t86.2.2)))) else (some (a1, wrap64 (1 + t59.1), t60.1, x1089003, x1089004, wrap64 (1 + t61.1), t84.1, t85.1, t85.2.1, t85.2.2))))) else none)
def spec_l45Phase.f (k : Nat) (a0_0 : List Int) (a0_1 : Int) (a1 : ByteArray) (l2 : List ByteArray) : Option (ByteArray × Int × ByteArray × ByteArray × Int × Int × ByteArray × ByteArray × (List Int) × Int) := ((spec_l41Rd_pick.f a0_0 a0_1 5).bind fun t59 => ((spec_l45Slot.f t59.2.1 t59.2.2).bind fun t60 => ((spec_l41Rd_pick.f t60.2.1 t60.2.2 20).bind fun t61 => (if (wrap64 (1 + t59.1)) = 1 then ((spec_l41Rd_of.f t61.2.1 t61.2.2 ([(⟨#[97, 108, 101]⟩ : ByteArray), (⟨#[109, 97, 108, 116]⟩ : ByteArray)] : List ByteArray)).bind fun t87 => ((spec_l41Rd_pick.f t87.2.1 t87.2.2 30).bind fun t88 => (spec_l45Phase.j0 k a1 l2 t59 t60 t61 t88.2.1 t88.2.2 t87.1 (wrap64 (1 + t88.1))))) else (if (wrap64 (1 + t59.1)) = 2 then ((spec_l45Slot.f t61.2.1 t61.2.2).bind fun t89 => (if t89.1.toList = t60.1.toList then ((spec_l41Rd_pick.f t89.2.1 t89.2.2 30).bind fun t90 => (spec_l45Phase.j0 k a1 l2 t59 t60 t61 t90.2.1 t90.2.2 (⟨#[118, 97, 116]⟩ : ByteArray) (wrap64 (1 + t90.1)))) else ((spec_l41Rd_pick.f t89.2.1 t89.2.2 30).bind fun t91 => (spec_l45Phase.j0 k a1 l2 t59 t60 t61 t91.2.1 t91.2.2 t89.1 (wrap64 (1 + t91.1)))))) else (if (wrap64 (1 + t59.1)) = 3 then ((spec_l41Rd_pick.f t61.2.1 t61.2.2 (wrap64 (1 + t61.1))).bind fun t92 => (spec_l45Phase.j0 k a1 l2 t59 t60 t61 t92.2.1 t92.2.2 (⟨#[]⟩ : ByteArray) (wrap64 (1 + t92.1)))) else (spec_l45Phase.j0 k a1 l2 t59 t60 t61 t61.2.1 t61.2.2 (⟨#[]⟩ : ByteArray) 0)))))))
def spec_l43Dec.f : Nat → Int → Option (ByteArray)
  | 0, _ => none
  | k + 1, a0 => (if a0 < 10 then (some (⟨#[UInt8.ofNat (IntKind.wrap .u8 (wrap64 (48 + a0))).toNat]⟩ : ByteArray)) else ((spec_l43Dec.f k (wrap64 (Int.tdiv a0 10))).bind fun t107 => (if ((t107.size + (⟨#[UInt8.ofNat (IntKind.wrap .u8 (wrap64 (48 + (Int.tmod a0 10)))).toNat]⟩ : ByteArray).size : Nat) : Int) ≤ 9223372036854775807 then (some (t107 ++ (⟨#[UInt8.ofNat (IntKind.wrap .u8 (wrap64 (48 + (Int.tmod a0 10)))).toNat]⟩ : ByteArray))) else none)))
def spec_l45Recipe.l1 : Nat → List S_impl_RecPhase → Int → List Int → Int → Option ((List S_impl_RecPhase) × (List Int) × Int)
  | 0, _, _, _, _ => none
  | k + 1, x5_1, x7, x1000000_1, x1000001_1 => (if (x5_1.length : Int) < 12 then ((spec_l43Dec.f k x7).bind fun t140 => (if (((⟨#[121]⟩ : ByteArray).size + t140.size : Nat) : Int) ≤ 9223372036854775807 then ((spec_l45Phase.f k x1000000_1 x1000001_1 ((⟨#[121]⟩ : ByteArray) ++ t140) ([] : List ByteArray)).bind fun t141 => (if (x5_1.length + 1) * 104 ≤ 140737488355328 then (spec_l45Recipe.l1 k (x5_1 ++ ([(⟨t141.1, t141.2.1, t141.2.2.1, t141.2.2.2.1, t141.2.2.2.2.1, t141.2.2.2.2.2.1, t141.2.2.2.2.2.2.1, t141.2.2.2.2.2.2.2.1⟩ : S_impl_RecPhase)] : List S_impl_RecPhase)) (wrap64 (x7 + 1)) t141.2.2.2.2.2.2.2.2.1 t141.2.2.2.2.2.2.2.2.2) else none)) else none)) else (some (x5_1, x1000000_1, x1000001_1)))
def spec_l45Recipe.l0 : Nat → List S_impl_RecPhase → Int → List ByteArray → Int × (List Int) × Int → List Int → Int → Option ((List S_impl_RecPhase) × (List Int) × Int)
  | 0, _, _, _, _, _, _ => none
  | k + 1, x5, x6, t121, t123, x1000000, x1000001 => (if x6 < (wrap64 (1 + t123.1)) then (if 0 ≤ x6 then (if x6 < (t121.length : Int) then (if 0 ≤ (wrap64 (x6 + 1)) then (if (wrap64 (x6 + 1)) ≤ (wrap64 (1 + t123.1)) then (if (wrap64 (1 + t123.1)) ≤ (t121.length : Int) then ((spec_l45Phase.f k x1000000 x1000001 (rdOf ByteArray.empty t121 x6) ((t121.take (wrap64 (1 + t123.1)).toNat).drop (wrap64 (x6 + 1)).toNat)).bind fun t128 => (if (x5.length + 1) * 104 ≤ 140737488355328 then (spec_l45Recipe.l0 k (x5 ++ ([(⟨t128.1, t128.2.1, t128.2.2.1, t128.2.2.2.1, t128.2.2.2.2.1, t128.2.2.2.2.2.1, t128.2.2.2.2.2.2.1, t128.2.2.2.2.2.2.2.1⟩ : S_impl_RecPhase)] : List S_impl_RecPhase)) (wrap64 (x6 + 1)) t121 t123 t128.2.2.2.2.2.2.2.2.1 t128.2.2.2.2.2.2.2.2.2) else none)) else none) else none) else none) else none) else none) else ((spec_l41Rd_pick.f x1000000 x1000001 20).bind fun t137 => (if t137.1 = 0 then (spec_l45Recipe.l1 k x5 0 t137.2.1 t137.2.2) else (some (x5, t137.2.1, t137.2.2)))))
def spec_l45Recipe.f (k : Nat) (a0_0 : List Int) (a0_1 : Int) : Option ((List S_impl_RecPhase) × (List Int) × Int) := ((spec_l45Names.f).bind fun t121 => ((spec_l41Rd_pick.f a0_0 a0_1 (t121.length : Int)).bind fun t123 => (spec_l45Recipe.l0 k ([] : List S_impl_RecPhase) 0 t121 t123 t123.2.1 t123.2.2)))
def spec_l45SpoilPhase.f (a0_0 : List Int) (a0_1 : Int) (a1_0 : ByteArray) (a1_1 : Int) (a1_2 : ByteArray) (a1_3 : ByteArray) (a1_4 : Int) (a1_5 : Int) (a1_6 : ByteArray) (a1_7 : ByteArray) : Option (ByteArray × Int × ByteArray × ByteArray × Int × Int × ByteArray × ByteArray × (List Int) × Int) := ((spec_l41Rd_pick.f a0_0 a0_1 8).bind fun t211 => (if t211.1 = 0 then ((spec_l41Rd_of.f t211.2.1 t211.2.2 ([(⟨#[]⟩ : ByteArray), (⟨#[65]⟩ : ByteArray), (⟨#[103, 111, 111, 100]⟩ : ByteArray), (⟨#[102, 49]⟩ : ByteArray), (⟨#[110, 105, 110, 101, 45, 98, 121, 116, 101, 115]⟩ : ByteArray)] : List ByteArray)).bind fun t212 => (some (t212.1, a1_1, a1_2, a1_3, a1_4, a1_5, a1_6, a1_7, t212.2.1, t212.2.2))) else (if t211.1 = 1 then ((spec_l41Rd_pick.f t211.2.1 t211.2.2 8).bind fun t213 => (some (a1_0, wrap64 (t213.1 - 1), a1_2, a1_3, a1_4, a1_5, a1_6, a1_7, t213.2.1, t213.2.2))) else (if t211.1 = 2 then ((spec_l41Rd_of.f t211.2.1 t211.2.2 ([(⟨#[]⟩ : ByteArray), (⟨#[65]⟩ : ByteArray), a1_3, (⟨#[103, 111, 111, 100]⟩ : ByteArray)] : List ByteArray)).bind fun t214 => (some (a1_0, a1_1, t214.1, a1_3, a1_4, a1_5, a1_6, a1_7, t214.2.1, t214.2.2))) else (if t211.1 = 3 then ((spec_l41Rd_of.f t211.2.1 t211.2.2 ([(⟨#[]⟩ : ByteArray), (⟨#[65]⟩ : ByteArray), a1_2, (⟨#[103, 111, 111, 100]⟩ : ByteArray)] : List ByteArray)).bind fun t215 => (some (a1_0, a1_1, a1_2, t215.1, a1_4, a1_5, a1_6, a1_7, t215.2.1, t215.2.2))) else (if t211.1 = 4 then ((spec_l41Rd_pick.f t211.2.1 t211.2.2 7).bind fun t216 => (if 0 ≤ t216.1 then (if t216.1 < (7 : Int) then (some (a1_0, a1_1, a1_2, a1_3, rd ([(-1), 0, 1, a1_5, wrap64 (a1_5 + 1), 1000, 1001] : List Int) t216.1, a1_5, a1_6, a1_7, t216.2.1, t216.2.2)) else none) else none)) else (if t211.1 = 5 then ((spec_l41Rd_pick.f t211.2.1 t211.2.2 5).bind fun t217 => (if 0 ≤ t217.1 then (if t217.1 < (5 : Int) then (some (a1_0, a1_1, a1_2, a1_3, a1_4, rd ([(-1), 0, 1, 1000, 1001] : List Int) t217.1, a1_6, a1_7, t217.2.1, t217.2.2)) else none) else none)) else (if t211.1 = 6 then ((spec_l41Rd_of.f t211.2.1 t211.2.2 ([(⟨#[]⟩ : ByteArray), (⟨#[98, 114, 101, 119]⟩ : ByteArray), (⟨#[102, 49]⟩ : ByteArray), (⟨#[114, 101, 115, 116]⟩ : ByteArray), (⟨#[110, 111, 110, 101]⟩ : ByteArray)] : List ByteArray)).bind fun t218 => (some (a1_0, a1_1, a1_2, a1_3, a1_4, a1_5, t218.1, a1_7, t218.2.1, t218.2.2))) else ((spec_l41Rd_of.f t211.2.1 t211.2.2 ([(⟨#[]⟩ : ByteArray), (⟨#[98, 114, 101, 119]⟩ : ByteArray), (⟨#[102, 49]⟩ : ByteArray), (⟨#[114, 101, 115, 116]⟩ : ByteArray), (⟨#[110, 111, 110, 101]⟩ : ByteArray)] : List ByteArray)).bind fun t219 => (some (a1_0, a1_1, a1_2, a1_3, a1_4, a1_5, a1_6, t219.1, t219.2.1, t219.2.2)))))))))))
def spec_l45Spoil.j0 : Nat → List S_impl_RecPhase → List Int → Int → Option ((List S_impl_RecPhase) × (List Int) × Int)
  | 0, _, _, _ => none
  | k + 1, x5, x1000000, x1000001 => (some (x5, x1000000, x1000001))
def spec_l45Spoil.l0 : Nat → List S_impl_RecPhase → Int → Int × (List Int) × Int → List Int → Int → Option ((List S_impl_RecPhase) × (List Int) × Int)
  | 0, _, _, _, _, _ => none
  | k + 1, x5_1, x8, t248, x1000000_1, x1000001_1 => (if (x5_1.length : Int) < (wrap64 (12 + t248.1)) then ((spec_l43Dec.f k x8).bind fun t251 => (if (((⟨#[122]⟩ : ByteArray).size + t251.size : Nat) : Int) ≤ 9223372036854775807 then ((spec_l45Phase.f k x1000000_1 x1000001_1 ((⟨#[122]⟩ : ByteArray) ++ t251) ([] : List ByteArray)).bind fun t252 => (if (x5_1.length + 1) * 104 ≤ 140737488355328 then (spec_l45Spoil.l0 k (x5_1 ++ ([(⟨t252.1, t252.2.1, t252.2.2.1, t252.2.2.2.1, t252.2.2.2.2.1, t252.2.2.2.2.2.1, t252.2.2.2.2.2.2.1, t252.2.2.2.2.2.2.2.1⟩ : S_impl_RecPhase)] : List S_impl_RecPhase)) (wrap64 (x8 + 1)) t248 t252.2.2.2.2.2.2.2.2.1 t252.2.2.2.2.2.2.2.2.2) else none)) else none)) else (spec_l45Spoil.j0 k x5_1 x1000000_1 x1000001_1))
def spec_l45Spoil.f (k : Nat) (a0_0 : List Int) (a0_1 : Int) (l1 : List S_impl_RecPhase) : Option ((List S_impl_RecPhase) × (List Int) × Int) := (if (0 + l1.length) * 104 ≤ 140737488355328 then ((spec_l41Rd_pick.f a0_0 a0_1 (0 + l1.length : Int)).bind fun t228 => ((spec_l41Rd_pick.f t228.2.1 t228.2.2 6).bind fun t247 => (if t247.1 = 0 then (if 0 ≤ t228.1 then (if t228.1 < (0 + l1.length : Int) then (if (0 + l1.length + 1) * 104 ≤ 140737488355328 then (spec_l45Spoil.j0 k ((([] : List S_impl_RecPhase) ++ l1) ++ ([(⟨(rd_impl_RecPhase (([] : List S_impl_RecPhase) ++ l1) t228.1).f0, (rd_impl_RecPhase (([] : List S_impl_RecPhase) ++ l1) t228.1).f1, (rd_impl_RecPhase (([] : List S_impl_RecPhase) ++ l1) t228.1).f2, (rd_impl_RecPhase (([] : List S_impl_RecPhase) ++ l1) t228.1).f3, (rd_impl_RecPhase (([] : List S_impl_RecPhase) ++ l1) t228.1).f4, (rd_impl_RecPhase (([] : List S_impl_RecPhase) ++ l1) t228.1).f5, (rd_impl_RecPhase (([] : List S_impl_RecPhase) ++ l1) t228.1).f6, (rd_impl_RecPhase (([] : List S_impl_RecPhase) ++ l1) t228.1).f7⟩ : S_impl_RecPhase)] : List S_impl_RecPhase)) t247.2.1 t247.2.2) else none) else none) else none) else (if t247.1 = 1 then (if 0 ≤ t228.1 then (if t228.1 < (0 + l1.length : Int) then (if 0 < (0 + l1.length : Int) then (spec_l45Spoil.j0 k ((([] : List S_impl_RecPhase) ++ l1).set (0 : Int).toNat (⟨(rd_impl_RecPhase (([] : List S_impl_RecPhase) ++ l1) t228.1).f0, (rd_impl_RecPhase (([] : List S_impl_RecPhase) ++ l1) t228.1).f1, (rd_impl_RecPhase (([] : List S_impl_RecPhase) ++ l1) t228.1).f2, (rd_impl_RecPhase (([] : List S_impl_RecPhase) ++ l1) t228.1).f3, (rd_impl_RecPhase (([] : List S_impl_RecPhase) ++ l1) t228.1).f4, (rd_impl_RecPhase (([] : List S_impl_RecPhase) ++ l1) t228.1).f5, (rd_impl_RecPhase (([] : List S_impl_RecPhase) ++ l1) t228.1).f6, (rd_impl_RecPhase (([] : List S_impl_RecPhase) ++ l1) t228.1).f7⟩ : S_impl_RecPhase)) t247.2.1 t247.2.2) else none) else none) else none) else (if t247.1 = 2 then ((spec_l41Rd_pick.f t247.2.1 t247.2.2 2).bind fun t248 => (spec_l45Spoil.l0 k (([] : List S_impl_RecPhase) ++ l1) 0 t248 t248.2.1 t248.2.2)) else (if 0 ≤ t228.1 then (if t228.1 < (0 + l1.length : Int) then ((spec_l45SpoilPhase.f t247.2.1 t247.2.2 ((rd_impl_RecPhase (([] : List S_impl_RecPhase) ++ l1) t228.1).f0) ((rd_impl_RecPhase (([] : List S_impl_RecPhase) ++ l1) t228.1).f1) ((rd_impl_RecPhase (([] : List S_impl_RecPhase) ++ l1) t228.1).f2) ((rd_impl_RecPhase (([] : List S_impl_RecPhase) ++ l1) t228.1).f3) ((rd_impl_RecPhase (([] : List S_impl_RecPhase) ++ l1) t228.1).f4) ((rd_impl_RecPhase (([] : List S_impl_RecPhase) ++ l1) t228.1).f5) ((rd_impl_RecPhase (([] : List S_impl_RecPhase) ++ l1) t228.1).f6) ((rd_impl_RecPhase (([] : List S_impl_RecPhase) ++ l1) t228.1).f7)).bind fun t253 => (spec_l45Spoil.j0 k ((([] : List S_impl_RecPhase) ++ l1).set (t228.1).toNat (⟨t253.1, t253.2.1, t253.2.2.1, t253.2.2.2.1, t253.2.2.2.2.1, t253.2.2.2.2.2.1, t253.2.2.2.2.2.2.1, t253.2.2.2.2.2.2.2.1⟩ : S_impl_RecPhase)) t253.2.2.2.2.2.2.2.2.1 t253.2.2.2.2.2.2.2.2.2)) else none) else none)))))) else none)
def spec_l45Any.f (k : Nat) (a0_0 : List Int) (a0_1 : Int) : Option ((List S_impl_RecPhase) × (List Int) × Int) := ((spec_l45Recipe.f k a0_0 a0_1).bind fun t255 => ((spec_l41Rd_pick.f t255.2.1 t255.2.2 24).bind fun t260 => (if t260.1 = 0 then ((spec_l45Spoil.f k t260.2.1 t260.2.2 t255.1).bind fun t261 => (some (t261.1, t261.2.1, t261.2.2))) else (if t260.1 = 1 then (some (([] : List S_impl_RecPhase), t260.2.1, t260.2.2)) else (some (t255.1, t260.2.1, t260.2.2))))))
def spec_l45From.f (a0_0 : List Int) (a0_1 : Int) (l1 : List S_impl_RecPhase) : Option (ByteArray × (List Int) × Int) := (if (l1.length : Int) > 0 then ((spec_l41Rd_pick.f a0_0 a0_1 8).bind fun t278 => (if t278.1 > 0 then ((spec_l41Rd_pick.f t278.2.1 t278.2.2 (l1.length : Int)).bind fun t279 => (if 0 ≤ t279.1 then (if t279.1 < (l1.length : Int) then (some ((rd_impl_RecPhase l1 t279.1).f0, t279.2.1, t279.2.2)) else none) else none)) else ((spec_l41Rd_of.f t278.2.1 t278.2.2 ([(⟨#[103, 111, 111, 100]⟩ : ByteArray), (⟨#[115, 99, 114, 97, 112, 112, 101, 100]⟩ : ByteArray), (⟨#[110, 111, 110, 101]⟩ : ByteArray), (⟨#[]⟩ : ByteArray)] : List ByteArray)).bind fun t280 => (some (t280.1, t280.2.1, t280.2.2))))) else ((spec_l41Rd_of.f a0_0 a0_1 ([(⟨#[103, 111, 111, 100]⟩ : ByteArray), (⟨#[115, 99, 114, 97, 112, 112, 101, 100]⟩ : ByteArray), (⟨#[110, 111, 110, 101]⟩ : ByteArray), (⟨#[]⟩ : ByteArray)] : List ByteArray)).bind fun t281 => (some (t281.1, t281.2.1, t281.2.2))))
def spec_DrawRecSlots.f (k : Nat) (l0 : List Int) : Option ((List S_impl_RecPhase) × ByteArray) := ((spec_l41Open.f l0).bind fun t283 => ((spec_l45Any.f k t283.1 t283.2).bind fun t285 => ((spec_l45From.f t285.2.1 t285.2.2 t285.1).bind fun t287 => (some (t285.1, t287.1)))))
def spec_DrawRecBound.f (k : Nat) (l0 : List Int) : Option ((List S_impl_RecPhase) × ByteArray) := ((spec_DrawRecSlots.f k l0).bind fun t289 => (some (t289.1, t289.2)))
def impl_isName.l0 : Nat → ByteArray → Int → Option (Bool)
  | 0, _, _ => none
  | k + 1, a0, x7 => (if x7 < (a0.size : Int) then (if 0 ≤ x7 then (if (bt a0 x7) < 97 then (if (bt a0 x7) < 48 then (if (bt a0 x7) = 45 then (impl_isName.l0 k a0 (wrap64 (x7 + 1))) else (some false)) else (if (bt a0 x7) > 57 then (if (bt a0 x7) = 45 then (impl_isName.l0 k a0 (wrap64 (x7 + 1))) else (some false)) else (impl_isName.l0 k a0 (wrap64 (x7 + 1))))) else (if (bt a0 x7) > 122 then (if (bt a0 x7) < 48 then (if (bt a0 x7) = 45 then (impl_isName.l0 k a0 (wrap64 (x7 + 1))) else (some false)) else (if (bt a0 x7) > 57 then (if (bt a0 x7) = 45 then (impl_isName.l0 k a0 (wrap64 (x7 + 1))) else (some false)) else (impl_isName.l0 k a0 (wrap64 (x7 + 1))))) else (impl_isName.l0 k a0 (wrap64 (x7 + 1))))) else none) else (if (a0.size : Int) ≥ 1 then (some (decide ((a0.size : Int) ≤ 8))) else (some false)))
def impl_isName.f (k : Nat) (a0 : ByteArray) : Option (Bool) := (impl_isName.l0 k a0 0)
def impl_RecEnd.f (a0 : ByteArray) : Option (Int) := (if a0.toList = (⟨#[103, 111, 111, 100]⟩ : ByteArray).toList then (some 1) else (if a0.toList = (⟨#[115, 97, 118, 101, 100]⟩ : ByteArray).toList then (some 2) else (if a0.toList = (⟨#[115, 99, 114, 97, 112, 112, 101, 100]⟩ : ByteArray).toList then (some 3) else (some 0))))
def impl_RecPhaseOk.j0 : Nat → ByteArray → Int → Int → Bool → Option (Bool)
  | 0, _, _, _, _ => none
  | k + 1, a0_3, a0_4, x3, x4 => (if x4 = true then ((impl_isName.f k a0_3).bind fun t320 => (if t320 = true then (if a0_4 ≤ x3 then (if a0_4 ≥ 1 then (some true) else (if x3 = 0 then (some (decide (a0_4 = 0))) else (some false))) else (some false)) else (some false))) else (if a0_3.toList = (⟨#[]⟩ : ByteArray).toList then (if a0_4 ≤ x3 then (if a0_4 ≥ 1 then (some true) else (if x3 = 0 then (some (decide (a0_4 = 0))) else (some false))) else (some false)) else (some false)))
def impl_RecPhaseOk.f (k : Nat) (a0_0 : ByteArray) (a0_1 : Int) (a0_2 : ByteArray) (a0_3 : ByteArray) (a0_4 : Int) (a0_5 : Int) (a0_6 : ByteArray) (a0_7 : ByteArray) : Option (Bool) := ((impl_isName.f k a0_0).bind fun t311 => (if t311 = true then ((impl_RecEnd.f a0_0).bind fun t312 => (if t312 = 0 then (if a0_5 < 1 then (some false) else (if a0_5 > 1000 then (some false) else ((impl_isName.f k a0_2).bind fun t313 => (if t313 = true then ((impl_isName.f k a0_6).bind fun t314 => (if t314 = true then ((impl_isName.f k a0_7).bind fun t315 => (if t315 = true then (if a0_1 = 1 then (impl_RecPhaseOk.j0 k a0_3 a0_4 1000 true) else (if a0_1 = 2 then (if a0_2.toList = a0_3.toList then (some false) else (impl_RecPhaseOk.j0 k a0_3 a0_4 1000 true)) else (if a0_1 = 3 then (impl_RecPhaseOk.j0 k a0_3 a0_4 a0_5 false) else (if a0_1 = 4 then (impl_RecPhaseOk.j0 k a0_3 a0_4 0 false) else (if a0_1 = 5 then (impl_RecPhaseOk.j0 k a0_3 a0_4 0 false) else (some false)))))) else (some false))) else (some false))) else (some false))))) else (some false))) else (some false)))
def impl_phase.l0 : Nat → List S_impl_RecPhase → ByteArray → Int → Option (Int)
  | 0, _, _, _ => none
  | k + 1, l0, a1, x9 => (if x9 < (l0.length : Int) then (if 0 ≤ x9 then (if ((rd_impl_RecPhase l0 x9).f0).toList = a1.toList then (some x9) else (impl_phase.l0 k l0 a1 (wrap64 (x9 + 1)))) else none) else (some (-1)))
def impl_phase.f (k : Nat) (l0 : List S_impl_RecPhase) (a1 : ByteArray) : Option (Int) := (impl_phase.l0 k l0 a1 0)
mutual
def impl_RecOk.l2 : Nat → List S_impl_RecPhase → Int → List ByteArray → Int → Option (Bool)
  | 0, _, _, _, _ => none
  | k + 1, l0, x38, x47, x49 => (if x49 < 2 then (if 0 ≤ x49 then (if x49 < (x47.length : Int) then ((impl_RecEnd.f (rdOf ByteArray.empty x47 x49)).bind fun t352 => (if t352 = 0 then ((impl_phase.f k l0 (rdOf ByteArray.empty x47 x49)).bind fun t353 => (if t353 ≤ x38 then (some false) else (impl_RecOk.l2 k l0 x38 x47 (wrap64 (x49 + 1))))) else (impl_RecOk.l2 k l0 x38 x47 (wrap64 (x49 + 1))))) else none) else none) else (impl_RecOk.l1 k l0 (wrap64 (x38 + 1))))
def impl_RecOk.l1 : Nat → List S_impl_RecPhase → Int → Option (Bool)
  | 0, _, _ => none
  | k + 1, l0, x38 => (if x38 < (l0.length : Int) then (if 0 ≤ x38 then (impl_RecOk.l2 k l0 x38 ([(rd_impl_RecPhase l0 x38).f6, (rd_impl_RecPhase l0 x38).f7] : List ByteArray) 0) else none) else (some true))
end
def impl_RecOk.l0 : Nat → List S_impl_RecPhase → Int → Option (Bool)
  | 0, _, _ => none
  | k + 1, l0, x19 => (if x19 < (l0.length : Int) then (if 0 ≤ x19 then ((impl_RecPhaseOk.f k ((rd_impl_RecPhase l0 x19).f0) ((rd_impl_RecPhase l0 x19).f1) ((rd_impl_RecPhase l0 x19).f2) ((rd_impl_RecPhase l0 x19).f3) ((rd_impl_RecPhase l0 x19).f4) ((rd_impl_RecPhase l0 x19).f5) ((rd_impl_RecPhase l0 x19).f6) ((rd_impl_RecPhase l0 x19).f7)).bind fun t330 => (if t330 = true then ((impl_phase.f k l0 ((rd_impl_RecPhase l0 x19).f0)).bind fun t331 => (if t331 = x19 then (impl_RecOk.l0 k l0 (wrap64 (x19 + 1))) else (some false))) else (some false))) else none) else (impl_RecOk.l1 k l0 0))
def impl_RecOk.f (k : Nat) (l0 : List S_impl_RecPhase) : Option (Bool) := (if (l0.length : Int) < 1 then (some false) else (if (l0.length : Int) > 12 then (some false) else (impl_RecOk.l0 k l0 0)))
def impl_bound.f : Nat → List S_impl_RecPhase → ByteArray → Option (Int)
  | 0, _, _ => none
  | k + 1, l0, a1 => ((impl_phase.f k l0 a1).bind fun t360 => (if t360 < 0 then (some 0) else (if 0 ≤ t360 then (if t360 < (l0.length : Int) then ((impl_bound.f k l0 ((rd_impl_RecPhase l0 t360).f6)).bind fun t363 => ((impl_bound.f k l0 ((rd_impl_RecPhase l0 t360).f7)).bind fun t364 => (some (wrap64 (((rd_impl_RecPhase l0 t360).f5) + (mx t363 t364)))))) else none) else none)))
def impl_RecBound.f (k : Nat) (l0 : List S_impl_RecPhase) (a1 : ByteArray) : Option (Int) := ((impl_RecOk.f k l0).bind fun t367 => (if t367 = true then ((impl_bound.f k l0 a1).bind fun t369 => (some t369)) else (some 0)))
def slices_Index_string_string.l0 : Nat → List ByteArray → ByteArray → Int → Option (Int)
  | 0, _, _, _ => none
  | k + 1, l0, a1, x8 => (if x8 < (l0.length : Int) then (if 0 ≤ x8 then (if a1.toList = (rdOf ByteArray.empty l0 x8).toList then (some x8) else (slices_Index_string_string.l0 k l0 a1 (wrap64 (x8 + 1)))) else none) else (some (-1)))
def slices_Index_string_string.f (k : Nat) (l0 : List ByteArray) (a1 : ByteArray) : Option (Int) := (slices_Index_string_string.l0 k l0 a1 0)
def slices_Contains_string_string.f (k : Nat) (l0 : List ByteArray) (a1 : ByteArray) : Option (Bool) := ((slices_Index_string_string.f k l0 a1).bind fun t427 => (some (decide (t427 ≥ 0))))
def impl_has.f (k : Nat) (l0 : List ByteArray) (a1 : ByteArray) : Option (Bool) := ((slices_Contains_string_string.f k l0 a1).bind fun t429 => (some t429))
def sort_Strings.f (l0 : List ByteArray) : Option (List ByteArray) := sortSf l0
def impl_with.l0 : Nat → List ByteArray → List ByteArray → List ByteArray → Int → Option (List ByteArray)
  | 0, _, _, _, _ => none
  | k + 1, l0, l1, x5, x12 => (if x12 < (l1.length : Int) then (if 0 ≤ x12 then ((impl_has.f k x5 (rdOf ByteArray.empty l1 x12)).bind fun t433 => (if t433 = true then (impl_with.l0 k l0 l1 x5 (wrap64 (x12 + 1))) else (if (x5.length + 1) * 16 ≤ 140737488355328 then (impl_with.l0 k l0 l1 (x5 ++ ([rdOf ByteArray.empty l1 x12] : List ByteArray)) (wrap64 (x12 + 1))) else none))) else none) else ((sort_Strings.f x5).bind fun t435 => (some t435)))
def impl_with.f (k : Nat) (l0 : List ByteArray) (l1 : List ByteArray) : Option (List ByteArray) := (if l0.length * 16 ≤ 140737488355328 then (impl_with.l0 k l0 l1 l0 0) else none)
def impl_RecPhase_slots.f (k : Nat) (a0_0 : ByteArray) (a0_1 : Int) (a0_2 : ByteArray) (a0_3 : ByteArray) (a0_4 : Int) (a0_5 : Int) (a0_6 : ByteArray) (a0_7 : ByteArray) : Option (List ByteArray) := (if a0_1 = 2 then ((impl_with.f k [] ([a0_2, a0_3] : List ByteArray)).bind fun t463 => (some t463)) else (some ([a0_2] : List ByteArray)))
def impl_slotsOf.f : Nat → List S_impl_RecPhase → ByteArray → Option (List ByteArray)
  | 0, _, _ => none
  | k + 1, l0, a1 => ((impl_phase.f k l0 a1).bind fun t465 => (if t465 < 0 then (some []) else (if 0 ≤ t465 then (if t465 < (l0.length : Int) then ((impl_RecPhase_slots.f k ((rd_impl_RecPhase l0 t465).f0) ((rd_impl_RecPhase l0 t465).f1) ((rd_impl_RecPhase l0 t465).f2) ((rd_impl_RecPhase l0 t465).f3) ((rd_impl_RecPhase l0 t465).f4) ((rd_impl_RecPhase l0 t465).f5) ((rd_impl_RecPhase l0 t465).f6) ((rd_impl_RecPhase l0 t465).f7)).bind fun t469 => ((impl_slotsOf.f k l0 ((rd_impl_RecPhase l0 t465).f6)).bind fun t470 => ((impl_with.f k t469 t470).bind fun t471 => ((impl_slotsOf.f k l0 ((rd_impl_RecPhase l0 t465).f7)).bind fun t474 => ((impl_with.f k t471 t474).bind fun t475 => (some t475)))))) else none) else none)))
def impl_RecSlots.f (k : Nat) (l0 : List S_impl_RecPhase) (a1 : ByteArray) : Option (List ByteArray) := ((impl_RecOk.f k l0).bind fun t478 => (if t478 = true then ((impl_slotsOf.f k l0 a1).bind fun t480 => (some t480)) else (some [])))
def spec_l41In.f (a0 : Int) (a1 : Int) (a2 : Int) : Option (Bool) := (if a0 ≥ a1 then (some (decide (a0 ≤ a2))) else (some false))
def spec_l41NameOk.l0 : Nat → ByteArray → Int → Option (Bool)
  | 0, _, _ => none
  | k + 1, a0, x3 => (if x3 < (a0.size : Int) then (if 0 ≤ x3 then (if (bt a0 x3) ≥ 97 then (if (bt a0 x3) ≤ 122 then (spec_l41NameOk.l0 k a0 (wrap64 (x3 + 1))) else (if (bt a0 x3) ≥ 48 then (if (bt a0 x3) ≤ 57 then (spec_l41NameOk.l0 k a0 (wrap64 (x3 + 1))) else (if (bt a0 x3) = 45 then (spec_l41NameOk.l0 k a0 (wrap64 (x3 + 1))) else (some false))) else (if (bt a0 x3) = 45 then (spec_l41NameOk.l0 k a0 (wrap64 (x3 + 1))) else (some false)))) else (if (bt a0 x3) ≥ 48 then (if (bt a0 x3) ≤ 57 then (spec_l41NameOk.l0 k a0 (wrap64 (x3 + 1))) else (if (bt a0 x3) = 45 then (spec_l41NameOk.l0 k a0 (wrap64 (x3 + 1))) else (some false))) else (if (bt a0 x3) = 45 then (spec_l41NameOk.l0 k a0 (wrap64 (x3 + 1))) else (some false)))) else none) else (some true))
def spec_l41NameOk.f (k : Nat) (a0 : ByteArray) : Option (Bool) := ((spec_l41In.f (a0.size : Int) 1 8).bind fun t528 => (if t528 = true then (spec_l41NameOk.l0 k a0 0) else (some false)))
def spec_RecEnd.f (a0 : ByteArray) : Option (Int) := (if a0.toList = (⟨#[103, 111, 111, 100]⟩ : ByteArray).toList then (some 1) else (if a0.toList = (⟨#[115, 97, 118, 101, 100]⟩ : ByteArray).toList then (some 2) else (if a0.toList = (⟨#[115, 99, 114, 97, 112, 112, 101, 100]⟩ : ByteArray).toList then (some 3) else (some 0))))
def spec_l41PlainOk.f (k : Nat) (a0 : ByteArray) : Option (Bool) := ((spec_l41NameOk.f k a0).bind fun t541 => (if t541 = true then ((spec_RecEnd.f a0).bind fun t542 => (some (decide (t542 = 0)))) else (some false)))
def spec_l41ArgsOk.f (k : Nat) (a0_0 : ByteArray) (a0_1 : Int) (a0_2 : ByteArray) (a0_3 : ByteArray) (a0_4 : Int) (a0_5 : Int) (a0_6 : ByteArray) (a0_7 : ByteArray) : Option (Bool) := (if a0_1 = 1 then ((spec_l41NameOk.f k a0_2).bind fun t574 => (if t574 = true then ((spec_l41NameOk.f k a0_3).bind fun t575 => (if t575 = true then ((spec_l41In.f a0_4 1 1000).bind fun t576 => (some t576)) else (some false))) else (some false))) else (if a0_1 = 2 then ((spec_l41NameOk.f k a0_2).bind fun t577 => (if t577 = true then ((spec_l41NameOk.f k a0_3).bind fun t578 => (if t578 = true then (if a0_2.toList = a0_3.toList then (some false) else ((spec_l41In.f a0_4 1 1000).bind fun t579 => (some t579))) else (some false))) else (some false))) else (if a0_1 = 3 then ((spec_l41NameOk.f k a0_2).bind fun t580 => (if t580 = true then (if a0_3.toList = (⟨#[]⟩ : ByteArray).toList then ((spec_l41In.f a0_4 1 a0_5).bind fun t581 => (some t581)) else (some false)) else (some false))) else (if a0_1 = 4 then ((spec_l41NameOk.f k a0_2).bind fun t582 => (if t582 = true then (if a0_3.toList = (⟨#[]⟩ : ByteArray).toList then (some (decide (a0_4 = 0))) else (some false)) else (some false))) else (if a0_1 = 5 then ((spec_l41NameOk.f k a0_2).bind fun t583 => (if t583 = true then (if a0_3.toList = (⟨#[]⟩ : ByteArray).toList then (some (decide (a0_4 = 0))) else (some false)) else (some false))) else (some false))))))
def spec_RecPhaseOk.f (k : Nat) (a0_0 : ByteArray) (a0_1 : Int) (a0_2 : ByteArray) (a0_3 : ByteArray) (a0_4 : Int) (a0_5 : Int) (a0_6 : ByteArray) (a0_7 : ByteArray) : Option (Bool) := ((spec_l41PlainOk.f k a0_0).bind fun t589 => (if t589 = true then ((spec_l41In.f a0_5 1 1000).bind fun t590 => (if t590 = true then ((spec_l41ArgsOk.f k a0_0 a0_1 a0_2 a0_3 a0_4 a0_5 a0_6 a0_7).bind fun t591 => (if t591 = true then ((spec_l41NameOk.f k a0_6).bind fun t592 => (if t592 = true then ((spec_l41NameOk.f k a0_7).bind fun t593 => (some t593)) else (some false))) else (some false))) else (some false))) else (some false)))
def spec_l42At.l0 : Nat → List S_impl_RecPhase → ByteArray → Int → Option (Int)
  | 0, _, _, _ => none
  | k + 1, l0, a1, x5 => (if x5 < (l0.length : Int) then (if 0 ≤ x5 then (if ((rd_impl_RecPhase l0 x5).f0).toList = a1.toList then (some x5) else (spec_l42At.l0 k l0 a1 (wrap64 (x5 + 1)))) else none) else (some (-1)))
def spec_l42At.f (k : Nat) (l0 : List S_impl_RecPhase) (a1 : ByteArray) : Option (Int) := (spec_l42At.l0 k l0 a1 0)
def spec_RecOk.l0 : Nat → List S_impl_RecPhase → Int → Option (Bool)
  | 0, _, _ => none
  | k + 1, l0, x3 => (if x3 < (l0.length : Int) then (if 0 ≤ x3 then ((spec_RecPhaseOk.f k ((rd_impl_RecPhase l0 x3).f0) ((rd_impl_RecPhase l0 x3).f1) ((rd_impl_RecPhase l0 x3).f2) ((rd_impl_RecPhase l0 x3).f3) ((rd_impl_RecPhase l0 x3).f4) ((rd_impl_RecPhase l0 x3).f5) ((rd_impl_RecPhase l0 x3).f6) ((rd_impl_RecPhase l0 x3).f7)).bind fun t639 => (if t639 = true then ((spec_l42At.f k l0 ((rd_impl_RecPhase l0 x3).f0)).bind fun t640 => (if t640 = x3 then ((spec_RecEnd.f ((rd_impl_RecPhase l0 x3).f6)).bind fun t641 => (if t641 = 0 then ((spec_l42At.f k l0 ((rd_impl_RecPhase l0 x3).f6)).bind fun t642 => (if t642 ≤ x3 then (some false) else ((spec_RecEnd.f ((rd_impl_RecPhase l0 x3).f7)).bind fun t643 => (if t643 = 0 then ((spec_l42At.f k l0 ((rd_impl_RecPhase l0 x3).f7)).bind fun t644 => (if t644 ≤ x3 then (some false) else (spec_RecOk.l0 k l0 (wrap64 (x3 + 1))))) else (spec_RecOk.l0 k l0 (wrap64 (x3 + 1))))))) else ((spec_RecEnd.f ((rd_impl_RecPhase l0 x3).f7)).bind fun t645 => (if t645 = 0 then ((spec_l42At.f k l0 ((rd_impl_RecPhase l0 x3).f7)).bind fun t646 => (if t646 ≤ x3 then (some false) else (spec_RecOk.l0 k l0 (wrap64 (x3 + 1))))) else (spec_RecOk.l0 k l0 (wrap64 (x3 + 1))))))) else (some false))) else (some false))) else none) else (some true))
def spec_RecOk.f (k : Nat) (l0 : List S_impl_RecPhase) : Option (Bool) := ((spec_l41In.f (l0.length : Int) 1 12).bind fun t606 => (if t606 = true then (spec_RecOk.l0 k l0 0) else (some false)))
def spec_l42Bound.f : Nat → List S_impl_RecPhase → ByteArray → Option (Int)
  | 0, _, _ => none
  | k + 1, l0, a1 => ((spec_l42At.f k l0 a1).bind fun t657 => (if t657 < 0 then (some 0) else (if 0 ≤ t657 then (if t657 < (l0.length : Int) then ((spec_l42Bound.f k l0 ((rd_impl_RecPhase l0 t657).f6)).bind fun t659 => ((spec_l42Bound.f k l0 ((rd_impl_RecPhase l0 t657).f7)).bind fun t661 => (if t659 < t661 then (some (wrap64 (t661 + ((rd_impl_RecPhase l0 t657).f5)))) else (some (wrap64 (t659 + ((rd_impl_RecPhase l0 t657).f5))))))) else none) else none)))
def spec_RecBound.f (k : Nat) (l0 : List S_impl_RecPhase) (a1 : ByteArray) : Option (Int) := ((spec_RecOk.f k l0).bind fun t664 => (if t664 = true then ((spec_l42Bound.f k l0 a1).bind fun t666 => (some t666)) else (some 0)))
def spec_l42Insert.l0 : Nat → List ByteArray → ByteArray → Int → Option (List ByteArray)
  | 0, _, _, _ => none
  | k + 1, l0, a1, x5 => (if x5 < (l0.length : Int) then (if 0 ≤ x5 then (if (Op.bytesLess (rdOf ByteArray.empty l0 x5).toList a1.toList) = true then (spec_l42Insert.l0 k l0 a1 (wrap64 (x5 + 1))) else (if (rdOf ByteArray.empty l0 x5).toList = a1.toList then (some l0) else (if x5 ≤ (l0.length : Int) then (if (0 + (x5).toNat) * 16 ≤ 140737488355328 then (if (0 + (x5).toNat + 1) * 16 ≤ 140737488355328 then (if (0 + (x5).toNat + 1 + (l0.length - (x5).toNat)) * 16 ≤ 140737488355328 then (some (((([] : List ByteArray) ++ (l0.take (x5).toNat)) ++ ([a1] : List ByteArray)) ++ (l0.drop (x5).toNat))) else none) else none) else none) else none))) else none) else (if 0 ≤ x5 then (if x5 ≤ (l0.length : Int) then (if (0 + (x5).toNat) * 16 ≤ 140737488355328 then (if (0 + (x5).toNat + 1) * 16 ≤ 140737488355328 then (if (0 + (x5).toNat + 1 + (l0.length - (x5).toNat)) * 16 ≤ 140737488355328 then (some (((([] : List ByteArray) ++ (l0.take (x5).toNat)) ++ ([a1] : List ByteArray)) ++ (l0.drop (x5).toNat))) else none) else none) else none) else none) else none))
def spec_l42Insert.f (k : Nat) (l0 : List ByteArray) (a1 : ByteArray) : Option (List ByteArray) := (spec_l42Insert.l0 k l0 a1 0)
def spec_l42Of.f (k : Nat) (a0_0 : ByteArray) (a0_1 : Int) (a0_2 : ByteArray) (a0_3 : ByteArray) (a0_4 : Int) (a0_5 : Int) (a0_6 : ByteArray) (a0_7 : ByteArray) : Option (List ByteArray) := (if a0_1 = 2 then ((spec_l42Insert.f k ([a0_2] : List ByteArray) a0_3).bind fun t736 => (some t736)) else (some ([a0_2] : List ByteArray)))
def spec_l42Both.l0 : Nat → List ByteArray → List ByteArray → List ByteArray → Int → Option (List ByteArray)
  | 0, _, _, _, _ => none
  | k + 1, l0, l1, x0, x5 => (if x5 < (l1.length : Int) then (if 0 ≤ x5 then ((spec_l42Insert.f k x0 (rdOf ByteArray.empty l1 x5)).bind fun t753 => (spec_l42Both.l0 k l0 l1 t753 (wrap64 (x5 + 1)))) else none) else (some x0))
def spec_l42Both.f (k : Nat) (l0 : List ByteArray) (l1 : List ByteArray) : Option (List ByteArray) := (spec_l42Both.l0 k l0 l1 l0 0)
def spec_l42Slots.f : Nat → List S_impl_RecPhase → ByteArray → Option (List ByteArray)
  | 0, _, _ => none
  | k + 1, l0, a1 => ((spec_l42At.f k l0 a1).bind fun t755 => (if t755 < 0 then (some ([] : List ByteArray)) else (if 0 ≤ t755 then (if t755 < (l0.length : Int) then ((spec_l42Of.f k ((rd_impl_RecPhase l0 t755).f0) ((rd_impl_RecPhase l0 t755).f1) ((rd_impl_RecPhase l0 t755).f2) ((rd_impl_RecPhase l0 t755).f3) ((rd_impl_RecPhase l0 t755).f4) ((rd_impl_RecPhase l0 t755).f5) ((rd_impl_RecPhase l0 t755).f6) ((rd_impl_RecPhase l0 t755).f7)).bind fun t761 => ((spec_l42Slots.f k l0 ((rd_impl_RecPhase l0 t755).f6)).bind fun t762 => ((spec_l42Both.f k t761 t762).bind fun t763 => ((spec_l42Slots.f k l0 ((rd_impl_RecPhase l0 t755).f7)).bind fun t764 => ((spec_l42Both.f k t763 t764).bind fun t765 => (some t765)))))) else none) else none)))
def spec_RecSlots.f (k : Nat) (l0 : List S_impl_RecPhase) (a1 : ByteArray) : Option (List ByteArray) := ((spec_RecOk.f k l0).bind fun t768 => (if t768 = true then ((spec_l42Slots.f k l0 a1).bind fun t770 => (some t770)) else (some ([] : List ByteArray))))
def laws_wrTexts.l0 : Nat → List ByteArray → List ByteArray → Int → Option (Bool)
  | 0, _, _, _ => none
  | k + 1, l0, l1, x5 => (if x5 < (l0.length : Int) then (if 0 ≤ x5 then (if x5 < (l1.length : Int) then (if (rdOf ByteArray.empty l0 x5).toList = (rdOf ByteArray.empty l1 x5).toList then (laws_wrTexts.l0 k l0 l1 (wrap64 (x5 + 1))) else (some false)) else none) else none) else (some true))
def laws_wrTexts.f (k : Nat) (l0 : List ByteArray) (l1 : List ByteArray) : Option (Bool) := (if (l0.length : Int) = (l1.length : Int) then (laws_wrTexts.l0 k l0 l1 0) else (some false))
mutual
def laws_wrReach.l0 : Nat → List S_impl_RecPhase → ByteArray → ByteArray → Int → Option (Bool)
  | 0, _, _, _, _ => none
  | k + 1, l0, a1, a2, x7 => (if x7 < (l0.length : Int) then (if 0 ≤ x7 then (if ((rd_impl_RecPhase l0 x7).f0).toList = a1.toList then ((laws_wrReach.f k l0 ((rd_impl_RecPhase l0 x7).f6) a2).bind fun t817 => (if t817 = true then (some true) else ((laws_wrReach.f k l0 ((rd_impl_RecPhase l0 x7).f7) a2).bind fun t818 => (some t818)))) else (laws_wrReach.l0 k l0 a1 a2 (wrap64 (x7 + 1)))) else none) else (some false))
def laws_wrReach.f : Nat → List S_impl_RecPhase → ByteArray → ByteArray → Option (Bool)
  | 0, _, _, _ => none
  | k + 1, l0, a1, a2 => (if a1.toList = a2.toList then (some true) else (laws_wrReach.l0 k l0 a1 a2 0))
end
def laws_wrHas.l0 : Nat → List ByteArray → ByteArray → Int → Option (Bool)
  | 0, _, _, _ => none
  | k + 1, l0, a1, x5 => (if x5 < (l0.length : Int) then (if 0 ≤ x5 then (if (rdOf ByteArray.empty l0 x5).toList = a1.toList then (some true) else (laws_wrHas.l0 k l0 a1 (wrap64 (x5 + 1)))) else none) else (some false))
def laws_wrHas.f (k : Nat) (l0 : List ByteArray) (a1 : ByteArray) : Option (Bool) := (laws_wrHas.l0 k l0 a1 0)
def laws_wrAll.l0 : Nat → List ByteArray → List ByteArray → Int → Option (Bool)
  | 0, _, _, _ => none
  | k + 1, l0, l1, x5 => (if x5 < (l0.length : Int) then (if 0 ≤ x5 then ((laws_wrHas.f k l1 (rdOf ByteArray.empty l0 x5)).bind fun t960 => (if t960 = true then (laws_wrAll.l0 k l0 l1 (wrap64 (x5 + 1))) else (some false))) else none) else (some true))
def laws_wrAll.f (k : Nat) (l0 : List ByteArray) (l1 : List ByteArray) : Option (Bool) := (laws_wrAll.l0 k l0 l1 0)
def laws_FnRecBound.l2 : Nat → Int → List ByteArray → Int → (List S_impl_RecPhase) × ByteArray → Int → List ByteArray → Option (Bool)
  | 0, _, _, _, _, _, _ => none
  | k + 1, x7, x8_1, x12, t996, t998, t1000 => (if x12 < (t996.1.length : Int) then ((spec_RecOk.f k t996.1).bind fun t1073 => (if t1073 = true then (if 0 ≤ x12 then ((laws_wrReach.f k t996.1 t996.2 ((rd_impl_RecPhase t996.1 x12).f0)).bind fun t1074 => (if t1074 = true then (if (x8_1.length + 1) * 16 ≤ 140737488355328 then (if ((rd_impl_RecPhase t996.1 x12).f1) = 2 then (if (x8_1.length + 1 + 1) * 16 ≤ 140737488355328 then (laws_FnRecBound.l2 k x7 ((x8_1 ++ ([(rd_impl_RecPhase t996.1 x12).f2] : List ByteArray)) ++ ([(rd_impl_RecPhase t996.1 x12).f3] : List ByteArray)) (wrap64 (x12 + 1)) t996 t998 t1000) else none) else (laws_FnRecBound.l2 k x7 (x8_1 ++ ([(rd_impl_RecPhase t996.1 x12).f2] : List ByteArray)) (wrap64 (x12 + 1)) t996 t998 t1000)) else none) else (laws_FnRecBound.l2 k x7 x8_1 (wrap64 (x12 + 1)) t996 t998 t1000))) else none) else (if x7 = t998 then ((laws_wrAll.f k x8_1 t1000).bind fun t1075 => (if t1075 = true then ((laws_wrAll.f k t1000 x8_1).bind fun t1076 => (some t1076)) else (some false))) else (some false)))) else (if x7 = t998 then ((laws_wrAll.f k x8_1 t1000).bind fun t1077 => (if t1077 = true then ((laws_wrAll.f k t1000 x8_1).bind fun t1078 => (some t1078)) else (some false))) else (some false)))
def laws_FnRecBound.l3 : Nat → Int → List ByteArray → Int → (List S_impl_RecPhase) × ByteArray → Int → List ByteArray → Option (Bool)
  | 0, _, _, _, _, _, _ => none
  | k + 1, x7, x8_2, x12_1, t996, t998, t1000 => (if x12_1 < (t996.1.length : Int) then ((spec_RecOk.f k t996.1).bind fun t1081 => (if t1081 = true then (if 0 ≤ x12_1 then ((laws_wrReach.f k t996.1 t996.2 ((rd_impl_RecPhase t996.1 x12_1).f0)).bind fun t1082 => (if t1082 = true then (if (x8_2.length + 1) * 16 ≤ 140737488355328 then (if ((rd_impl_RecPhase t996.1 x12_1).f1) = 2 then (if (x8_2.length + 1 + 1) * 16 ≤ 140737488355328 then (laws_FnRecBound.l3 k x7 ((x8_2 ++ ([(rd_impl_RecPhase t996.1 x12_1).f2] : List ByteArray)) ++ ([(rd_impl_RecPhase t996.1 x12_1).f3] : List ByteArray)) (wrap64 (x12_1 + 1)) t996 t998 t1000) else none) else (laws_FnRecBound.l3 k x7 (x8_2 ++ ([(rd_impl_RecPhase t996.1 x12_1).f2] : List ByteArray)) (wrap64 (x12_1 + 1)) t996 t998 t1000)) else none) else (laws_FnRecBound.l3 k x7 x8_2 (wrap64 (x12_1 + 1)) t996 t998 t1000))) else none) else (if x7 = t998 then ((laws_wrAll.f k x8_2 t1000).bind fun t1083 => (if t1083 = true then ((laws_wrAll.f k t1000 x8_2).bind fun t1084 => (some t1084)) else (some false))) else (some false)))) else (if x7 = t998 then ((laws_wrAll.f k x8_2 t1000).bind fun t1085 => (if t1085 = true then ((laws_wrAll.f k t1000 x8_2).bind fun t1086 => (some t1086)) else (some false))) else (some false)))
mutual
def laws_FnRecBound.l1 : Nat → List Int → Int → List ByteArray → ByteArray → Int → Int → (List S_impl_RecPhase) × ByteArray → Int → List ByteArray → Option (Bool)
  | 0, _, _, _, _, _, _, _, _, _ => none
  | k + 1, l0, x7_1, x8, x9_1, x10, x11, t996, t998, t1000 => (if x11 < (t996.1.length : Int) then (if 0 ≤ x11 then (if ((rd_impl_RecPhase t996.1 x11).f0).toList = x9_1.toList then ((impl_RecBound.f k t996.1 ((rd_impl_RecPhase t996.1 x11).f6)).bind fun t1069 => ((impl_RecBound.f k t996.1 ((rd_impl_RecPhase t996.1 x11).f7)).bind fun t1070 => (if t1069 > t1070 then (laws_FnRecBound.l0 k l0 (wrap64 (x7_1 + ((rd_impl_RecPhase t996.1 x11).f5))) x8 ((rd_impl_RecPhase t996.1 x11).f6) (wrap64 (x10 + 1)) t996 t998 t1000) else (laws_FnRecBound.l0 k l0 (wrap64 (x7_1 + ((rd_impl_RecPhase t996.1 x11).f5))) x8 ((rd_impl_RecPhase t996.1 x11).f7) (wrap64 (x10 + 1)) t996 t998 t1000)))) else (laws_FnRecBound.l1 k l0 x7_1 x8 x9_1 x10 (wrap64 (x11 + 1)) t996 t998 t1000)) else none) else (laws_FnRecBound.l0 k l0 x7_1 x8 x9_1 (wrap64 (x10 + 1)) t996 t998 t1000))
def laws_FnRecBound.l0 : Nat → List Int → Int → List ByteArray → ByteArray → Int → (List S_impl_RecPhase) × ByteArray → Int → List ByteArray → Option (Bool)
  | 0, _, _, _, _, _, _, _, _ => none
  | k + 1, l0, x7, x8, x9, x10, t996, t998, t1000 => (if x10 < (t996.1.length : Int) then ((spec_RecOk.f k t996.1).bind fun t1068 => (if t1068 = true then (laws_FnRecBound.l1 k l0 x7 x8 x9 x10 0 t996 t998 t1000) else (laws_FnRecBound.l2 k x7 x8 0 t996 t998 t1000))) else (laws_FnRecBound.l3 k x7 x8 0 t996 t998 t1000))
end
def laws_FnRecBound.f (k : Nat) (l0 : List Int) : Option (Bool) := (if (l0.length : Int) > 1048576 then (some true) else ((spec_DrawRecBound.f k l0).bind fun t996 => ((impl_RecBound.f k t996.1 t996.2).bind fun t998 => ((impl_RecSlots.f k t996.1 t996.2).bind fun t1000 => ((spec_RecBound.f k t996.1 t996.2).bind fun t1063 => (if t998 = t1063 then ((spec_RecSlots.f k t996.1 t996.2).bind fun t1064 => ((laws_wrTexts.f k t1000 t1064).bind fun t1065 => (if t1065 = true then (laws_FnRecBound.l0 k l0 0 ([] : List ByteArray) t996.2 0 t996 t998 t1000) else (some false)))) else (some false)))))))
end Go.Proofs.Ytodeegjblililaa.RB
namespace Go.Proofs.Ytodeegjblililaa.Pure
open Go Go.RowKit Go.Aw Go.Proofs.Ytodeegjblililaa.RB
set_option linter.unusedVariables false
set_option linter.unusedSimpArgs false
/-! ### general words -/
theorem ev_pos {α : Type} {c : Prop} {d : Decidable c} {g f : Nat → Option α} {r : α} (h : c) (k : Ev g r) : Ev (fun n => @ite _ c d (g n) (f n)) r := Ev.congr (fun _ => if_pos h) k
theorem ev_neg {α : Type} {c : Prop} {d : Decidable c} {g f : Nat → Option α} {r : α} (h : ¬ c) (k : Ev f r) : Ev (fun n => @ite _ c d (g n) (f n)) r := Ev.congr (fun _ => if_neg h) k
theorem ev_ret {α : Type} {a r : α} (h : a = r) : Ev (fun _ => some a) r := h ▸ Ev.now a
theorem ev_let {α β : Type} {g : Option α} {a : α} {r : β} {f : Nat → α → Option β} (h : g = some a) (k : Ev (fun n => f n a) r) : Ev (fun n => g.bind (f n)) r := by
  subst h; exact k
theorem ev_eq {α : Type} {g : Nat → Option α} {a r : α} (k : Ev g a) (h : a = r) : Ev g r := h ▸ k
theorem ev_split {α : Type} {c : Prop} {d : Decidable c} {g f : Nat → Option α} {r : α} (h : c → Ev g r) (k : ¬ c → Ev f r) : Ev (fun n => @ite _ c d (g n) (f n)) r := by
  by_cases q : c
  · exact ev_pos q (h q)
  · exact ev_neg q (k q)
/-- a value that is called on -/
theorem ev_of {α β : Type} {g : Nat → Option α} {a : α} {r : β} {f : Nat → α → Option β} (h : Ev g a) (k : Ev (fun n => f n a) r) : Ev (fun n => (g n).bind (f n)) r := Ev.bind h k
theorem ex_ret {α : Type} {a : α} : ∃ q, Ev (fun _ => some a) q := ⟨a, Ev.now a⟩
theorem ex_ite {α : Type} {c : Prop} {d : Decidable c} {g f : Nat → Option α} (h : ∃ q, Ev g q) (k : ∃ q, Ev f q) : ∃ q, Ev (fun n => @ite _ c d (g n) (f n)) q := by
  by_cases q : c
  · exact h.imp fun _ e => ev_pos q e
  · exact k.imp fun _ e => ev_neg q e
theorem ex_pos {α : Type} {c : Prop} {d : Decidable c} {g f : Nat → Option α} (h : c) (k : ∃ q, Ev g q) : ∃ q, Ev (fun n => @ite _ c d (g n) (f n)) q := k.imp fun _ e => ev_pos h e
theorem ex_bind {α β : Type} {g : Nat → Option α} {f : Nat → α → Option β} (h : ∃ a, Ev g a) (k : ∀ a, ∃ q, Ev (fun n => f n a) q) : ∃ q, Ev (fun n => (g n).bind (f n)) q := by
  obtain ⟨a, h⟩ := h
  exact (k a).imp fun _ e => Ev.bind h e
theorem ex_step {α : Type} {g f : Nat → Option α} (h : ∀ k, g (k + 1) = f k) (k : ∃ q, Ev f q) : ∃ q, Ev g q := k.imp fun _ e => Ev.step h e
theorem w64 {x : Int} (h0 : -9223372036854775808 ≤ x) (h1 : x ≤ 9223372036854775807) : wrap64 x = x := by unfold wrap64; omega
theorem wsucc {i n : Nat} (h : i < n) (hn : n ≤ 9223372036854775807) : wrap64 ((i : Int) + 1) = ((i + 1 : Nat) : Int) := by unfold wrap64; omega
theorem wplus {a : Int} (h0 : 0 ≤ a) (h1 : a ≤ 4611686018427387904) : wrap64 (a + 1) = a + 1 := by unfold wrap64; omega
theorem pre64 {i : Nat} (h : ¬ i = 0) (hi : i ≤ 9223372036854775807) : wrap64 ((i : Int) - 1) = ((i - 1 : Nat) : Int) := by unfold wrap64; omega
theorem getD_eq {α : Type} (d : α) (xs : List α) (i : Nat) (h : i < xs.length) : xs.getD i d = xs[i] := by
  rw [List.getD_eq_getElem?_getD, List.getElem?_eq_getElem h]; rfl
theorem mem_getD {α : Type} (d : α) (xs : List α) (i : Nat) (h : i < xs.length) : xs.getD i d ∈ xs := by
  rw [getD_eq d xs i h]; exact List.getElem_mem h
theorem getD_set {α : Type} (d : α) (xs : List α) (i j : Nat) (v : α) (h : i < xs.length) : (xs.set i v).getD j d = if j = i then v else xs.getD j d := by
  rw [List.getD_eq_getElem?_getD, List.getD_eq_getElem?_getD, List.getElem?_set]
  by_cases e : i = j
  · subst e; simp [h]
  · rw [if_neg e, if_neg (fun q => e q.symm)]
theorem fill_end {α : Type} (d : α) (z y : List α) (hl : y.length = z.length) (h : ∀ j, j < z.length → y.getD j d = z.getD j d) : y = z := by
  apply List.ext_getElem hl
  intro j h1 h2
  have e := h j h2
  rwa [getD_eq d y j h1, getD_eq d z j h2] at e
theorem fill_step {α : Type} (d : α) (z y : List α) (i : Nat) (hl : y.length = z.length) (hi : i < z.length) (h : ∀ j, j < i → y.getD j d = z.getD j d) (v : α) (hv : v = z.getD i d) :
    (y.set i v).length = z.length ∧ ∀ j, j < i + 1 → (y.set i v).getD j d = z.getD j d := by
  refine ⟨by simpa using hl, fun j hj => ?_⟩
  rw [getD_set d y i j v (by omega)]
  by_cases e : j = i
  · rw [if_pos e, e, hv]
  · rw [if_neg e]; exact h j (by omega)
theorem rdOf_nat {α : Type} (d : α) (xs : List α) (i : Nat) : rdOf d xs (i : Int) = xs.getD i d := by simp [rdOf]
theorem rd_nat (xs : List Int) (i : Nat) : rd xs (i : Int) = xs.getD i 0 := by simp [rd]
theorem map_getD {α β : Type} (e : β) (d : α) (f : α → β) (l : List α) (i : Nat) (h : i < l.length) : (l.map f).getD i e = f (l.getD i d) := by
  rw [getD_eq e _ i (by simpa using h), getD_eq d l i h, List.getElem_map]
/-- a list told from its end: what is left from place i on -/
theorem loopL {α : Type} (d : α) (l : List α) {P : Nat → List α → Prop} (h0 : P l.length []) (hs : ∀ i x r, i < l.length → l.getD i d = x → x ∈ l → l.drop (i + 1) = r → P (i + 1) r → P i (x :: r)) : P 0 l := by
  have key : ∀ (n i : Nat), i + n = l.length → P i (l.drop i) := fun n => by
    induction n with
    | zero =>
      intro i hi
      have e : i = l.length := by omega
      subst e; rw [List.drop_length]; exact h0
    | succ n ih =>
      intro i hi
      have hlt : i < l.length := by omega
      have e : l.drop i = l.getD i d :: l.drop (i + 1) := by rw [List.drop_eq_getElem_cons hlt, getD_eq d l i hlt]
      rw [e]
      exact hs i _ _ hlt rfl (mem_getD d l i hlt) rfl (ih (i + 1) (by omega))
  simpa using key l.length 0 (by omega)
/-- the element ahead of place i -/
def ahead {α : Type} (d : α) (l : List α) (i : Nat) : Option α := if i = 0 then none else some (l.getD (i - 1) d)
theorem ahead_zero {α : Type} (d : α) (l : List α) : ahead d l 0 = none := rfl
theorem ahead_succ {α : Type} (d : α) (l : List α) (i : Nat) : ahead d l (i + 1) = some (l.getD i d) := by simp [ahead]
theorem ahead_pos {α : Type} (d : α) (l : List α) (i : Nat) (h : ¬ i = 0) : ahead d l i = some (l.getD (i - 1) d) := if_neg h
/-! ### the order of bytes -/
theorem bl_irr : ∀ x : List UInt8, Op.bytesLess x x = false
  | [] => rfl
  | a :: x => by simp [Op.bytesLess, bl_irr x]
theorem bl_asym : ∀ x y : List UInt8, Op.bytesLess x y = true → Op.bytesLess y x = false
  | [], [], _ => rfl
  | [], _ :: _, _ => rfl
  | _ :: _, [], h => by simp [Op.bytesLess] at h
  | a :: x, b :: y, h => by
    simp only [Op.bytesLess, Bool.or_eq_true, Bool.and_eq_true, decide_eq_true_eq, beq_iff_eq] at h
    simp only [Op.bytesLess, Bool.or_eq_false_iff, Bool.and_eq_false_iff, decide_eq_false_iff_not, beq_eq_false_iff_ne]
    rcases h with h | ⟨rfl, h⟩
    · exact ⟨UInt8.lt_asymm h, .inl (fun e => by subst e; exact UInt8.lt_irrefl _ h)⟩
    · exact ⟨UInt8.lt_irrefl _, .inr (bl_asym x y h)⟩
theorem bl_tri : ∀ x y : List UInt8, Op.bytesLess x y = true ∨ x = y ∨ Op.bytesLess y x = true
  | [], [] => .inr (.inl rfl)
  | [], _ :: _ => .inl rfl
  | _ :: _, [] => .inr (.inr rfl)
  | a :: x, b :: y => by
    simp only [Op.bytesLess, Bool.or_eq_true, Bool.and_eq_true, decide_eq_true_eq, beq_iff_eq, List.cons.injEq]
    rcases UInt8.lt_or_lt_of_ne (a := a) (b := b) |> fun f => (Classical.em (a = b)).imp id f with rfl | h | h
    · rcases bl_tri x y with q | rfl | q
      · exact .inl (.inr ⟨rfl, q⟩)
      · exact .inr (.inl ⟨rfl, rfl⟩)
      · exact .inr (.inr (.inr ⟨rfl, q⟩))
    · exact .inl (.inl h)
    · exact .inr (.inr (.inl h))
theorem bl_trans : ∀ x y z : List UInt8, Op.bytesLess x y = true → Op.bytesLess y z = true → Op.bytesLess x z = true
  | [], _, _ :: _, _, _ => rfl
  | [], [], [], h, _ => h
  | [], _ :: _, [], _, h => by simp [Op.bytesLess] at h
  | _ :: _, [], _, h, _ => by simp [Op.bytesLess] at h
  | _ :: _, _ :: _, [], _, h => by simp [Op.bytesLess] at h
  | a :: x, b :: y, c :: z, h, k => by
    simp only [Op.bytesLess, Bool.or_eq_true, Bool.and_eq_true, decide_eq_true_eq, beq_iff_eq] at h k ⊢
    rcases h with h | ⟨rfl, h⟩
    · rcases k with k | ⟨rfl, k⟩
      · exact .inl (UInt8.lt_trans h k)
      · exact .inl h
    · rcases k with k | ⟨rfl, k⟩
      · exact .inl k
      · exact .inr ⟨rfl, bl_trans x y z h k⟩
theorem ba_ext {a b : ByteArray} (h : a.toList = b.toList) : a = b := by
  apply ByteArray.ext
  apply Array.ext'
  simpa [ByteArray.toList_eq] using h
theorem ba_iff {a b : ByteArray} : a.toList = b.toList ↔ a = b := ⟨ba_ext, fun h => h ▸ rfl⟩
/-- a text ahead of another -/
def lt (a b : ByteArray) : Bool := Op.bytesLess a.toList b.toList
theorem lt_irr (a : ByteArray) : lt a a = false := bl_irr _
theorem lt_asym {a b : ByteArray} (h : lt a b = true) : lt b a = false := bl_asym _ _ h
theorem lt_trans {a b c : ByteArray} (h : lt a b = true) (k : lt b c = true) : lt a c = true := bl_trans _ _ _ h k
theorem lt_tri (a b : ByteArray) : lt a b = true ∨ a = b ∨ lt b a = true := (bl_tri a.toList b.toList).imp id (·.imp ba_ext id)
theorem lt_ne {a b : ByteArray} (h : lt a b = true) : a ≠ b := fun e => by rw [e, lt_irr] at h; cases h
/-- pair by pair: the first, then the second -/
def befB (a0 a1 b0 b1 : ByteArray) : Bool := lt a0 b0 || (decide (a0 = b0) && lt a1 b1)
/-! ### names -/
theorem ev_b {α : Type} {b : Bool} {g f : Nat → Option α} {r : α} (h : b = true → Ev g r) (k : b = false → Ev f r) : Ev (fun n => if b = true then g n else f n) r := by
  cases b
  · exact ev_neg (by simp) (k rfl)
  · exact ev_pos rfl (h rfl)
/-- a yes or no that is asked -/
theorem ev_ask {α : Type} {o g f : Nat → Option α} {q : Nat → Option Bool} {b : Bool} {r : α} (hq : Ev q b) (h : b = true → Ev g r) (k : b = false → Ev f r) : Ev (fun n => (q n).bind fun t => if t = true then g n else f n) r := Ev.bind (f := fun n t => if t = true then g n else f n) hq (ev_b h k)
def okc (c : Int) : Bool := (decide (97 ≤ c) && decide (c ≤ 122)) || ((decide (48 ≤ c) && decide (c ≤ 57)) || decide (c = 45))
theorem okc_t {c : Int} (h : 97 ≤ c ∧ c ≤ 122 ∨ 48 ≤ c ∧ c ≤ 57 ∨ c = 45) : okc c = true := by simp [okc]; omega
theorem okc_f {c : Int} (h : ¬ (97 ≤ c ∧ c ≤ 122 ∨ 48 ≤ c ∧ c ≤ 57 ∨ c = 45)) : okc c = false := by
  rw [← Bool.not_eq_true]; intro q; apply h; simp [okc] at q; omega
def allFrom (s : ByteArray) (i : Nat) : Bool := decide (∀ j, j < s.size → i ≤ j → okc (bt s (j : Int)) = true)
theorem allFrom_step (s : ByteArray) (i : Nat) (h : i < s.size) : allFrom s i = (okc (bt s (i : Int)) && allFrom s (i + 1)) := by
  unfold allFrom
  rw [Bool.eq_iff_iff, Bool.and_eq_true, decide_eq_true_iff, decide_eq_true_iff]
  refine ⟨fun q => ⟨q i h (Nat.le_refl _), fun j hj hi => q j hj (by omega)⟩, fun q j hj hi => ?_⟩
  by_cases e : j = i
  · rw [e]; exact q.1
  · exact q.2 j hj (by omega)
theorem allFrom_end (s : ByteArray) : allFrom s s.size = true := by
  unfold allFrom
  rw [decide_eq_true_iff]
  intro j hj hi; omega
def nameB (s : ByteArray) : Bool := decide (1 ≤ s.size ∧ s.size ≤ 8) && allFrom s 0
/-- a walk over the places of a text -/
theorem loopN (n : Nat) {P : Nat → Prop} (h0 : P n) (hs : ∀ i, i < n → P (i + 1) → P i) : P 0 := by
  have key : ∀ (m i : Nat), i + m = n → P i := fun m => by
    induction m with
    | zero => intro i hi; have e : i = n := by omega
              subst e; exact h0
    | succ m ih => intro i hi; exact hs i (by omega) (ih (i + 1) (by omega))
  exact key n 0 (by omega)
/-- each before the next -/
def chainB {α : Type} (p : α → α → Bool) : Option α → List α → Bool
  | _, [] => true
  | none, x :: r => chainB p (some x) r
  | some y, x :: r => p y x && chainB p (some x) r
def namesB (l : List ByteArray) : Bool := l.all nameB && chainB lt none l
def hasB (l : List ByteArray) (s : ByteArray) : Bool := l.any fun x => decide (x = s)
theorem hasB_iff {l : List ByteArray} {s : ByteArray} : hasB l s = true ↔ s ∈ l := by
  unfold hasB
  rw [List.any_eq_true]
  exact ⟨fun ⟨x, h, e⟩ => by simp at e; exact e ▸ h, fun h => ⟨s, h, by simp⟩⟩
def inB (a b c : Int) : Bool := decide (b ≤ a ∧ a ≤ c)
theorem inB_t {a b c : Int} (h : b ≤ a ∧ a ≤ c) : inB a b c = true := decide_eq_true h
theorem inB_f {a b c : Int} (h : ¬ (b ≤ a ∧ a ≤ c)) : inB a b c = false := decide_eq_false h
/-! ### names, as the reference reads them (recipes) -/
theorem l41In_ev (a b c : Int) : Ev (fun _ => spec_l41In.f a b c) (inB a b c) := by
  unfold spec_l41In.f inB
  refine ev_split (fun h => ev_ret (decide_eq_decide.2 (by omega))) (fun h => ev_ret ?_)
  symm; apply decide_eq_false; omega
theorem l41NameOk_ev (s : ByteArray) : Ev (fun k => spec_l41NameOk.f k s) (nameB s) := by
  unfold spec_l41NameOk.f nameB
  refine Ev.bind (l41In_ev _ _ _) (ev_b (fun h => ?_) (fun h => ev_ret ?_))
  · have hs : 1 ≤ s.size ∧ s.size ≤ 8 := by have : inB _ _ _ = true := h; unfold inB at this; have := of_decide_eq_true this; omega
    rw [decide_eq_true hs, Bool.true_and]
    refine loopN s.size (P := fun i => Ev (fun k => spec_l41NameOk.l0 k s (i : Int)) (allFrom s i))
      (by refine Ev.step (fun k => by rw [spec_l41NameOk.l0]) ?_; exact ev_neg (by omega) (ev_ret (allFrom_end s).symm)) (fun i hi ih => ?_)
    refine Ev.step (fun k => by rw [spec_l41NameOk.l0]) (ev_pos (by omega) (ev_pos (by omega) ?_))
    rw [wsucc hi (by omega), allFrom_step s i hi]
    generalize bt s (i : Int) = c
    repeat' (first | (refine ev_split (fun _ => ?_) (fun _ => ?_)) | (rw [okc_t (by omega), Bool.true_and]; exact ih) | (rw [okc_f (by omega)]; exact ev_ret rfl))
  · have hs : ¬ (1 ≤ s.size ∧ s.size ≤ 8) := fun q => by have : inB _ _ _ = false := h; unfold inB at this; have := of_decide_eq_false this; omega
    rw [decide_eq_false hs]; rfl
/-! ### names, as the program reads them (no lists that rise) -/
theorem isName_ev (s : ByteArray) (hn : s.size ≤ 140737488351232) : Ev (fun k => impl_isName.f k s) (nameB s) := by
  unfold impl_isName.f nameB
  refine loopN s.size (P := fun i => Ev (fun k => impl_isName.l0 k s (i : Int)) (decide (1 ≤ s.size ∧ s.size ≤ 8) && allFrom s i))
    (by
      refine Ev.step (fun k => by rw [impl_isName.l0]) (ev_neg (by omega) ?_)
      rw [allFrom_end, Bool.and_true]
      refine ev_split (fun h => ev_ret (decide_eq_decide.2 (by omega))) (fun h => ev_ret ?_)
      symm; apply decide_eq_false; omega) (fun i hi ih => ?_)
  refine Ev.step (fun k => by rw [impl_isName.l0]) (ev_pos (by omega) (ev_pos (by omega) ?_))
  rw [wsucc hi (by omega), allFrom_step s i hi]
  generalize bt s (i : Int) = c
  repeat' (first | (refine ev_split (fun _ => ?_) (fun _ => ?_)) | (rw [okc_t (by omega), Bool.true_and]; exact ih) | (rw [okc_f (by omega), Bool.false_and, Bool.and_false]; exact ev_ret rfl))
theorem chain_none {α : Type} (p : α → α → Bool) (x : α) (r : List α) : chainB p none (x :: r) = chainB p (some x) r := rfl
theorem has_ev (l : List ByteArray) (s : ByteArray) (hn : l.length ≤ 140737488351232) : Ev (fun k => impl_has.f k l s) (hasB l s) := by
  have key : ∃ v : Int, (decide (v ≥ 0) = hasB l s) ∧ Ev (fun k => slices_Index_string_string.f k l s) v := by
    unfold slices_Index_string_string.f hasB
    refine loopL ByteArray.empty l (P := fun i r => ∃ v : Int, (decide (v ≥ 0) = r.any fun x => decide (x = s)) ∧ Ev (fun k => slices_Index_string_string.l0 k l s (i : Int)) v)
      ⟨-1, rfl, Ev.step (fun k => by rw [slices_Index_string_string.l0]) (ev_neg (by omega) (ev_ret rfl))⟩ (fun i x r hi hx _ _ ih => ?_)
    obtain ⟨v, hv, he⟩ := ih
    by_cases c : x = s
    · refine ⟨(i : Int), by simp [c], Ev.step (fun k => by rw [slices_Index_string_string.l0]) ?_⟩
      rw [rdOf_nat, hx]
      exact ev_pos (by omega) (ev_pos (by omega) (ev_pos (by rw [c]) (ev_ret rfl)))
    · refine ⟨v, by simpa [c] using hv, Ev.step (fun k => by rw [slices_Index_string_string.l0]) ?_⟩
      rw [rdOf_nat, hx, wsucc hi (by omega)]
      exact ev_pos (by omega) (ev_pos (by omega) (ev_neg (fun q => c (ba_ext q).symm) he))
  obtain ⟨v, hv, he⟩ := key
  unfold impl_has.f slices_Contains_string_string.f
  exact Ev.bind (Ev.bind he (ev_ret hv)) (ev_ret rfl)
/-! ### lists that rise -/
def SortedL (l : List ByteArray) : Prop := l.Pairwise fun x y => lt x y = true
theorem chain_head {α : Type} {p : α → α → Bool} (ht : ∀ x y z, p x y = true → p y z = true → p x z = true) : ∀ (r : List α) (y : α), chainB p (some y) r = true → (∀ x ∈ r, p y x = true) ∧ r.Pairwise fun x y => p x y = true
  | [], _, _ => ⟨fun x h => (by cases h), List.Pairwise.nil⟩
  | x :: r, y, h => by
    have h : (p y x && chainB p (some x) r) = true := h
    rw [Bool.and_eq_true] at h
    obtain ⟨g1, g2⟩ := chain_head ht r x h.2
    refine ⟨fun z hz => ?_, List.pairwise_cons.2 ⟨g1, g2⟩⟩
    rcases List.mem_cons.1 hz with rfl | hz
    · exact h.1
    · exact ht _ _ _ h.1 (g1 z hz)
theorem chain_pair {α : Type} {p : α → α → Bool} (ht : ∀ x y z, p x y = true → p y z = true → p x z = true) (l : List α) (h : chainB p none l = true) : l.Pairwise fun x y => p x y = true := by
  cases l with
  | nil => exact List.Pairwise.nil
  | cons x r =>
    have h : chainB p (some x) r = true := h
    obtain ⟨g1, g2⟩ := chain_head ht r x h
    exact List.pairwise_cons.2 ⟨g1, g2⟩
theorem sorted_of {l : List ByteArray} (h : chainB lt none l = true) : SortedL l := chain_pair (p := lt) (fun _ _ _ h k => lt_trans h k) l h
theorem sorted_ext : ∀ (l m : List ByteArray), SortedL l → SortedL m → (∀ x, x ∈ l ↔ x ∈ m) → l = m
  | [], [], _, _, _ => rfl
  | [], y :: m, _, _, h => by have := (h y).2 (List.mem_cons_self ..); cases this
  | x :: l, [], _, _, h => by have := (h x).1 (List.mem_cons_self ..); cases this
  | x :: l, y :: m, hl, hm, h => by
    obtain ⟨l1, l2⟩ := List.pairwise_cons.1 hl
    obtain ⟨m1, m2⟩ := List.pairwise_cons.1 hm
    have e : x = y := by
      rcases List.mem_cons.1 ((h x).1 (List.mem_cons_self ..)) with e | hx
      · exact e
      · rcases List.mem_cons.1 ((h y).2 (List.mem_cons_self ..)) with e | hy
        · exact e.symm
        · have := lt_asym (l1 y hy); rw [m1 x hx] at this; cases this
    subst e
    congr 1
    refine sorted_ext l m l2 m2 (fun z => ⟨fun hz => ?_, fun hz => ?_⟩)
    · rcases List.mem_cons.1 ((h z).1 (List.mem_cons_of_mem _ hz)) with e | hz'
      · subst e; exact absurd rfl (lt_ne (l1 z hz))
      · exact hz'
    · rcases List.mem_cons.1 ((h z).2 (List.mem_cons_of_mem _ hz)) with e | hz'
      · subst e; exact absurd rfl (lt_ne (m1 z hz))
      · exact hz'
def insertL (x : ByteArray) : List ByteArray → List ByteArray
  | [] => [x]
  | y :: r => if lt y x = true then y :: insertL x r else if y = x then y :: r else x :: y :: r
theorem insertL_mem (x z : ByteArray) : ∀ l : List ByteArray, z ∈ insertL x l ↔ z = x ∨ z ∈ l
  | [] => by simp [insertL]
  | y :: r => by
    have ih := insertL_mem x z r
    unfold insertL
    split
    · rw [List.mem_cons, ih, List.mem_cons]
      constructor
      · rintro (h | h | h)
        · exact .inr (.inl h)
        · exact .inl h
        · exact .inr (.inr h)
      · rintro (h | h | h)
        · exact .inr (.inl h)
        · exact .inl h
        · exact .inr (.inr h)
    · split
      · rename_i e
        subst e
        rw [List.mem_cons]
        exact ⟨fun h => .inr h, fun h => h.elim .inl id⟩
      · rw [List.mem_cons]
theorem insertL_sorted (x : ByteArray) : ∀ l : List ByteArray, SortedL l → SortedL (insertL x l)
  | [], _ => List.pairwise_singleton _ _
  | y :: r, h => by
    obtain ⟨h1, h2⟩ := List.pairwise_cons.1 h
    unfold insertL
    split
    · rename_i c
      refine List.pairwise_cons.2 ⟨fun z hz => ?_, insertL_sorted x r h2⟩
      rcases (insertL_mem x z r).1 hz with rfl | hz
      · exact c
      · exact h1 z hz
    · rename_i c
      split
      · exact h
      · rename_i e
        have hlt : lt x y = true := by
          rcases lt_tri x y with q | q | q
          · exact q
          · exact absurd q.symm e
          · exact absurd q c
        refine List.pairwise_cons.2 ⟨fun z hz => ?_, h⟩
        rcases List.mem_cons.1 hz with rfl | hz
        · exact hlt
        · exact lt_trans hlt (h1 z hz)
theorem insertL_len (x : ByteArray) : ∀ l : List ByteArray, (insertL x l).length ≤ l.length + 1
  | [] => by simp [insertL]
  | y :: r => by
    have := insertL_len x r
    unfold insertL
    split
    · simp; omega
    · split <;> simp
theorem l42Insert_ev (l : List ByteArray) (x : ByteArray) (hn : l.length ≤ 1000000) : Ev (fun k => spec_l42Insert.f k l x) (insertL x l) := by
  unfold spec_l42Insert.f
  refine ev_eq (loopL ByteArray.empty l (P := fun i r => l.drop i = r → Ev (fun k => spec_l42Insert.l0 k l x (i : Int)) (l.take i ++ insertL x r)) (fun _ => ?_) (fun i y r hi hy _ hr ih hd => ?_) rfl) (by simp)
  · refine Ev.step (fun k => by rw [spec_l42Insert.l0]) ?_
    refine ev_neg (by omega) (ev_pos (by omega) (ev_pos (by omega) (ev_pos (by rw [Int.toNat_natCast]; omega) (ev_pos (by rw [Int.toNat_natCast]; omega) (ev_pos (by rw [Int.toNat_natCast]; omega) (ev_ret ?_))))))
    simp [insertL]
  · refine Ev.step (fun k => by rw [spec_l42Insert.l0]) (ev_pos (by omega) (ev_pos (by omega) ?_))
    rw [rdOf_nat, hy, wsucc hi (by omega), Int.toNat_natCast]
    have ht : l.take (i + 1) = l.take i ++ [y] := by rw [List.take_succ_eq_append_getElem hi, ← getD_eq ByteArray.empty l i hi, hy]
    refine ev_b (fun c => ev_eq (ih hr) ?_) (fun c => ev_split (fun e => ev_ret ?_) (fun e => ?_))
    · have c : lt y x = true := c
      rw [ht, show insertL x (y :: r) = y :: insertL x r from if_pos c]; simp
    · have c : lt y x = false := c
      rw [show insertL x (y :: r) = if lt y x = true then y :: insertL x r else if y = x then y :: r else x :: y :: r from rfl, c, if_neg (by simp), if_pos (ba_iff.1 e), ← hd, List.take_append_drop]
    · have c : lt y x = false := c
      refine ev_pos (by omega) (ev_pos (by omega) (ev_pos (by omega) (ev_pos (by omega) (ev_ret ?_))))
      rw [show insertL x (y :: r) = if lt y x = true then y :: insertL x r else if y = x then y :: r else x :: y :: r from rfl, c, if_neg (by simp), if_neg (fun q => e (ba_iff.2 q)), ← hd]
      simp
/-! ### sets of texts: rising lists -/
theorem sorted_nodup {l : List ByteArray} (h : SortedL l) : l.Nodup := List.Pairwise.imp (fun h => lt_ne h) h
theorem sortN_ev (a : List ByteArray) (h : a.length ≤ 4611686018427387903) (hn : a.Nodup) : ∃ r, Ev (fun _ => sort_Strings.f a) r ∧ SortedL r ∧ ∀ x, x ∈ r ↔ x ∈ a := by
  have e : sortSf a = some (sortS a) := by unfold sortSf; rw [if_pos (by omega)]
  refine ⟨sortS a, ?_, sortS_nd e hn, sortS_mem e⟩
  unfold sort_Strings.f
  rw [e]
  exact Ev.now _
/-- a set, and more put into it -/
def setW (a b : List ByteArray) : List ByteArray := b.foldl (fun l x => insertL x l) a
theorem setW_sorted : ∀ (b a : List ByteArray), SortedL a → SortedL (setW a b)
  | [], _, h => h
  | x :: b, a, h => setW_sorted b _ (insertL_sorted x a h)
theorem setW_mem (z : ByteArray) : ∀ (b a : List ByteArray), z ∈ setW a b ↔ z ∈ a ∨ z ∈ b
  | [], a => by simp [setW]
  | x :: b, a => by
    rw [show setW a (x :: b) = setW (insertL x a) b from rfl, setW_mem z b, insertL_mem, List.mem_cons]
    constructor
    · rintro ((h | h) | h)
      · exact .inr (.inl h)
      · exact .inl h
      · exact .inr (.inr h)
    · rintro (h | h | h)
      · exact .inl (.inr h)
      · exact .inl (.inl h)
      · exact .inr h
theorem setW_len : ∀ (b a : List ByteArray), (setW a b).length ≤ a.length + b.length
  | [], a => by simp [setW]
  | x :: b, a => by
    have := setW_len b (insertL x a)
    have := insertL_len x a
    rw [show setW a (x :: b) = setW (insertL x a) b from rfl, List.length_cons]
    omega
theorem sorted_nil : SortedL [] := List.Pairwise.nil
theorem setW_eq {a b c : List ByteArray} (hc : SortedL c) (ha : SortedL a) (h : ∀ x, x ∈ c ↔ x ∈ a ∨ x ∈ b) : c = setW a b :=
  sorted_ext _ _ hc (setW_sorted b a ha) (fun x => by rw [h, setW_mem])
theorem withN_ev (a b : List ByteArray) (ha : a.Nodup) (h : a.length + b.length ≤ 8796093022207) : ∃ r, Ev (fun k => impl_with.f k a b) r ∧ SortedL r ∧ ∀ x, x ∈ r ↔ x ∈ a ∨ x ∈ b := by
  have key := loopL ByteArray.empty b (P := fun i d => i + d.length = b.length → ∀ acc : List ByteArray, acc.Nodup → acc.length ≤ a.length + i → ∃ r, Ev (fun k => impl_with.l0 k a b acc (i : Int)) r ∧ SortedL r ∧ ∀ x, x ∈ r ↔ x ∈ acc ∨ x ∈ d)
    (fun _ acc hnd hacc => by
      obtain ⟨r, h1, h2, h3⟩ := sortN_ev acc (by omega) hnd
      refine ⟨r, Ev.step (fun k => by rw [impl_with.l0]) (ev_neg (by omega) (Ev.bind h1 (ev_ret rfl))), h2, fun x => by rw [h3]; simp⟩)
    (fun i y d hi hy hm hd ih hl acc hnd hacc => by
      rw [List.length_cons] at hl
      have hh := has_ev acc y (by omega)
      cases c : hasB acc y with
      | true =>
        rw [c] at hh
        obtain ⟨r, h1, h2, h3⟩ := ih (by omega) acc hnd (by omega)
        refine ⟨r, Ev.step (fun k => by rw [impl_with.l0]) (ev_pos (by omega) (ev_pos (by omega) ?_)), h2, fun x => ?_⟩
        · rw [wsucc hi (by omega), rdOf_nat, hy]
          exact Ev.bind hh (ev_pos rfl h1)
        · rw [h3, List.mem_cons]
          have := hasB_iff.1 c
          constructor
          · rintro (q | q)
            · exact .inl q
            · exact .inr (.inr q)
          · rintro (q | q | q)
            · exact .inl q
            · exact .inl (q ▸ this)
            · exact .inr q
      | false =>
        rw [c] at hh
        have hni : y ∉ acc := fun q => by rw [hasB_iff.2 q] at c; cases c
        obtain ⟨r, h1, h2, h3⟩ := ih (by omega) (acc ++ [y]) (List.nodup_append.2 ⟨hnd, by simp, fun u hu v hv e => by rw [List.mem_singleton] at hv; subst hv; exact hni (e ▸ hu)⟩) (by rw [List.length_append, List.length_singleton]; omega)
        refine ⟨r, Ev.step (fun k => by rw [impl_with.l0]) (ev_pos (by omega) (ev_pos (by omega) ?_)), h2, fun x => ?_⟩
        · rw [wsucc hi (by omega), rdOf_nat, hy]
          exact Ev.bind hh (ev_neg (by simp) (ev_pos (by omega) h1))
        · rw [h3, List.mem_cons, List.mem_append, List.mem_singleton, or_assoc])
  obtain ⟨r, h1, h2, h3⟩ := key (by omega) a ha (by omega)
  refine ⟨r, ?_, h2, h3⟩
  unfold impl_with.f
  exact ev_pos (by omega) h1
theorem setW_ev (a b : List ByteArray) (ha : SortedL a) (h : a.length + b.length ≤ 8796093022207) : Ev (fun k => impl_with.f k a b) (setW a b) := by
  obtain ⟨r, h1, h2, h3⟩ := withN_ev a b (sorted_nodup ha) h
  exact setW_eq h2 ha h3 ▸ h1
/-! ### recipes -/
theorem rdRP (l : List S_impl_RecPhase) (i : Nat) : rd_impl_RecPhase l (i : Int) = l.getD i z_impl_RecPhase := by unfold rd_impl_RecPhase; rw [Int.toNat_natCast]
def endOf (a : ByteArray) : Int := if a = (⟨#[103, 111, 111, 100]⟩ : ByteArray) then 1 else if a = (⟨#[115, 97, 118, 101, 100]⟩ : ByteArray) then 2 else if a = (⟨#[115, 99, 114, 97, 112, 112, 101, 100]⟩ : ByteArray) then 3 else 0
theorem specEnd_ev (a : ByteArray) : Ev (fun _ => spec_RecEnd.f a) (endOf a) := by
  unfold spec_RecEnd.f endOf
  refine ev_split (fun c => ev_ret (by rw [if_pos (ba_iff.1 c)])) (fun c => ?_)
  rw [if_neg (fun e => c (ba_iff.2 e))]
  refine ev_split (fun c => ev_ret (by rw [if_pos (ba_iff.1 c)])) (fun c => ?_)
  rw [if_neg (fun e => c (ba_iff.2 e))]
  exact ev_split (fun c => ev_ret (by rw [if_pos (ba_iff.1 c)])) (fun c => ev_ret (by rw [if_neg (fun e => c (ba_iff.2 e))]))
theorem implEnd_ev (a : ByteArray) : Ev (fun _ => impl_RecEnd.f a) (endOf a) := by
  unfold impl_RecEnd.f endOf
  refine ev_split (fun c => ev_ret (by rw [if_pos (ba_iff.1 c)])) (fun c => ?_)
  rw [if_neg (fun e => c (ba_iff.2 e))]
  refine ev_split (fun c => ev_ret (by rw [if_pos (ba_iff.1 c)])) (fun c => ?_)
  rw [if_neg (fun e => c (ba_iff.2 e))]
  exact ev_split (fun c => ev_ret (by rw [if_pos (ba_iff.1 c)])) (fun c => ev_ret (by rw [if_neg (fun e => c (ba_iff.2 e))]))
def argsB (x : S_impl_RecPhase) : Bool :=
  if x.f1 = 1 then nameB x.f3 && inB x.f4 1 1000 else if x.f1 = 2 then nameB x.f3 && (!decide (x.f2 = x.f3) && inB x.f4 1 1000) else if x.f1 = 3 then decide (x.f3 = (⟨#[]⟩ : ByteArray)) && inB x.f4 1 x.f5 else if x.f1 = 4 ∨ x.f1 = 5 then decide (x.f3 = (⟨#[]⟩ : ByteArray)) && decide (x.f4 = 0) else false
def phaseB (x : S_impl_RecPhase) : Bool := (nameB x.f0 && decide (endOf x.f0 = 0)) && (inB x.f5 1 1000 && ((nameB x.f2 && argsB x) && (nameB x.f6 && nameB x.f7)))
theorem l41Args_ev (x : S_impl_RecPhase) : Ev (fun k => spec_l41ArgsOk.f k x.f0 x.f1 x.f2 x.f3 x.f4 x.f5 x.f6 x.f7) (nameB x.f2 && argsB x) := by
  have e2 := l41NameOk_ev x.f2
  have e3 := l41NameOk_ev x.f3
  unfold spec_l41ArgsOk.f argsB
  generalize nameB x.f2 = n2 at *
  generalize nameB x.f3 = n3 at *
  refine ev_split (fun c => ?_) (fun c => ?_)
  · rw [if_pos c]
    exact Ev.bind e2 (ev_b (fun d => Ev.bind e3 (ev_b (fun d2 => Ev.bind (l41In_ev _ _ _) (ev_ret (by rw [d, d2]; rfl))) (fun d2 => ev_ret (by rw [d2]; simp)))) (fun d => ev_ret (by rw [d]; rfl)))
  rw [if_neg c]
  refine ev_split (fun c => ?_) (fun c => ?_)
  · rw [if_pos c]
    refine Ev.bind e2 (ev_b (fun d => Ev.bind e3 (ev_b (fun d2 => ev_split (fun d3 => ev_ret ?_) (fun d3 => Ev.bind (l41In_ev _ _ _) (ev_ret ?_))) (fun d2 => ev_ret (by rw [d2]; simp)))) (fun d => ev_ret (by rw [d]; rfl)))
    · rw [decide_eq_true (ba_iff.1 d3)]; simp
    · rw [decide_eq_false (fun e => d3 (ba_iff.2 e)), d, d2]; rfl
  rw [if_neg c]
  refine ev_split (fun c => ?_) (fun c => ?_)
  · rw [if_pos c]
    refine Ev.bind e2 (ev_b (fun d => ev_split (fun d3 => Ev.bind (l41In_ev _ _ _) (ev_ret ?_)) (fun d3 => ev_ret ?_)) (fun d => ev_ret (by rw [d]; rfl)))
    · rw [decide_eq_true (ba_iff.1 d3), d]; rfl
    · rw [decide_eq_false (fun e => d3 (ba_iff.2 e))]; simp
  rw [if_neg c]
  refine ev_split (fun c => ?_) (fun c => ?_)
  · rw [if_pos (show x.f1 = 4 ∨ x.f1 = 5 from .inl c)]
    refine Ev.bind e2 (ev_b (fun d => ev_split (fun d3 => ev_ret ?_) (fun d3 => ev_ret ?_)) (fun d => ev_ret (by rw [d]; rfl)))
    · rw [decide_eq_true (ba_iff.1 d3), d]; rfl
    · rw [decide_eq_false (fun e => d3 (ba_iff.2 e))]; simp
  refine ev_split (fun c2 => ?_) (fun c2 => ?_)
  · rw [if_pos (show x.f1 = 4 ∨ x.f1 = 5 from .inr c2)]
    refine Ev.bind e2 (ev_b (fun d => ev_split (fun d3 => ev_ret ?_) (fun d3 => ev_ret ?_)) (fun d => ev_ret (by rw [d]; rfl)))
    · rw [decide_eq_true (ba_iff.1 d3), d]; rfl
    · rw [decide_eq_false (fun e => d3 (ba_iff.2 e))]; simp
  · rw [if_neg (show ¬ (x.f1 = 4 ∨ x.f1 = 5) by omega)]; exact ev_ret (by simp)
theorem specPhase_ev (x : S_impl_RecPhase) : Ev (fun k => spec_RecPhaseOk.f k x.f0 x.f1 x.f2 x.f3 x.f4 x.f5 x.f6 x.f7) (phaseB x) := by
  have eP : Ev (fun k => spec_l41PlainOk.f k x.f0) (nameB x.f0 && decide (endOf x.f0 = 0)) := by
    unfold spec_l41PlainOk.f
    exact Ev.bind (l41NameOk_ev _) (ev_b (fun c => Ev.bind (specEnd_ev _) (ev_ret (by rw [c]; rfl))) (fun c => ev_ret (by rw [c]; rfl)))
  have eA := l41Args_ev x
  unfold spec_RecPhaseOk.f phaseB
  generalize (nameB x.f0 && decide (endOf x.f0 = 0)) = b0 at *
  generalize (nameB x.f2 && argsB x) = b1 at *
  refine Ev.bind eP (ev_b (fun c0 => Ev.bind (l41In_ev _ _ _) (ev_b (fun c1 => Ev.bind eA (ev_b (fun c2 => Ev.bind (l41NameOk_ev _) (ev_b (fun c3 => Ev.bind (l41NameOk_ev _) (ev_ret ?_)) (fun c3 => ev_ret ?_))) (fun c2 => ev_ret ?_))) (fun c1 => ev_ret ?_))) (fun c0 => ev_ret ?_))
  · rw [c0, c1, c2, c3]; rfl
  · rw [c3]; simp
  · rw [c2]; simp
  · rw [c1]; simp
  · rw [c0]; rfl
structure SzR (x : S_impl_RecPhase) : Prop where
  n0 : x.f0.size ≤ 140737488351232
  n2 : x.f2.size ≤ 140737488351232
  n3 : x.f3.size ≤ 140737488351232
  n6 : x.f6.size ≤ 140737488351232
  n7 : x.f7.size ≤ 140737488351232
theorem phaseJ_ev (x : S_impl_RecPhase) (z : SzR x) (m : Int) (b : Bool) : Ev (fun k => impl_RecPhaseOk.j0 k x.f3 x.f4 m b) ((if b = true then nameB x.f3 else decide (x.f3 = (⟨#[]⟩ : ByteArray))) && (decide (x.f4 ≤ m) && (decide (1 ≤ x.f4) || (decide (m = 0) && decide (x.f4 = 0))))) := by
  have e3 := isName_ev x.f3 z.n3
  have tl : ∀ B : Bool, B = true → Ev (fun _ => if x.f4 ≤ m then (if x.f4 ≥ 1 then some true else if m = 0 then some (decide (x.f4 = 0)) else some false) else some false) (B && (decide (x.f4 ≤ m) && (decide (1 ≤ x.f4) || (decide (m = 0) && decide (x.f4 = 0))))) := fun B hB => by
    subst hB
    refine ev_split (fun c => ev_split (fun d => ev_ret ?_) (fun d => ev_split (fun d2 => ev_ret ?_) (fun d2 => ev_ret ?_))) (fun c => ev_ret ?_)
    · rw [decide_eq_true c, decide_eq_true (by omega : 1 ≤ x.f4)]; rfl
    · rw [decide_eq_true c, decide_eq_false (by omega : ¬ 1 ≤ x.f4), decide_eq_true d2]; rfl
    · rw [decide_eq_true c, decide_eq_false (by omega : ¬ 1 ≤ x.f4), decide_eq_false d2]; rfl
    · rw [decide_eq_false c]; rfl
  refine Ev.step (fun k => by rw [impl_RecPhaseOk.j0]) ?_
  cases b with
  | true =>
    refine ev_pos rfl (Ev.bind e3 (ev_b (fun c => ?_) (fun c => ev_ret (by rw [if_pos rfl, c]; rfl))))
    rw [if_pos rfl]; exact tl _ c
  | false =>
    refine ev_neg (by simp) (ev_split (fun c => ?_) (fun c => ev_ret ?_))
    · rw [if_neg Bool.false_ne_true]; exact tl _ (decide_eq_true (ba_iff.1 c))
    · rw [if_neg Bool.false_ne_true, decide_eq_false (fun e => c (ba_iff.2 e))]; rfl
theorem implPhase_ev (x : S_impl_RecPhase) (z : SzR x) : Ev (fun k => impl_RecPhaseOk.f k x.f0 x.f1 x.f2 x.f3 x.f4 x.f5 x.f6 x.f7) (phaseB x) := by
  have J := fun m b => phaseJ_ev x z m b
  unfold impl_RecPhaseOk.f phaseB argsB
  refine Ev.bind (isName_ev _ z.n0) (ev_b (fun c0 => ?_) (fun c0 => ev_ret (by rw [c0]; rfl)))
  refine Ev.bind (implEnd_ev _) (ev_split (fun c1 => ?_) (fun c1 => ev_ret (by rw [decide_eq_false c1]; simp)))
  rw [c0, decide_eq_true c1]
  refine ev_split (fun c => ev_ret (by rw [inB_f (by omega : ¬ (1 ≤ x.f5 ∧ x.f5 ≤ 1000))]; rfl)) (fun c2 => ?_)
  refine ev_split (fun c => ev_ret (by rw [inB_f (by omega : ¬ (1 ≤ x.f5 ∧ x.f5 ≤ 1000))]; rfl)) (fun c3 => ?_)
  rw [inB_t (by omega : 1 ≤ x.f5 ∧ x.f5 ≤ 1000)]
  refine Ev.bind (isName_ev _ z.n2) (ev_b (fun c4 => ?_) (fun c4 => ev_ret (by rw [c4]; rfl)))
  refine Ev.bind (isName_ev _ z.n6) (ev_b (fun c5 => ?_) (fun c5 => ev_ret (by rw [c5]; simp)))
  refine Ev.bind (isName_ev _ z.n7) (ev_b (fun c6 => ?_) (fun c6 => ev_ret (by rw [c6]; simp)))
  rw [c4, c5, c6]
  simp only [Bool.and_true, Bool.true_and]
  refine ev_split (fun c => ?_) (fun c => ?_)
  · rw [if_pos c]
    refine ev_eq (J 1000 true) ?_
    rw [if_pos rfl]; congr 1
    rw [Bool.eq_iff_iff]; unfold inB; simp only [Bool.and_eq_true, Bool.or_eq_true, decide_eq_true_eq, true_and]; omega
  rw [if_neg c]
  refine ev_split (fun c => ?_) (fun c => ?_)
  · rw [if_pos c]
    refine ev_split (fun d => ev_ret (by rw [decide_eq_true (ba_iff.1 d)]; simp)) (fun d => ev_eq (J 1000 true) ?_)
    rw [if_pos rfl, decide_eq_false (fun e => d (ba_iff.2 e))]; congr 1
    rw [Bool.eq_iff_iff]; unfold inB; simp only [Bool.not_false, Bool.true_and, Bool.and_eq_true, Bool.or_eq_true, decide_eq_true_eq]; omega
  rw [if_neg c]
  refine ev_split (fun c => ?_) (fun c => ?_)
  · rw [if_pos c]
    refine ev_eq (J x.f5 false) ?_
    rw [if_neg Bool.false_ne_true]; congr 1
    rw [Bool.eq_iff_iff]; unfold inB; simp only [Bool.and_eq_true, Bool.or_eq_true, decide_eq_true_eq, true_and]; omega
  rw [if_neg c]
  refine ev_split (fun c => ?_) (fun c => ?_)
  · rw [if_pos (show x.f1 = 4 ∨ x.f1 = 5 from .inl c)]
    refine ev_eq (J 0 false) ?_
    rw [if_neg Bool.false_ne_true]; congr 1
    rw [Bool.eq_iff_iff]; simp only [Bool.and_eq_true, Bool.or_eq_true, decide_eq_true_eq, true_and]; omega
  refine ev_split (fun c2 => ?_) (fun c2 => ?_)
  · rw [if_pos (show x.f1 = 4 ∨ x.f1 = 5 from .inr c2)]
    refine ev_eq (J 0 false) ?_
    rw [if_neg Bool.false_ne_true]; congr 1
    rw [Bool.eq_iff_iff]; simp only [Bool.and_eq_true, Bool.or_eq_true, decide_eq_true_eq, true_and]; omega
  · rw [if_neg (show ¬ (x.f1 = 4 ∨ x.f1 = 5) by omega)]; exact ev_ret rfl
/-! ### phases of a recipe -/
def phIx (a : ByteArray) : List S_impl_RecPhase → Nat → Int
  | [], _ => -1
  | y :: r, i => if y.f0 = a then (i : Int) else phIx a r (i + 1)
theorem phIx_at (l : List S_impl_RecPhase) (a : ByteArray) : ∀ (r : List S_impl_RecPhase) (i : Nat), l.drop i = r → phIx a r i = -1 ∨ ∃ j : Nat, j < l.length ∧ i ≤ j ∧ phIx a r i = (j : Int) ∧ (l.getD j z_impl_RecPhase).f0 = a
  | [], _, _ => .inl rfl
  | y :: r, i, hd => by
    have hi : i < l.length := by
      refine Nat.lt_of_not_le fun hle => ?_
      rw [List.drop_eq_nil_iff.2 hle] at hd; cases hd
    have e := List.drop_eq_getElem_cons hi
    rw [hd] at e; injection e with e1 e2
    have hy : l.getD i z_impl_RecPhase = y := by rw [getD_eq _ l i hi]; exact e1.symm
    rw [show phIx a (y :: r) i = if y.f0 = a then (i : Int) else phIx a r (i + 1) from rfl]
    by_cases c : y.f0 = a
    · exact .inr ⟨i, hi, Nat.le_refl _, by rw [if_pos c], by rw [hy]; exact c⟩
    · rw [if_neg c]
      rcases phIx_at l a r (i + 1) e2.symm with h | ⟨j, h1, h2, h3, h4⟩
      · exact .inl h
      · exact .inr ⟨j, h1, by omega, h3, h4⟩
theorem l42At_ev (l : List S_impl_RecPhase) (a : ByteArray) (hl : l.length ≤ 140737488351232) : Ev (fun k => spec_l42At.f k l a) (phIx a l 0) := by
  unfold spec_l42At.f
  refine loopL z_impl_RecPhase l (P := fun i r => Ev (fun k => spec_l42At.l0 k l a (i : Int)) (phIx a r i))
    (by refine Ev.step (fun k => by rw [spec_l42At.l0]) ?_; exact ev_neg (by omega) (ev_ret rfl)) (fun i y r hi hx hm _ ih => ?_)
  refine Ev.step (fun k => by rw [spec_l42At.l0]) (ev_pos (by omega) (ev_pos (by omega) ?_))
  rw [wsucc hi (by omega), rdRP, hx]
  unfold phIx
  exact ev_split (fun c => ev_ret (by rw [if_pos (ba_iff.1 c)])) (fun c => ev_eq ih (by rw [if_neg (fun e => c (ba_iff.2 e))]))
theorem phase_ev (l : List S_impl_RecPhase) (a : ByteArray) (hl : l.length ≤ 140737488351232) : Ev (fun k => impl_phase.f k l a) (phIx a l 0) := by
  unfold impl_phase.f
  refine loopL z_impl_RecPhase l (P := fun i r => Ev (fun k => impl_phase.l0 k l a (i : Int)) (phIx a r i))
    (by refine Ev.step (fun k => by rw [impl_phase.l0]) ?_; exact ev_neg (by omega) (ev_ret rfl)) (fun i y r hi hx hm _ ih => ?_)
  refine Ev.step (fun k => by rw [impl_phase.l0]) (ev_pos (by omega) (ev_pos (by omega) ?_))
  rw [wsucc hi (by omega), rdRP, hx]
  unfold phIx
  exact ev_split (fun c => ev_ret (by rw [if_pos (ba_iff.1 c)])) (fun c => ev_eq ih (by rw [if_neg (fun e => c (ba_iff.2 e))]))
def onB (l : List S_impl_RecPhase) (i : Nat) (a : ByteArray) : Bool := !decide (endOf a = 0) || decide ((i : Int) < phIx a l 0)
def ownB (l : List S_impl_RecPhase) (i : Nat) (x : S_impl_RecPhase) : Bool := phaseB x && decide (phIx x.f0 l 0 = (i : Int))
def recA (l : List S_impl_RecPhase) : Nat → List S_impl_RecPhase → Bool
  | _, [] => true
  | i, x :: r => ownB l i x && recA l (i + 1) r
def recN (l : List S_impl_RecPhase) : Nat → List S_impl_RecPhase → Bool
  | _, [] => true
  | i, x :: r => (onB l i x.f6 && onB l i x.f7) && recN l (i + 1) r
def recB (l : List S_impl_RecPhase) : Bool := inB (l.length : Int) 1 12 && (recA l 0 l && recN l 0 l)
theorem and4 (a b c d : Bool) : ((a && b) && (c && d)) = ((a && c) && (b && d)) := by cases a <;> cases b <;> cases c <;> cases d <;> rfl
theorem specRec_ev (l : List S_impl_RecPhase) (hl : l.length ≤ 140737488351232) : Ev (fun k => spec_RecOk.f k l) (recB l) := by
  unfold spec_RecOk.f recB
  refine Ev.bind (l41In_ev _ _ _) (ev_b (fun c => ?_) (fun c => ev_ret (by rw [c]; rfl)))
  rw [c, Bool.true_and]
  refine loopL z_impl_RecPhase l (P := fun i r => Ev (fun k => spec_RecOk.l0 k l (i : Int)) (recA l i r && recN l i r))
    (by refine Ev.step (fun k => by rw [spec_RecOk.l0]) ?_; exact ev_neg (by omega) (ev_ret rfl)) (fun i x r hi hx hm _ ih => ?_)
  refine Ev.step (fun k => by rw [spec_RecOk.l0]) (ev_pos (by omega) (ev_pos (by omega) ?_))
  rw [wsucc hi (by omega), rdRP, hx, show recA l i (x :: r) = (ownB l i x && recA l (i + 1) r) from rfl, show recN l i (x :: r) = ((onB l i x.f6 && onB l i x.f7) && recN l (i + 1) r) from rfl, and4]
  generalize (recA l (i + 1) r && recN l (i + 1) r) = R at *
  have tl : Ev (fun k => (spec_RecEnd.f x.f7).bind fun t => if t = 0 then (spec_l42At.f k l x.f7).bind fun t => if t ≤ (i : Int) then some false else spec_RecOk.l0 k l ((i + 1 : Nat) : Int) else spec_RecOk.l0 k l ((i + 1 : Nat) : Int)) (onB l i x.f7 && R) := by
    unfold onB
    refine Ev.bind (specEnd_ev _) (ev_split (fun d => Ev.bind (l42At_ev l x.f7 hl) (ev_split (fun d2 => ev_ret ?_) (fun d2 => ev_eq ih ?_))) (fun d => ev_eq ih ?_))
    · rw [decide_eq_true d, decide_eq_false (by omega : ¬ (i : Int) < phIx x.f7 l 0)]; rfl
    · rw [decide_eq_true (by omega : (i : Int) < phIx x.f7 l 0)]; simp
    · rw [decide_eq_false d]; rfl
  unfold ownB
  rw [show onB l i x.f6 = (!decide (endOf x.f6 = 0) || decide ((i : Int) < phIx x.f6 l 0)) from rfl]
  refine Ev.bind (specPhase_ev x) (ev_b (fun c1 => ?_) (fun c1 => ev_ret (by rw [c1]; rfl)))
  refine Ev.bind (l42At_ev l x.f0 hl) (ev_split (fun c2 => ?_) (fun c2 => ev_ret (by rw [decide_eq_false c2]; simp)))
  rw [c1, decide_eq_true c2]
  refine Ev.bind (specEnd_ev _) (ev_split (fun d => Ev.bind (l42At_ev l x.f6 hl) (ev_split (fun d2 => ev_ret ?_) (fun d2 => ev_eq tl ?_))) (fun d => ev_eq tl ?_))
  · rw [decide_eq_true d, decide_eq_false (by omega : ¬ (i : Int) < phIx x.f6 l 0)]; rfl
  · rw [decide_eq_true (by omega : (i : Int) < phIx x.f6 l 0)]; simp
  · rw [decide_eq_false d]; rfl
theorem implRec_ev (l : List S_impl_RecPhase) (hl : l.length ≤ 140737488351232) (hz : ∀ x ∈ l, SzR x) : Ev (fun k => impl_RecOk.f k l) (recB l) := by
  unfold impl_RecOk.f recB
  refine ev_split (fun c => ev_ret (by rw [inB_f (by omega)]; rfl)) (fun c1 => ev_split (fun c => ev_ret (by rw [inB_f (by omega)]; rfl)) (fun c2 => ?_))
  rw [inB_t (by omega), Bool.true_and]
  have L1 : Ev (fun k => impl_RecOk.l1 k l 0) (recN l 0 l) := by
    refine loopL z_impl_RecPhase l (P := fun i r => Ev (fun k => impl_RecOk.l1 k l (i : Int)) (recN l i r))
      (by refine Ev.step (fun k => by rw [impl_RecOk.l1]) ?_; exact ev_neg (by omega) (ev_ret rfl)) (fun i x r hi hx hm _ ih => ?_)
    refine Ev.step (fun k => by rw [impl_RecOk.l1]) (ev_pos (by omega) (ev_pos (by omega) ?_))
    rw [rdRP, hx, show recN l i (x :: r) = ((onB l i x.f6 && onB l i x.f7) && recN l (i + 1) r) from rfl]
    generalize recN l (i + 1) r = R at *
    have q2 : Ev (fun k => impl_RecOk.l2 k l (i : Int) [x.f6, x.f7] 2) R := by
      refine Ev.step (fun k => by rw [impl_RecOk.l2]) ?_
      rw [wsucc hi (by omega)]
      exact ev_neg (by omega) ih
    have w1 : wrap64 (1 + 1) = 2 := by unfold wrap64; omega
    have w0 : wrap64 (0 + 1) = 1 := by unfold wrap64; omega
    have q1 : Ev (fun k => impl_RecOk.l2 k l (i : Int) [x.f6, x.f7] 1) (onB l i x.f7 && R) := by
      refine Ev.step (fun k => by rw [impl_RecOk.l2]) (ev_pos (by omega) (ev_pos (by omega) (ev_pos (by simp) ?_)))
      rw [w1, show rdOf ByteArray.empty [x.f6, x.f7] 1 = x.f7 from rfl]
      unfold onB
      refine Ev.bind (implEnd_ev _) (ev_split (fun d => Ev.bind (phase_ev l x.f7 hl) (ev_split (fun d2 => ev_ret ?_) (fun d2 => ev_eq q2 ?_))) (fun d => ev_eq q2 ?_))
      · rw [decide_eq_true d, decide_eq_false (by omega : ¬ (i : Int) < phIx x.f7 l 0)]; rfl
      · rw [decide_eq_true (by omega : (i : Int) < phIx x.f7 l 0)]; simp
      · rw [decide_eq_false d]; rfl
    refine Ev.step (fun k => by rw [impl_RecOk.l2]) (ev_pos (by omega) (ev_pos (by omega) (ev_pos (by simp) ?_)))
    rw [w0, show rdOf ByteArray.empty [x.f6, x.f7] 0 = x.f6 from rfl, show onB l i x.f6 = (!decide (endOf x.f6 = 0) || decide ((i : Int) < phIx x.f6 l 0)) from rfl]
    refine Ev.bind (implEnd_ev _) (ev_split (fun d => Ev.bind (phase_ev l x.f6 hl) (ev_split (fun d2 => ev_ret ?_) (fun d2 => ev_eq q1 ?_))) (fun d => ev_eq q1 ?_))
    · rw [decide_eq_true d, decide_eq_false (by omega : ¬ (i : Int) < phIx x.f6 l 0)]; rfl
    · rw [decide_eq_true (by omega : (i : Int) < phIx x.f6 l 0)]; simp
    · rw [decide_eq_false d]; rfl
  generalize recN l 0 l = N at *
  refine loopL z_impl_RecPhase l (P := fun i r => Ev (fun k => impl_RecOk.l0 k l (i : Int)) (recA l i r && N))
    (by refine Ev.step (fun k => by rw [impl_RecOk.l0]) ?_; exact ev_neg (by omega) (ev_eq L1 rfl)) (fun i x r hi hx hm _ ih => ?_)
  refine Ev.step (fun k => by rw [impl_RecOk.l0]) (ev_pos (by omega) (ev_pos (by omega) ?_))
  rw [wsucc hi (by omega), rdRP, hx, show recA l i (x :: r) = (ownB l i x && recA l (i + 1) r) from rfl]
  unfold ownB
  refine Ev.bind (implPhase_ev x (hz x hm)) (ev_b (fun c3 => ?_) (fun c3 => ev_ret (by rw [c3]; rfl)))
  refine Ev.bind (phase_ev l x.f0 hl) (ev_split (fun c4 => ev_eq ih ?_) (fun c4 => ev_ret (by rw [decide_eq_false c4]; simp)))
  rw [c3, decide_eq_true c4]; rfl
/-! ### lists without doubles -/
theorem nodup_len : ∀ (l m : List ByteArray), l.Nodup → l ⊆ m → l.length ≤ m.length
  | [], m, _, _ => Nat.zero_le _
  | x :: l, m, h, hs => by
    obtain ⟨h1, h2⟩ := List.nodup_cons.1 h
    obtain ⟨s, r, rfl⟩ := List.append_of_mem (hs (List.mem_cons_self ..))
    have := nodup_len l (s ++ r) h2 (fun z hz => by
      have hz2 := hs (List.mem_cons_of_mem _ hz)
      rcases List.mem_append.1 hz2 with q | q
      · exact List.mem_append_left _ q
      · rcases List.mem_cons.1 q with q | q
        · rw [q] at hz; exact absurd hz h1
        · exact List.mem_append_right _ q)
    rw [List.length_append] at this
    rw [List.length_append, List.length_cons, List.length_cons]; omega
/-! ### what comes behind a phase -/
/-- what comes behind a phase -/
theorem next_ok {l : List S_impl_RecPhase} (h : recB l = true) {j : Nat} (hj : j < l.length) : ∀ a, a = (l.getD j z_impl_RecPhase).f6 ∨ a = (l.getD j z_impl_RecPhase).f7 → phIx a l 0 < 0 ∨ (j : Int) < phIx a l 0 := by
  unfold recB at h
  simp only [Bool.and_eq_true] at h
  have keyN : ∀ (r : List S_impl_RecPhase) (i : Nat), l.drop i = r → recN l i r = true → ∀ t, i ≤ t → t < l.length → onB l t (l.getD t z_impl_RecPhase).f6 = true ∧ onB l t (l.getD t z_impl_RecPhase).f7 = true := fun r => by
    induction r with
    | nil => intro i hd _ t h1 h2; have := List.drop_eq_nil_iff.1 hd; omega
    | cons x r ih =>
      intro i hd hr t h1 h2
      have hi : i < l.length := by
        refine Nat.lt_of_not_le fun hle => ?_
        rw [List.drop_eq_nil_iff.2 hle] at hd; cases hd
      have e := List.drop_eq_getElem_cons hi
      rw [hd] at e; injection e with e1 e2
      rw [show recN l i (x :: r) = ((onB l i x.f6 && onB l i x.f7) && recN l (i + 1) r) from rfl, Bool.and_eq_true, Bool.and_eq_true] at hr
      by_cases c : t = i
      · subst c
        rw [getD_eq _ l t hi, ← e1]; exact hr.1
      · exact ih (i + 1) e2.symm hr.2 t (by omega) h2
  have keyA : ∀ (r : List S_impl_RecPhase) (i : Nat), l.drop i = r → recA l i r = true → ∀ t, i ≤ t → t < l.length → phaseB (l.getD t z_impl_RecPhase) = true := fun r => by
    induction r with
    | nil => intro i hd _ t h1 h2; have := List.drop_eq_nil_iff.1 hd; omega
    | cons x r ih =>
      intro i hd hr t h1 h2
      have hi : i < l.length := by
        refine Nat.lt_of_not_le fun hle => ?_
        rw [List.drop_eq_nil_iff.2 hle] at hd; cases hd
      have e := List.drop_eq_getElem_cons hi
      rw [hd] at e; injection e with e1 e2
      rw [show recA l i (x :: r) = (ownB l i x && recA l (i + 1) r) from rfl, Bool.and_eq_true] at hr
      by_cases c : t = i
      · subst c
        rw [getD_eq _ l t hi, ← e1]
        have := hr.1
        unfold ownB at this
        rw [Bool.and_eq_true] at this
        exact this.1
      · exact ih (i + 1) e2.symm hr.2 t (by omega) h2
  obtain ⟨n6, n7⟩ := keyN l 0 rfl h.2.2 j (Nat.zero_le _) hj
  have fin : ∀ a, onB l j a = true → phIx a l 0 < 0 ∨ (j : Int) < phIx a l 0 := fun a ha => by
    unfold onB at ha
    rw [Bool.or_eq_true] at ha
    rcases ha with ha | ha
    · left
      rcases phIx_at l a l 0 rfl with e | ⟨t, t1, _, t3, t4⟩
      · rw [e]; omega
      · have := keyA l 0 rfl h.2.1 t (Nat.zero_le _) t1
        unfold phaseB at this
        simp only [Bool.and_eq_true, decide_eq_true_eq] at this
        rw [t4] at this
        rw [decide_eq_true this.1.2] at ha; cases ha
    · exact .inr (of_decide_eq_true ha)
  rintro a (rfl | rfl)
  · exact fin _ n6
  · exact fin _ n7
/-! ### the slots of a recipe -/
def ofP (x : S_impl_RecPhase) : List ByteArray := if x.f1 = 2 then insertL x.f3 [x.f2] else [x.f2]
def slotsN (l : List S_impl_RecPhase) : Nat → ByteArray → List ByteArray
  | 0, _ => []
  | n + 1, a => if phIx a l 0 < 0 then [] else setW (setW (ofP (l.getD (phIx a l 0).toNat z_impl_RecPhase)) (slotsN l n (l.getD (phIx a l 0).toNat z_impl_RecPhase).f6)) (slotsN l n (l.getD (phIx a l 0).toNat z_impl_RecPhase).f7)
def pool (l : List S_impl_RecPhase) : List ByteArray := l.map (·.f2) ++ l.map (·.f3)
theorem ofP_ok (l : List S_impl_RecPhase) (x : S_impl_RecPhase) (hx : x ∈ l) : SortedL (ofP x) ∧ ∀ z ∈ ofP x, z ∈ pool l := by
  have h2 : x.f2 ∈ pool l := List.mem_append_left _ (List.mem_map.2 ⟨x, hx, rfl⟩)
  have h3 : x.f3 ∈ pool l := List.mem_append_right _ (List.mem_map.2 ⟨x, hx, rfl⟩)
  unfold ofP
  split
  · refine ⟨insertL_sorted _ _ (List.pairwise_singleton _ _), fun z hz => ?_⟩
    rcases (insertL_mem _ _ _).1 hz with rfl | hz
    · exact h3
    · rw [List.mem_singleton] at hz; subst hz; exact h2
  · exact ⟨List.pairwise_singleton _ _, fun z hz => by rw [List.mem_singleton] at hz; subst hz; exact h2⟩
theorem slots_ok (l : List S_impl_RecPhase) : ∀ (n : Nat) (a : ByteArray), SortedL (slotsN l n a) ∧ ∀ z ∈ slotsN l n a, z ∈ pool l
  | 0, _ => ⟨sorted_nil, fun z hz => (by cases hz)⟩
  | n + 1, a => by
    unfold slotsN
    split
    · exact ⟨sorted_nil, fun z hz => (by cases hz)⟩
    · rename_i c
      rcases phIx_at l a l 0 rfl with e | ⟨j, h1, _, h3, _⟩
      · rw [e] at c; omega
      · rw [h3, Int.toNat_natCast]
        obtain ⟨p1, p2⟩ := ofP_ok l _ (mem_getD z_impl_RecPhase l j h1)
        obtain ⟨q1, q2⟩ := slots_ok l n (l.getD j z_impl_RecPhase).f6
        obtain ⟨r1, r2⟩ := slots_ok l n (l.getD j z_impl_RecPhase).f7
        refine ⟨setW_sorted _ _ (setW_sorted _ _ p1), fun z hz => ?_⟩
        rcases (setW_mem z _ _).1 hz with hz | hz
        · rcases (setW_mem z _ _).1 hz with hz | hz
          · exact p2 z hz
          · exact q2 z hz
        · exact r2 z hz
theorem pool_len (l : List S_impl_RecPhase) {m : List ByteArray} (h1 : SortedL m) (h2 : ∀ z ∈ m, z ∈ pool l) : m.length ≤ 2 * l.length := by
  have := nodup_len m (pool l) (sorted_nodup h1) h2
  unfold pool at this
  rw [List.length_append, List.length_map, List.length_map] at this
  omega
theorem l42Both_ev (P : List ByteArray) (hP : P.length ≤ 1000) (a b : List ByteArray) (hb : b.length ≤ 1000) (ha : SortedL a) (h1 : ∀ z ∈ a, z ∈ P) (h2 : ∀ z ∈ b, z ∈ P) : Ev (fun k => spec_l42Both.f k a b) (setW a b) := by
  unfold spec_l42Both.f
  have key := loopL ByteArray.empty b (P := fun i r => ∀ c : List ByteArray, SortedL c → (∀ z ∈ c, z ∈ P) → Ev (fun k => spec_l42Both.l0 k a b c (i : Int)) (setW c r))
    (fun c _ _ => by refine Ev.step (fun k => by rw [spec_l42Both.l0]) ?_; exact ev_neg (by omega) (ev_ret rfl)) (fun i y r hi hy hm _ ih c hc hcP => ?_)
  · exact key a ha h1
  refine Ev.step (fun k => by rw [spec_l42Both.l0]) (ev_pos (by omega) (ev_pos (by omega) ?_))
  rw [wsucc hi (by omega), rdOf_nat, hy]
  have := nodup_len c P (sorted_nodup hc) hcP
  refine Ev.bind (l42Insert_ev c y (by omega)) (ih _ (insertL_sorted _ _ hc) (fun z hz => ?_))
  rcases (insertL_mem _ _ _).1 hz with rfl | hz
  · exact h2 _ hm
  · exact hcP z hz
theorem l42Of_ev (x : S_impl_RecPhase) : Ev (fun k => spec_l42Of.f k x.f0 x.f1 x.f2 x.f3 x.f4 x.f5 x.f6 x.f7) (ofP x) := by
  unfold spec_l42Of.f ofP
  refine ev_split (fun c => ?_) (fun c => ev_ret (by rw [if_neg c]))
  rw [if_pos c]
  exact Ev.bind (l42Insert_ev [x.f2] x.f3 (by simp)) (ev_ret rfl)
theorem slotsP_ev (x : S_impl_RecPhase) : Ev (fun k => impl_RecPhase_slots.f k x.f0 x.f1 x.f2 x.f3 x.f4 x.f5 x.f6 x.f7) (ofP x) := by
  unfold impl_RecPhase_slots.f ofP
  refine ev_split (fun c => ?_) (fun c => ev_ret (by rw [if_neg c]))
  rw [if_pos c]
  exact Ev.bind (setW_ev [] [x.f2, x.f3] sorted_nil (by simp)) (ev_ret rfl)
theorem specSlots_ev {l : List S_impl_RecPhase} (h : recB l = true) (hl : l.length ≤ 12) : ∀ (n : Nat) (a : ByteArray), phIx a l 0 < 0 ∨ (l.length : Int) ≤ n + phIx a l 0 → Ev (fun k => spec_l42Slots.f k l a) (slotsN l n a)
  | n, a, hn => by
    have eA := l42At_ev l a (by omega)
    refine Ev.step (fun k => by rw [spec_l42Slots.f]) (Ev.bind eA ?_)
    rcases phIx_at l a l 0 rfl with e | ⟨j, j1, _, j3, j4⟩
    · rw [e]
      refine ev_pos (by omega) (ev_ret ?_)
      cases n with
      | zero => rfl
      | succ n => unfold slotsN; rw [if_pos (by omega)]
    · rw [j3] at hn ⊢
      refine ev_neg (by omega) (ev_pos (by omega) (ev_pos (by omega) ?_))
      cases n with
      | zero => exfalso; omega
      | succ n =>
        rw [rdRP]
        have hx := next_ok h j1
        have e6 := specSlots_ev h hl n (l.getD j z_impl_RecPhase).f6 (by have := hx _ (.inl rfl); omega)
        have e7 := specSlots_ev h hl n (l.getD j z_impl_RecPhase).f7 (by have := hx _ (.inr rfl); omega)
        unfold slotsN
        rw [j3, if_neg (by omega : ¬ (j : Int) < 0), Int.toNat_natCast]
        obtain ⟨p1, p2⟩ := ofP_ok l _ (mem_getD z_impl_RecPhase l j j1)
        have eO := l42Of_ev (l.getD j z_impl_RecPhase)
        generalize l.getD j z_impl_RecPhase = x at *
        obtain ⟨q1, q2⟩ := slots_ok l n x.f6
        obtain ⟨r1, r2⟩ := slots_ok l n x.f7
        have hpl : (pool l).length ≤ 1000 := by unfold pool; rw [List.length_append, List.length_map, List.length_map]; omega
        have ql := pool_len l q1 q2
        have rl := pool_len l r1 r2
        have b1 := l42Both_ev (pool l) hpl (ofP x) (slotsN l n x.f6) (by omega) p1 p2 q2
        have s1 := setW_sorted (slotsN l n x.f6) _ p1
        have s2 : ∀ z ∈ setW (ofP x) (slotsN l n x.f6), z ∈ pool l := fun z hz => by
          rcases (setW_mem z _ _).1 hz with hz | hz
          · exact p2 z hz
          · exact q2 z hz
        have b2 := l42Both_ev (pool l) hpl _ (slotsN l n x.f7) (by omega) s1 s2 r2
        exact Ev.bind eO (Ev.bind e6 (Ev.bind b1 (Ev.bind e7 (Ev.bind b2 (ev_ret rfl)))))
theorem implSlots_ev {l : List S_impl_RecPhase} (h : recB l = true) (hl : l.length ≤ 12) : ∀ (n : Nat) (a : ByteArray), phIx a l 0 < 0 ∨ (l.length : Int) ≤ n + phIx a l 0 → Ev (fun k => impl_slotsOf.f k l a) (slotsN l n a)
  | n, a, hn => by
    have eA := phase_ev l a (by omega)
    refine Ev.step (fun k => by rw [impl_slotsOf.f]) (Ev.bind eA ?_)
    rcases phIx_at l a l 0 rfl with e | ⟨j, j1, _, j3, j4⟩
    · rw [e]
      refine ev_pos (by omega) (ev_ret ?_)
      cases n with
      | zero => rfl
      | succ n => unfold slotsN; rw [if_pos (by omega)]
    · rw [j3] at hn ⊢
      refine ev_neg (by omega) (ev_pos (by omega) (ev_pos (by omega) ?_))
      cases n with
      | zero => exfalso; omega
      | succ n =>
        rw [rdRP]
        have hx := next_ok h j1
        have e6 := implSlots_ev h hl n (l.getD j z_impl_RecPhase).f6 (by have := hx _ (.inl rfl); omega)
        have e7 := implSlots_ev h hl n (l.getD j z_impl_RecPhase).f7 (by have := hx _ (.inr rfl); omega)
        unfold slotsN
        rw [j3, if_neg (by omega : ¬ (j : Int) < 0), Int.toNat_natCast]
        obtain ⟨p1, p2⟩ := ofP_ok l _ (mem_getD z_impl_RecPhase l j j1)
        have eO := slotsP_ev (l.getD j z_impl_RecPhase)
        generalize l.getD j z_impl_RecPhase = x at *
        obtain ⟨q1, q2⟩ := slots_ok l n x.f6
        obtain ⟨r1, r2⟩ := slots_ok l n x.f7
        have pl := pool_len l p1 p2
        have ql := pool_len l q1 q2
        have rl := pool_len l r1 r2
        have b1 := setW_ev (ofP x) (slotsN l n x.f6) p1 (by omega)
        have s1 := setW_sorted (slotsN l n x.f6) _ p1
        have sl := setW_len (slotsN l n x.f6) (ofP x)
        have b2 := setW_ev (setW (ofP x) (slotsN l n x.f6)) (slotsN l n x.f7) s1 (by omega)
        exact Ev.bind eO (Ev.bind e6 (Ev.bind b1 (Ev.bind e7 (Ev.bind b2 (ev_ret rfl)))))
/-! ### numbers, written -/
def decD (u : Nat) : List UInt8 := if h : u < 10 then [UInt8.ofNat (48 + u)] else decD (u / 10) ++ [UInt8.ofNat (48 + u % 10)]
termination_by u
decreasing_by omega
theorem dec_small {n : Nat} (h : n < 10) : decD n = [UInt8.ofNat (48 + n)] := by rw [decD, dif_pos h]
theorem dec_big {n : Nat} (h : ¬ n < 10) : decD n = decD (n / 10) ++ [UInt8.ofNat (48 + n % 10)] := by rw [decD, dif_neg h]
theorem dec_len : ∀ (m n : Nat), n ≤ m → (decD n).length ≤ n + 1
  | m, n, h => by
    by_cases c : n < 10
    · rw [dec_small c]; simp
    · rw [dec_big c]
      have := dec_len (n / 10) (n / 10) (Nat.le_refl _)
      simp; omega
termination_by m n => n
decreasing_by omega
def decB (n : Int) : ByteArray := ⟨(decD n.toNat).toArray⟩
theorem decB_size {n : Int} (h0 : 0 ≤ n) (h : n ≤ 10000) : (decB n).size ≤ 10001 := by
  have := dec_len n.toNat n.toNat (Nat.le_refl _)
  show (decD n.toNat).toArray.size ≤ 10001
  rw [List.size_toArray]; omega
theorem dig (d : Int) (h0 : 0 ≤ d) (h1 : d < 10) : UInt8.ofNat (IntKind.wrap .u8 (wrap64 (48 + d))).toNat = UInt8.ofNat (48 + d.toNat) := by
  have : d = 0 ∨ d = 1 ∨ d = 2 ∨ d = 3 ∨ d = 4 ∨ d = 5 ∨ d = 6 ∨ d = 7 ∨ d = 8 ∨ d = 9 := by omega
  rcases this with rfl | rfl | rfl | rfl | rfl | rfl | rfl | rfl | rfl | rfl <;> decide +kernel
theorem ba_app (a b : List UInt8) : (⟨a.toArray⟩ : ByteArray) ++ ⟨b.toArray⟩ = ⟨(a ++ b).toArray⟩ := by
  apply ByteArray.ext
  simp [ByteArray.data_append]
theorem l43Dec_ev : ∀ (m : Nat) (n : Int), 0 ≤ n → n ≤ 10000 → n.toNat ≤ m → Ev (fun k => spec_l43Dec.f k n) (decB n)
  | m, n, h0, h1, hm => by
    refine Ev.step (fun k => by rw [spec_l43Dec.f]) ?_
    by_cases c : n < 10
    · refine ev_pos c (ev_ret ?_)
      unfold decB
      rw [dec_small (by omega), dig n h0 c]
    · have e1 : wrap64 (Int.tdiv n 10) = n / 10 := by rw [Int.tdiv_eq_ediv_of_nonneg h0]; exact w64 (by omega) (by omega)
      have e2 : Int.tmod n 10 = n % 10 := Int.tmod_eq_emod_of_nonneg h0
      rw [e1, e2, dig (n % 10) (by omega) (by omega)]
      have hs := decB_size (n := n / 10) (by omega) (by omega)
      refine ev_neg c (Ev.bind (l43Dec_ev (n / 10).toNat (n / 10) (by omega) (by omega) (Nat.le_refl _)) (ev_pos ?_ (ev_ret ?_)))
      · have : (⟨#[UInt8.ofNat (48 + (n % 10).toNat)]⟩ : ByteArray).size = 1 := rfl
        rw [this]; omega
      · unfold decB
        rw [dec_big (n := n.toNat) (by omega), show (n / 10).toNat = n.toNat / 10 by omega, show (n % 10).toNat = n.toNat % 10 by omega]
        exact ba_app _ _
termination_by m n => n.toNat
decreasing_by omega
/-! ### numbers drawn -/
theorem xorI_nat (a b : Nat) (ha : a < 2 ^ 62) (hb : b < 2 ^ 62) : xorI .i64 (a : Int) (b : Int) = ((a ^^^ b : Nat) : Int) := by
  have hx : a ^^^ b < 2 ^ 62 := Nat.xor_lt_two_pow ha hb
  have ha' : a % 2 ^ IntKind.i64.bits = a := Nat.mod_eq_of_lt (Nat.lt_trans ha (by decide))
  have hb' : b % 2 ^ IntKind.i64.bits = b := Nat.mod_eq_of_lt (Nat.lt_trans hb (by decide))
  have e : xorI .i64 (a : Int) (b : Int) = IntKind.i64.wrap ((a ^^^ b : Nat) : Int) := by
    simp only [xorI, BitVec.ofInt_natCast, BitVec.toNat_xor, BitVec.toNat_ofNat, ha', hb']
  rw [e, IntKind.wrap_i64]
  generalize a ^^^ b = n at hx ⊢
  have : (2 : Nat) ^ 62 = 4611686018427387904 := by decide
  omega
theorem xorI_range {a b : Int} (h0 : 0 ≤ a) (h1 : a ≤ 1000000000000000) (h2 : 0 ≤ b) (h3 : b ≤ 1000000000000000) : 0 ≤ xorI .i64 a b := by
  obtain ⟨m, rfl⟩ : ∃ m : Nat, a = (m : Int) := ⟨a.toNat, by omega⟩
  obtain ⟨n, rfl⟩ : ∃ n : Nat, b = (n : Int) := ⟨b.toNat, by omega⟩
  rw [xorI_nat m n (by have : (2 : Nat) ^ 62 = 4611686018427387904 := by decide
                       omega) (by have : (2 : Nat) ^ 62 = 4611686018427387904 := by decide
                                  omega)]
  omega
structure Bytes (b : List Int) : Prop where
  len : b.length ≤ 2000
  byte : ∀ i, i < b.length → 0 ≤ b.getD i 0 ∧ b.getD i 0 ≤ 255
theorem Bytes.rd {b : List Int} (h : Bytes b) (i : Int) (h0 : 0 ≤ i) (h1 : i < b.length) : 0 ≤ rd b i ∧ rd b i ≤ 255 := by
  obtain ⟨n, rfl⟩ : ∃ n : Nat, i = (n : Int) := ⟨i.toNat, by omega⟩
  rw [rd_nat]
  exact h.byte n (by omega)
theorem pick_ok {b : List Int} (hb : Bytes b) (p n : Int) (hp : 0 ≤ p) (hp1 : p ≤ 1000000000) (hn : n ≤ 1000000000) :
    ∃ v, (0 ≤ v ∧ (1 ≤ n → v < n) ∧ (n < 1 → v = 0)) ∧ spec_l41Rd_pick.f b p n = some (v, b, p + 1) := by
  unfold spec_l41Rd_pick.f
  have hw : wrap64 (wrap64 (p + 1) - 1) = p := by rw [w64 (x := p + 1) (by omega) (by omega), w64 (by omega) (by omega)]; omega
  rw [hw, w64 (x := p + 1) (by omega) (by omega)]
  by_cases c : n < 1
  · exact ⟨0, ⟨by omega, by omega, by omega⟩, by rw [if_pos c]⟩
  by_cases e : (b.length : Int) = 0
  · exact ⟨0, ⟨by omega, by omega, by omega⟩, by rw [if_neg c, if_pos e]⟩
  have hl := hb.len
  have fin : ∀ x : Int, 0 ≤ x → (0 ≤ Int.tmod x n ∧ (1 ≤ n → Int.tmod x n < n) ∧ (n < 1 → Int.tmod x n = 0)) := fun x hx => by
    rw [Int.tmod_eq_emod_of_nonneg hx]
    exact ⟨Int.emod_nonneg _ (by omega), fun _ => Int.emod_lt_of_pos _ (by omega), fun q => by omega⟩
  rw [if_neg c, if_neg e]
  by_cases q : p < (b.length : Int)
  · have hr := hb.rd p hp q
    exact ⟨_, fin (wrap64 (rd b p)) (by rw [w64 (by omega) (by omega)]; omega), by rw [if_pos q, if_pos hp, if_pos (by omega)]⟩
  have h7 : wrap64 (wrap64 (p * 7) + 3) = p * 7 + 3 := by rw [w64 (x := p * 7) (by omega) (by omega), w64 (by omega) (by omega)]
  have m1 : Int.tmod p (b.length : Int) = p % (b.length : Int) := Int.tmod_eq_emod_of_nonneg hp
  have m2 : Int.tmod (p * 7 + 3) (b.length : Int) = (p * 7 + 3) % (b.length : Int) := Int.tmod_eq_emod_of_nonneg (by omega)
  have d1 : Int.tdiv p (b.length : Int) = p / (b.length : Int) := Int.tdiv_eq_ediv_of_nonneg hp
  have r1 := Int.emod_nonneg p e
  have r2 := Int.emod_lt_of_pos p (show (0 : Int) < (b.length : Int) by omega)
  have r3 := Int.emod_nonneg (p * 7 + 3) e
  have r4 := Int.emod_lt_of_pos (p * 7 + 3) (show (0 : Int) < (b.length : Int) by omega)
  have v1 := hb.rd _ r1 r2
  have v2 := hb.rd _ r3 r4
  have dv0 : 0 ≤ p / (b.length : Int) := Int.ediv_nonneg hp (by omega)
  have dv1 : p / (b.length : Int) ≤ p := Int.ediv_le_self _ hp
  rw [h7, m1, m2, d1, if_neg q, if_pos e, if_pos r1, if_pos r2, if_pos r3, if_pos r4, if_pos (show n ≠ 0 by omega)]
  generalize rd b (p % (b.length : Int)) = u1 at *
  generalize rd b ((p * 7 + 3) % (b.length : Int)) = u2 at *
  generalize p / (b.length : Int) = u3 at *
  rw [w64 (x := u1) (by omega) (by omega), w64 (x := u2) (by omega) (by omega), w64 (x := u1 * 131) (by omega) (by omega), w64 (x := u2 * 1117) (by omega) (by omega), w64 (x := u1 * 131 + u2 * 1117) (by omega) (by omega), w64 (x := p * 29) (by omega) (by omega),
    w64 (x := u1 * 131 + u2 * 1117 + p * 29) (by omega) (by omega), w64 (x := u3) (by omega) (by omega), w64 (x := u3 * 53) (by omega) (by omega), w64 (x := u1 * 131 + u2 * 1117 + p * 29 + u3 * 53) (by omega) (by omega)]
  obtain ⟨x, hx⟩ : ∃ x, u1 * 131 + u2 * 1117 + p * 29 + u3 * 53 = x := ⟨_, rfl⟩
  rw [hx]
  have x0 : 0 ≤ x := by omega
  have x1 : x ≤ 1000000000000 := by omega
  have y0 : 0 ≤ Int.tdiv x 64 ∧ Int.tdiv x 64 ≤ x := by rw [Int.tdiv_eq_ediv_of_nonneg x0]; exact ⟨Int.ediv_nonneg x0 (by omega), Int.ediv_le_self _ x0⟩
  rw [w64 (x := Int.tdiv x 64) (by omega) (by omega)]
  exact ⟨_, fin _ (xorI_range x0 (by omega) y0.1 (by omega)), rfl⟩
theorem of_ok {b : List Int} (hb : Bytes b) (p : Int) (hp : 0 ≤ p) (hp1 : p ≤ 1000000000) (l : List ByteArray) (h1 : 1 ≤ l.length) (h2 : l.length ≤ 1000000) : ∃ s ∈ l, spec_l41Rd_of.f b p l = some (s, b, p + 1) := by
  unfold spec_l41Rd_of.f
  obtain ⟨v, ⟨v0, v1, _⟩, e⟩ := pick_ok hb p (l.length : Int) hp hp1 (by omega)
  have v1 := v1 (by omega)
  obtain ⟨n, rfl⟩ : ∃ n : Nat, v = (n : Int) := ⟨v.toNat, by omega⟩
  refine ⟨l.getD n ByteArray.empty, mem_getD _ _ _ (by omega), ?_⟩
  rw [e]
  simp only [Option.bind_some]
  rw [if_pos v0, if_pos v1, rdOf_nat]
theorem open_ok (l : List Int) (h : ∀ x ∈ l, 0 ≤ x ∧ x ≤ 255) : ∃ b, Bytes b ∧ spec_l41Open.f l = some (b, 0) := by
  unfold spec_l41Open.f
  by_cases c : (l.length : Int) > 2000
  · refine ⟨l.take 2000, ⟨by simp; omega, fun i hi => ?_⟩, by rw [if_pos c, if_pos (by omega)]; rfl⟩
    exact h _ (List.mem_of_mem_take (mem_getD 0 _ i hi))
  · exact ⟨l, ⟨by omega, fun i hi => h _ (mem_getD 0 _ i hi)⟩, by rw [if_neg c]⟩
theorem bytes_of {l : List Int} (h : ∀ x ∈ l, (Lit.int .u8 x).wf = true) : ∀ x ∈ l, 0 ≤ x ∧ x ≤ 255 := fun x hx => by
  have := h x hx
  simpa [Lit.wf, IntKind.min, IntKind.max, IntKind.signed, IntKind.bits] using this
/-! ### answers that are there -/
/-- there is an answer, and it is so -/
def ExP {α : Type} (g : Nat → Option α) (Q : α → Prop) : Prop := ∃ q, Ev g q ∧ Q q
theorem exp_ret {α : Type} {a : α} {Q : α → Prop} (h : Q a) : ExP (fun _ => some a) Q := ⟨a, Ev.now a, h⟩
theorem exp_let {α β : Type} {g : Option α} {a : α} {f : Nat → α → Option β} {Q : β → Prop} (h : g = some a) (k : ExP (fun n => f n a) Q) : ExP (fun n => g.bind (f n)) Q := by subst h; exact k
theorem exp_bind {α β : Type} {g : Nat → Option α} {f : Nat → α → Option β} {R : α → Prop} {Q : β → Prop} (h : ExP g R) (k : ∀ a, R a → ExP (fun n => f n a) Q) : ExP (fun n => (g n).bind (f n)) Q := by
  obtain ⟨a, h1, h2⟩ := h
  obtain ⟨q, e, hq⟩ := k a h2
  exact ⟨q, Ev.bind h1 e, hq⟩
theorem exp_ite {α : Type} {c : Prop} {d : Decidable c} {g f : Nat → Option α} {Q : α → Prop} (h : c → ExP g Q) (k : ¬ c → ExP f Q) : ExP (fun n => @ite _ c d (g n) (f n)) Q := by
  by_cases q : c
  · exact (h q).imp fun _ e => ⟨ev_pos q e.1, e.2⟩
  · exact (k q).imp fun _ e => ⟨ev_neg q e.1, e.2⟩
theorem exp_pos {α : Type} {c : Prop} {d : Decidable c} {g f : Nat → Option α} {Q : α → Prop} (h : c) (k : ExP g Q) : ExP (fun n => @ite _ c d (g n) (f n)) Q := k.imp fun _ e => ⟨ev_pos h e.1, e.2⟩
theorem exp_neg {α : Type} {c : Prop} {d : Decidable c} {g f : Nat → Option α} {Q : α → Prop} (h : ¬ c) (k : ExP f Q) : ExP (fun n => @ite _ c d (g n) (f n)) Q := k.imp fun _ e => ⟨ev_neg h e.1, e.2⟩
theorem exp_step {α : Type} {g f : Nat → Option α} {Q : α → Prop} (h : ∀ k, g (k + 1) = f k) (k : ExP f Q) : ExP g Q := k.imp fun _ e => ⟨Ev.step h e.1, e.2⟩
theorem exp_mono {α : Type} {g : Nat → Option α} {Q R : α → Prop} (h : ExP g Q) (k : ∀ a, Q a → R a) : ExP g R := h.imp fun a e => ⟨e.1, k a e.2⟩
/-! ### recipes, drawn -/
theorem exp_ev {α β : Type} {g : Nat → Option α} {a : α} {f : Nat → α → Option β} {Q : β → Prop} (h : Ev g a) (k : ExP (fun n => f n a) Q) : ExP (fun n => (g n).bind (f n)) Q := by
  obtain ⟨q, e, hq⟩ := k
  exact ⟨q, Ev.bind h e, hq⟩
theorem exp_of {α : Type} {g : Nat → Option α} {a : α} {Q : α → Prop} (h : Ev g a) (k : Q a) : ExP g Q := ⟨a, h, k⟩
theorem exp_some {α : Type} {g : Option α} {a : α} {Q : α → Prop} (h : g = some a) (k : Q a) : ExP (fun _ => g) Q := by subst h; exact exp_ret k
structure Dp (x : S_impl_RecPhase) : Prop where
  a0 : x.f0.size ≤ 1000
  a2 : x.f2.size ≤ 1000
  a3 : x.f3.size ≤ 1000
  a6 : x.f6.size ≤ 1000
  a7 : x.f7.size ≤ 1000
theorem Dp.sz {x : S_impl_RecPhase} (h : Dp x) : SzR x := by
  obtain ⟨a, b, c, d, e⟩ := h
  exact ⟨by omega, by omega, by omega, by omega, by omega⟩
theorem slot_ok {b : List Int} (hb : Bytes b) (p : Int) (hp : 0 ≤ p) (hp1 : p ≤ 1000000000) : ∃ s : ByteArray, s.size ≤ 100 ∧ spec_l45Slot.f b p = some (s, b, p + 1) := by
  unfold spec_l45Slot.f
  obtain ⟨s, hs, e⟩ := of_ok hb p hp hp1 ([(⟨#[115, 49]⟩ : ByteArray), (⟨#[115, 49]⟩ : ByteArray), (⟨#[115, 50]⟩ : ByteArray), (⟨#[115, 51]⟩ : ByteArray), (⟨#[107, 101, 103]⟩ : ByteArray)] : List ByteArray) (by decide) (by decide)
  refine ⟨s, ?_, by rw [e]; rfl⟩
  simp only [List.mem_cons, List.mem_nil_iff, or_false] at hs
  rcases hs with rfl | rfl | rfl | rfl | rfl <;> decide
abbrev TP := ByteArray × Int × ByteArray × ByteArray × Int × Int × ByteArray × ByteArray × List Int × Int
def phT (t : TP) : S_impl_RecPhase := ⟨t.1, t.2.1, t.2.2.1, t.2.2.2.1, t.2.2.2.2.1, t.2.2.2.2.2.1, t.2.2.2.2.2.2.1, t.2.2.2.2.2.2.2.1⟩
def QP (b : List Int) (p : Int) (t : TP) : Prop := Dp (phT t) ∧ t.2.2.2.2.2.2.2.2.1 = b ∧ p ≤ t.2.2.2.2.2.2.2.2.2 ∧ t.2.2.2.2.2.2.2.2.2 ≤ p + 20
theorem l45PhaseJ {b : List Int} (hb : Bytes b) (name : ByteArray) (later : List ByteArray) (hn : name.size ≤ 1000) (hl : later.length ≤ 100) (hlz : ∀ x ∈ later, x.size ≤ 1000) (t59 : Int × List Int × Int) (t60 : ByteArray × List Int × Int) (t61 : Int × List Int × Int) (hs : t60.1.size ≤ 100)
    (p p0 : Int) (h0 : 0 ≤ p0) (hp0 : p0 ≤ p) (hp1 : p ≤ p0 + 10) (hp : p ≤ 100000000) (B : ByteArray) (hB : B.size ≤ 100) (N : Int) : ExP (fun k => spec_l45Phase.j0 k name later t59 t60 t61 b p B N) (QP b p0) := by
  have hlist : ∀ x ∈ (([(⟨#[103, 111, 111, 100]⟩ : ByteArray), (⟨#[115, 97, 118, 101, 100]⟩ : ByteArray), (⟨#[115, 99, 114, 97, 112, 112, 101, 100]⟩ : ByteArray)] : List ByteArray) ++ later), x.size ≤ 1000 := fun x hx => by
    rcases List.mem_append.1 hx with hx | hx
    · simp only [List.mem_cons, List.mem_nil_iff, or_false] at hx
      rcases hx with rfl | rfl | rfl <;> decide
    · exact hlz x hx
  have hlen : (([(⟨#[103, 111, 111, 100]⟩ : ByteArray), (⟨#[115, 97, 118, 101, 100]⟩ : ByteArray), (⟨#[115, 99, 114, 97, 112, 112, 101, 100]⟩ : ByteArray)] : List ByteArray) ++ later).length = 3 + later.length := by simp; omega
  refine exp_step (fun k => by rw [spec_l45Phase.j0]) (exp_pos (by omega) ?_)
  obtain ⟨u, hu, e1⟩ := of_ok hb p (by omega) (by omega) _ (by rw [hlen]; omega) (by rw [hlen]; omega)
  refine exp_let e1 ?_
  dsimp only
  obtain ⟨v, hv, e2⟩ := of_ok hb (p + 1) (by omega) (by omega) _ (by rw [hlen]; omega) (by rw [hlen]; omega)
  refine exp_let e2 ?_
  dsimp only
  have hu' := hlist u hu; have hv' := hlist v hv
  refine exp_ite (fun c => ?_) (fun c => exp_ret ⟨⟨hn, by show t60.1.size ≤ 1000; omega, by show B.size ≤ 1000; omega, hu', hv'⟩, rfl, by dsimp only; omega, by dsimp only; omega⟩)
  obtain ⟨w, _, e3⟩ := pick_ok hb (p + 1 + 1) 4 (by omega) (by omega) (by omega)
  refine exp_let e3 ?_
  dsimp only
  refine exp_ite (fun _ => exp_pos (by omega) (exp_ret ⟨⟨hn, by show t60.1.size ≤ 1000; omega, by show B.size ≤ 1000; omega, ?_, hv'⟩, rfl, by dsimp only; omega, by dsimp only; omega⟩)) (fun _ => exp_ret ⟨⟨hn, by show t60.1.size ≤ 1000; omega, by show B.size ≤ 1000; omega, hu', hv'⟩, rfl, by dsimp only; omega, by dsimp only; omega⟩)
  show (rdOf ByteArray.empty later 0).size ≤ 1000
  exact hlz _ (mem_getD ByteArray.empty later 0 (by omega))
theorem l45Phase_ok {b : List Int} (hb : Bytes b) (p : Int) (h0 : 0 ≤ p) (hp : p ≤ 10000000) (name : ByteArray) (later : List ByteArray) (hn : name.size ≤ 1000) (hl : later.length ≤ 100) (hlz : ∀ x ∈ later, x.size ≤ 1000) : ExP (fun k => spec_l45Phase.f k b p name later) (QP b p) := by
  unfold spec_l45Phase.f
  obtain ⟨v, ⟨v0, v1, _⟩, e1⟩ := pick_ok hb p 5 (by omega) (by omega) (by omega)
  refine exp_let e1 ?_
  dsimp only
  obtain ⟨s, hs, e2⟩ := slot_ok hb (p + 1) (by omega) (by omega)
  refine exp_let e2 ?_
  dsimp only
  obtain ⟨w, ⟨w0, w1, _⟩, e3⟩ := pick_ok hb (p + 1 + 1) 20 (by omega) (by omega) (by omega)
  have w1 := w1 (by omega)
  refine exp_let e3 ?_
  dsimp only
  have zv : (⟨#[118, 97, 116]⟩ : ByteArray).size ≤ 100 := by decide
  have ze : (⟨#[]⟩ : ByteArray).size ≤ 100 := by decide
  refine exp_ite (fun _ => ?_) (fun _ => exp_ite (fun _ => ?_) (fun _ => exp_ite (fun _ => ?_) (fun _ => ?_)))
  · obtain ⟨u, hu, e4⟩ := of_ok hb (p + 1 + 1 + 1) (by omega) (by omega) ([(⟨#[97, 108, 101]⟩ : ByteArray), (⟨#[109, 97, 108, 116]⟩ : ByteArray)] : List ByteArray) (by decide) (by decide)
    have hu' : u.size ≤ 100 := by
      simp only [List.mem_cons, List.mem_nil_iff, or_false] at hu
      rcases hu with rfl | rfl <;> decide
    refine exp_let e4 ?_
    dsimp only
    obtain ⟨x, _, e5⟩ := pick_ok hb (p + 1 + 1 + 1 + 1) 30 (by omega) (by omega) (by omega)
    refine exp_let e5 ?_
    dsimp only
    exact l45PhaseJ hb name later hn hl hlz _ _ _ hs _ p h0 (by omega) (by omega) (by omega) _ hu' _
  · obtain ⟨u, hu, e4⟩ := slot_ok hb (p + 1 + 1 + 1) (by omega) (by omega)
    refine exp_let e4 ?_
    dsimp only
    refine exp_ite (fun _ => ?_) (fun _ => ?_)
    · obtain ⟨x, _, e5⟩ := pick_ok hb (p + 1 + 1 + 1 + 1) 30 (by omega) (by omega) (by omega)
      refine exp_let e5 ?_
      dsimp only
      exact l45PhaseJ hb name later hn hl hlz _ _ _ hs _ p h0 (by omega) (by omega) (by omega) _ zv _
    · obtain ⟨x, _, e5⟩ := pick_ok hb (p + 1 + 1 + 1 + 1) 30 (by omega) (by omega) (by omega)
      refine exp_let e5 ?_
      dsimp only
      exact l45PhaseJ hb name later hn hl hlz _ _ _ hs _ p h0 (by omega) (by omega) (by omega) _ hu _
  · have hw : wrap64 (1 + w) = 1 + w := w64 (by omega) (by omega)
    rw [hw]
    obtain ⟨x, _, e5⟩ := pick_ok hb (p + 1 + 1 + 1) (1 + w) (by omega) (by omega) (by omega)
    refine exp_let e5 ?_
    dsimp only
    exact l45PhaseJ hb name later hn hl hlz _ _ _ hs _ p h0 (by omega) (by omega) (by omega) _ ze _
  · exact l45PhaseJ hb name later hn hl hlz _ _ _ hs _ p h0 (by omega) (by omega) (by omega) _ ze _
/-- a recipe, and where the reader is -/
abbrev TR := List S_impl_RecPhase × List Int × Int
def QR (b : List Int) (lo hi : Int) (n0 n1 : Nat) (t : TR) : Prop := (n0 ≤ t.1.length ∧ t.1.length ≤ n1 ∧ ∀ x ∈ t.1, Dp x) ∧ t.2.1 = b ∧ lo ≤ t.2.2 ∧ t.2.2 ≤ hi
theorem dec_small_size {n : Int} (h0 : 0 ≤ n) (h : n ≤ 100) : (decB n).size ≤ 101 := by
  have := dec_len n.toNat n.toNat (Nat.le_refl _)
  show (decD n.toNat).toArray.size ≤ 101
  rw [List.size_toArray]; omega
theorem dp_app {l : List S_impl_RecPhase} {x : S_impl_RecPhase} (h : ∀ z ∈ l, Dp z) (hx : Dp x) : ∀ z ∈ l ++ [x], Dp z := fun z hz => by
  rcases List.mem_append.1 hz with hz | hz
  · exact h z hz
  · rw [List.mem_singleton] at hz; subst hz; exact hx
theorem recipe1 {b : List Int} (hb : Bytes b) : ∀ (m : Nat) (l : List S_impl_RecPhase) (i : Nat) (p : Int), l.length + m = 12 → (∀ x ∈ l, Dp x) → i + m ≤ 100 → 0 ≤ p → p + 30 * m ≤ 1000000 → ExP (fun k => spec_l45Recipe.l1 k l (i : Int) b p) (QR b p (p + 30 * m) l.length 12)
  | 0, l, i, p, hl, hd, hi, h0, hp => by
    refine exp_step (fun k => by rw [spec_l45Recipe.l1]) (exp_neg (by omega) (exp_ret ⟨⟨Nat.le_refl _, by dsimp only; omega, hd⟩, rfl, by dsimp only; omega, by dsimp only; omega⟩))
  | m + 1, l, i, p, hl, hd, hi, h0, hp => by
    refine exp_step (fun k => by rw [spec_l45Recipe.l1]) (exp_pos (by omega) ?_)
    refine exp_ev (l43Dec_ev i (i : Int) (by omega) (by omega) (by omega)) ?_
    have hds := dec_small_size (n := (i : Int)) (by omega) (by omega)
    have z1 : (⟨#[121]⟩ : ByteArray).size = 1 := rfl
    refine exp_pos (by omega) ?_
    refine exp_bind (l45Phase_ok hb p h0 (by omega) _ [] (by rw [ByteArray.size_append]; omega) (by simp) (fun x hx => by cases hx)) (fun t ht => ?_)
    obtain ⟨d, hbb, q0, q1⟩ := ht
    refine exp_pos (by omega) ?_
    rw [hbb, wsucc (n := 100) (by omega) (by omega)]
    refine exp_mono (recipe1 hb m (l ++ [phT t]) (i + 1) _ (by simp; omega) (dp_app hd d) (by omega) (by omega) (by omega)) (fun q hq => ?_)
    obtain ⟨⟨a1, a2, a3⟩, a4, a5, a6⟩ := hq
    rw [List.length_append] at a1
    exact ⟨⟨by omega, a2, a3⟩, a4, by omega, by omega⟩
theorem recipe0 {b : List Int} (hb : Bytes b) (names : List ByteArray) (hnl : names.length = 8) (hnz : ∀ x ∈ names, x.size ≤ 1000) (v : Int) (t123 : Int × List Int × Int) (hv : t123.1 = v) (hv0 : 0 ≤ v) (hv1 : v < 8) : ∀ (m : Nat) (l : List S_impl_RecPhase) (p : Int), (l.length : Int) + m = 1 + v → (∀ x ∈ l, Dp x) → 0 ≤ p → p + 30 * m + 1000 ≤ 1000000 →
    ExP (fun k => spec_l45Recipe.l0 k l (l.length : Int) names t123 b p) (QR b p (p + 30 * m + 1000) (l.length + m) 12)
  | 0, l, p, hl, hd, h0, hp => by
    have hw : wrap64 (1 + t123.1) = 1 + v := by rw [hv]; exact w64 (by omega) (by omega)
    refine exp_step (fun k => by rw [spec_l45Recipe.l0]) ?_
    rw [hw]
    refine exp_neg (by omega) ?_
    obtain ⟨x, _, e⟩ := pick_ok hb p 20 (by omega) (by omega) (by omega)
    refine exp_let e ?_
    dsimp only
    refine exp_ite (fun _ => ?_) (fun _ => exp_ret ⟨⟨by dsimp only; omega, by dsimp only; omega, hd⟩, rfl, by dsimp only; omega, by dsimp only; omega⟩)
    refine exp_mono (recipe1 hb (12 - l.length) l 0 (p + 1) (by omega) hd (by omega) (by omega) (by omega)) (fun q hq => ?_)
    obtain ⟨⟨a1, a2, a3⟩, a4, a5, a6⟩ := hq
    exact ⟨⟨by omega, a2, a3⟩, a4, by omega, by omega⟩
  | m + 1, l, p, hl, hd, h0, hp => by
    have hw : wrap64 (1 + t123.1) = 1 + v := by rw [hv]; exact w64 (by omega) (by omega)
    refine exp_step (fun k => by rw [spec_l45Recipe.l0]) ?_
    rw [hw, wsucc (n := 100) (by omega) (by omega)]
    refine exp_pos (by omega) (exp_pos (by omega) (exp_pos (by omega) (exp_pos (by omega) (exp_pos (by omega) (exp_pos (by omega) ?_)))))
    refine exp_bind (l45Phase_ok hb p h0 (by omega) _ _ (by rw [rdOf_nat]; exact hnz _ (mem_getD _ _ _ (by omega))) (by rw [List.length_drop, List.length_take]; omega) (fun x hx => hnz x (List.mem_of_mem_take (List.mem_of_mem_drop hx)))) (fun t ht => ?_)
    obtain ⟨d, hbb, q0, q1⟩ := ht
    refine exp_pos (by omega) ?_
    rw [hbb]
    have hlen : (l ++ [phT t]).length = l.length + 1 := by simp
    have ih := recipe0 hb names hnl hnz v t123 hv hv0 hv1 m (l ++ [phT t]) t.2.2.2.2.2.2.2.2.2 (by rw [hlen]; omega) (dp_app hd d) (by omega) (by omega)
    rw [hlen] at ih
    refine exp_mono ih (fun q hq => ?_)
    obtain ⟨⟨a1, a2, a3⟩, a4, a5, a6⟩ := hq
    exact ⟨⟨by omega, a2, a3⟩, a4, by omega, by omega⟩
theorem recipe_ok {b : List Int} (hb : Bytes b) (p : Int) (h0 : 0 ≤ p) (hp : p ≤ 1000) : ExP (fun k => spec_l45Recipe.f k b p) (QR b p (p + 2000) 1 12) := by
  unfold spec_l45Recipe.f
  have eN : spec_l45Names.f = some ([(⟨#[98, 114, 101, 119]⟩ : ByteArray), (⟨#[102, 49]⟩ : ByteArray), (⟨#[102, 50]⟩ : ByteArray), (⟨#[103]⟩ : ByteArray), (⟨#[104]⟩ : ByteArray), (⟨#[109, 97, 115, 104]⟩ : ByteArray), (⟨#[114, 101, 115, 116]⟩ : ByteArray), (⟨#[120, 45, 57]⟩ : ByteArray)] : List ByteArray) := rfl
  refine exp_let eN ?_
  obtain ⟨v, ⟨v0, v1, _⟩, e⟩ := pick_ok hb p 8 (by omega) (by omega) (by omega)
  have v1 := v1 (by omega)
  refine exp_let e ?_
  dsimp only
  obtain ⟨n, rfl⟩ : ∃ n : Nat, v = (n : Int) := ⟨v.toNat, by omega⟩
  refine exp_mono (recipe0 hb _ rfl (fun x hx => by
    simp only [List.mem_cons, List.mem_nil_iff, or_false] at hx
    rcases hx with rfl | rfl | rfl | rfl | rfl | rfl | rfl | rfl <;> decide) (n : Int) _ rfl v0 v1 (n + 1) [] (p + 1) (by simp; omega) (fun x hx => by cases hx) (by omega) (by omega)) (fun q hq => ?_)
  obtain ⟨⟨a1, a2, a3⟩, a4, a5, a6⟩ := hq
  exact ⟨⟨by simp at a1; omega, a2, a3⟩, a4, by omega, by omega⟩
theorem spoilPhase_ok {b : List Int} (hb : Bytes b) (p : Int) (h0 : 0 ≤ p) (hp : p ≤ 1000000) (x : S_impl_RecPhase) (hx : Dp x) : ∃ t : TP, QP b p t ∧ spec_l45SpoilPhase.f b p x.f0 x.f1 x.f2 x.f3 x.f4 x.f5 x.f6 x.f7 = some t := by
  have key : ExP (fun _ => spec_l45SpoilPhase.f b p x.f0 x.f1 x.f2 x.f3 x.f4 x.f5 x.f6 x.f7) (QP b p) := by
    unfold spec_l45SpoilPhase.f
    obtain ⟨a0, a2, a3, a6, a7⟩ := hx
    obtain ⟨v, _, e⟩ := pick_ok hb p 8 (by omega) (by omega) (by omega)
    refine exp_let e ?_
    dsimp only
    have of5 : ∀ (L : List ByteArray), 1 ≤ L.length → L.length ≤ 100 → (∀ y ∈ L, y.size ≤ 1000) → ∃ s : ByteArray, s.size ≤ 1000 ∧ spec_l41Rd_of.f b (p + 1) L = some (s, b, p + 1 + 1) := fun L h1 h2 h3 => by
      obtain ⟨s, hs, e⟩ := of_ok hb (p + 1) (by omega) (by omega) L h1 (by omega)
      exact ⟨s, h3 s hs, e⟩
    refine exp_ite (fun _ => ?_) (fun _ => exp_ite (fun _ => ?_) (fun _ => exp_ite (fun _ => ?_) (fun _ => exp_ite (fun _ => ?_) (fun _ => exp_ite (fun _ => ?_) (fun _ => exp_ite (fun _ => ?_) (fun _ => exp_ite (fun _ => ?_) (fun _ => ?_)))))))
    · obtain ⟨s, hs, e2⟩ := of5 ([(⟨#[]⟩ : ByteArray), (⟨#[65]⟩ : ByteArray), (⟨#[103, 111, 111, 100]⟩ : ByteArray), (⟨#[102, 49]⟩ : ByteArray), (⟨#[110, 105, 110, 101, 45, 98, 121, 116, 101, 115]⟩ : ByteArray)] : List ByteArray) (by decide) (by decide) (fun y hy => by
        simp only [List.mem_cons, List.mem_nil_iff, or_false] at hy
        rcases hy with rfl | rfl | rfl | rfl | rfl <;> decide)
      exact exp_let e2 (exp_ret ⟨⟨hs, a2, a3, a6, a7⟩, rfl, by dsimp only; omega, by dsimp only; omega⟩)
    · obtain ⟨s, _, e2⟩ := pick_ok hb (p + 1) 8 (by omega) (by omega) (by omega)
      exact exp_let e2 (exp_ret ⟨⟨a0, a2, a3, a6, a7⟩, rfl, by dsimp only; omega, by dsimp only; omega⟩)
    · obtain ⟨s, hs, e2⟩ := of5 ([(⟨#[]⟩ : ByteArray), (⟨#[65]⟩ : ByteArray), x.f3, (⟨#[103, 111, 111, 100]⟩ : ByteArray)] : List ByteArray) (by simp) (by simp) (fun y hy => by
        simp only [List.mem_cons, List.mem_nil_iff, or_false] at hy
        rcases hy with rfl | rfl | rfl | rfl
        · decide
        · decide
        · exact a3
        · decide)
      exact exp_let e2 (exp_ret ⟨⟨a0, hs, a3, a6, a7⟩, rfl, by dsimp only; omega, by dsimp only; omega⟩)
    · obtain ⟨s, hs, e2⟩ := of5 ([(⟨#[]⟩ : ByteArray), (⟨#[65]⟩ : ByteArray), x.f2, (⟨#[103, 111, 111, 100]⟩ : ByteArray)] : List ByteArray) (by simp) (by simp) (fun y hy => by
        simp only [List.mem_cons, List.mem_nil_iff, or_false] at hy
        rcases hy with rfl | rfl | rfl | rfl
        · decide
        · decide
        · exact a2
        · decide)
      exact exp_let e2 (exp_ret ⟨⟨a0, a2, hs, a6, a7⟩, rfl, by dsimp only; omega, by dsimp only; omega⟩)
    · obtain ⟨s, ⟨s0, s1, _⟩, e2⟩ := pick_ok hb (p + 1) 7 (by omega) (by omega) (by omega)
      have s1 := s1 (by omega)
      exact exp_let e2 (exp_pos s0 (exp_pos s1 (exp_ret ⟨⟨a0, a2, a3, a6, a7⟩, rfl, by dsimp only; omega, by dsimp only; omega⟩)))
    · obtain ⟨s, ⟨s0, s1, _⟩, e2⟩ := pick_ok hb (p + 1) 5 (by omega) (by omega) (by omega)
      have s1 := s1 (by omega)
      exact exp_let e2 (exp_pos s0 (exp_pos s1 (exp_ret ⟨⟨a0, a2, a3, a6, a7⟩, rfl, by dsimp only; omega, by dsimp only; omega⟩)))
    · obtain ⟨s, hs, e2⟩ := of5 ([(⟨#[]⟩ : ByteArray), (⟨#[98, 114, 101, 119]⟩ : ByteArray), (⟨#[102, 49]⟩ : ByteArray), (⟨#[114, 101, 115, 116]⟩ : ByteArray), (⟨#[110, 111, 110, 101]⟩ : ByteArray)] : List ByteArray) (by decide) (by decide) (fun y hy => by
        simp only [List.mem_cons, List.mem_nil_iff, or_false] at hy
        rcases hy with rfl | rfl | rfl | rfl | rfl <;> decide)
      exact exp_let e2 (exp_ret ⟨⟨a0, a2, a3, hs, a7⟩, rfl, by dsimp only; omega, by dsimp only; omega⟩)
    · obtain ⟨s, hs, e2⟩ := of5 ([(⟨#[]⟩ : ByteArray), (⟨#[98, 114, 101, 119]⟩ : ByteArray), (⟨#[102, 49]⟩ : ByteArray), (⟨#[114, 101, 115, 116]⟩ : ByteArray), (⟨#[110, 111, 110, 101]⟩ : ByteArray)] : List ByteArray) (by decide) (by decide) (fun y hy => by
        simp only [List.mem_cons, List.mem_nil_iff, or_false] at hy
        rcases hy with rfl | rfl | rfl | rfl | rfl <;> decide)
      exact exp_let e2 (exp_ret ⟨⟨a0, a2, a3, a6, hs⟩, rfl, by dsimp only; omega, by dsimp only; omega⟩)
  obtain ⟨t, ⟨N, hN⟩, hq⟩ := key
  exact ⟨t, hq, hN N (Nat.le_refl _)⟩
/-! ### recipes, spoilt -/
theorem spoil0 {b : List Int} (hb : Bytes b) (v : Int) (t248 : Int × List Int × Int) (hv : t248.1 = v) (hv0 : 0 ≤ v) (hv1 : v < 2) : ∀ (m : Nat) (l : List S_impl_RecPhase) (i : Nat) (p : Int), (12 + v).toNat - l.length ≤ m → l.length ≤ 14 → (∀ x ∈ l, Dp x) → i + m ≤ 100 → 0 ≤ p → p + 30 * m ≤ 1000000 → ExP (fun k => spec_l45Spoil.l0 k l (i : Int) t248 b p) (QR b p (p + 30 * m) 0 14)
  | 0, l, i, p, hl, hl2, hd, hi, h0, hp => by
    have hw : wrap64 (12 + t248.1) = 12 + v := by rw [hv]; exact w64 (by omega) (by omega)
    refine exp_step (fun k => by rw [spec_l45Spoil.l0]) ?_
    rw [hw]
    exact exp_neg (by omega) (exp_step (fun k => by rw [spec_l45Spoil.j0]) (exp_ret ⟨⟨Nat.zero_le _, hl2, hd⟩, rfl, by dsimp only; omega, by dsimp only; omega⟩))
  | m + 1, l, i, p, hl, hl2, hd, hi, h0, hp => by
    have hw : wrap64 (12 + t248.1) = 12 + v := by rw [hv]; exact w64 (by omega) (by omega)
    refine exp_step (fun k => by rw [spec_l45Spoil.l0]) ?_
    rw [hw]
    refine exp_ite (fun c => ?_) (fun c => exp_step (fun k => by rw [spec_l45Spoil.j0]) (exp_ret ⟨⟨Nat.zero_le _, hl2, hd⟩, rfl, by dsimp only; omega, by dsimp only; omega⟩))
    refine exp_ev (l43Dec_ev i (i : Int) (by omega) (by omega) (by omega)) ?_
    have hds := dec_small_size (n := (i : Int)) (by omega) (by omega)
    have z1 : (⟨#[122]⟩ : ByteArray).size = 1 := rfl
    refine exp_pos (by omega) ?_
    refine exp_bind (l45Phase_ok hb p h0 (by omega) _ [] (by rw [ByteArray.size_append]; omega) (by simp) (fun x hx => by cases hx)) (fun t ht => ?_)
    obtain ⟨d, hbb, q0, q1⟩ := ht
    refine exp_pos (by omega) ?_
    rw [hbb, wsucc (n := 100) (by omega) (by omega)]
    refine exp_mono (spoil0 hb v t248 hv hv0 hv1 m (l ++ [phT t]) (i + 1) _ (by simp; omega) (by simp; omega) (dp_app hd d) (by omega) (by omega) (by omega)) (fun q hq => ?_)
    obtain ⟨⟨a1, a2, a3⟩, a4, a5, a6⟩ := hq
    exact ⟨⟨a1, a2, a3⟩, a4, by omega, by omega⟩
theorem dp_set {l : List S_impl_RecPhase} {x : S_impl_RecPhase} (h : ∀ z ∈ l, Dp z) (hx : Dp x) (i : Nat) : ∀ z ∈ l.set i x, Dp z := fun z hz => by
  rcases List.mem_or_eq_of_mem_set hz with hz | hz
  · exact h z hz
  · subst hz; exact hx
theorem spoil_ok {b : List Int} (hb : Bytes b) (p : Int) (h0 : 0 ≤ p) (hp : p ≤ 10000) (l : List S_impl_RecPhase) (hl0 : 1 ≤ l.length) (hl : l.length ≤ 12) (hd : ∀ x ∈ l, Dp x) : ExP (fun k => spec_l45Spoil.f k b p l) (QR b p (p + 2000) 0 14) := by
  unfold spec_l45Spoil.f
  refine exp_pos (by omega) ?_
  obtain ⟨v, ⟨v0, v1, _⟩, e1⟩ := pick_ok hb p (0 + l.length : Int) (by omega) (by omega) (by omega)
  have v1 := v1 (by omega)
  obtain ⟨n, rfl⟩ : ∃ n : Nat, v = (n : Int) := ⟨v.toNat, by omega⟩
  refine exp_let e1 ?_
  dsimp only
  obtain ⟨u, _, e2⟩ := pick_ok hb (p + 1) 6 (by omega) (by omega) (by omega)
  refine exp_let e2 ?_
  dsimp only
  have hnil : ([] : List S_impl_RecPhase) ++ l = l := rfl
  rw [hnil, rdRP]
  have hx := hd _ (mem_getD z_impl_RecPhase l n (by omega))
  have fin : ∀ (l' : List S_impl_RecPhase) (p' : Int), l'.length ≤ 14 → (∀ x ∈ l', Dp x) → p ≤ p' → p' ≤ p + 2000 → ExP (fun k => spec_l45Spoil.j0 k l' b p') (QR b p (p + 2000) 0 14) := fun l' p' g1 g2 g3 g4 =>
    exp_step (fun k => by rw [spec_l45Spoil.j0]) (exp_ret ⟨⟨Nat.zero_le _, g1, g2⟩, rfl, g3, g4⟩)
  refine exp_ite (fun _ => ?_) (fun _ => exp_ite (fun _ => ?_) (fun _ => exp_ite (fun _ => ?_) (fun _ => ?_)))
  · exact exp_pos v0 (exp_pos v1 (exp_pos (by omega) (fin _ _ (by simp; omega) (dp_app hd hx) (by omega) (by omega))))
  · exact exp_pos v0 (exp_pos v1 (exp_pos (by omega) (fin _ _ (by simp; omega) (dp_set hd hx _) (by omega) (by omega))))
  · obtain ⟨w, ⟨w0, w1, _⟩, e3⟩ := pick_ok hb (p + 1 + 1) 2 (by omega) (by omega) (by omega)
    have w1 := w1 (by omega)
    refine exp_let e3 ?_
    dsimp only
    refine exp_mono (spoil0 hb w _ rfl w0 w1 14 l 0 (p + 1 + 1 + 1) (by omega) (by omega) hd (by omega) (by omega) (by omega)) (fun q hq => ?_)
    obtain ⟨⟨a1, a2, a3⟩, a4, a5, a6⟩ := hq
    exact ⟨⟨a1, a2, a3⟩, a4, by omega, by omega⟩
  · refine exp_pos v0 (exp_pos v1 ?_)
    obtain ⟨t, ⟨d, hbb, q0, q1⟩, e3⟩ := spoilPhase_ok hb (p + 1 + 1) (by omega) (by omega) _ hx
    refine exp_let e3 ?_
    rw [hbb]
    exact fin _ _ (by simp; omega) (dp_set hd d _) (by omega) (by omega)
theorem any_ok {b : List Int} (hb : Bytes b) (p : Int) (h0 : 0 ≤ p) (hp : p ≤ 1000) : ExP (fun k => spec_l45Any.f k b p) (QR b p (p + 5000) 0 14) := by
  unfold spec_l45Any.f
  refine exp_bind (recipe_ok hb p h0 hp) (fun t ht => ?_)
  obtain ⟨⟨a1, a2, a3⟩, a4, a5, a6⟩ := ht
  rw [a4]
  obtain ⟨u, _, e2⟩ := pick_ok hb t.2.2 24 (by omega) (by omega) (by omega)
  refine exp_let e2 ?_
  dsimp only
  refine exp_ite (fun _ => ?_) (fun _ => exp_ite (fun _ => ?_) (fun _ => ?_))
  · refine exp_bind (spoil_ok hb (t.2.2 + 1) (by omega) (by omega) t.1 a1 a2 a3) (fun q hq => ?_)
    obtain ⟨⟨b1, b2, b3⟩, b4, b5, b6⟩ := hq
    exact exp_ret ⟨⟨b1, b2, b3⟩, b4, by dsimp only; omega, by dsimp only; omega⟩
  · exact exp_ret ⟨⟨Nat.zero_le _, by simp, fun x hx => by cases hx⟩, rfl, by dsimp only; omega, by dsimp only; omega⟩
  · exact exp_ret ⟨⟨Nat.zero_le _, by dsimp only; omega, a3⟩, rfl, by dsimp only; omega, by dsimp only; omega⟩
/-! ### how far a run can go -/
def bndN (l : List S_impl_RecPhase) : Nat → ByteArray → Int
  | 0, _ => 0
  | n + 1, a => if phIx a l 0 < 0 then 0 else (l.getD (phIx a l 0).toNat z_impl_RecPhase).f5 + (if bndN l n (l.getD (phIx a l 0).toNat z_impl_RecPhase).f6 < bndN l n (l.getD (phIx a l 0).toNat z_impl_RecPhase).f7 then bndN l n (l.getD (phIx a l 0).toNat z_impl_RecPhase).f7 else bndN l n (l.getD (phIx a l 0).toNat z_impl_RecPhase).f6)
theorem recB_ph {l : List S_impl_RecPhase} (h : recB l = true) : l.length ≤ 12 ∧ ∀ x ∈ l, phaseB x = true := by
  unfold recB at h
  simp only [Bool.and_eq_true] at h
  obtain ⟨h1, h2, _⟩ := h
  have h1' := of_decide_eq_true h1
  refine ⟨by omega, ?_⟩
  have key : ∀ (r : List S_impl_RecPhase) (i : Nat), recA l i r = true → ∀ x ∈ r, phaseB x = true := fun r => by
    induction r with
    | nil => intro i _ x hx; cases hx
    | cons y r ih =>
      intro i hr x hx
      simp only [recA, ownB, Bool.and_eq_true] at hr
      rcases List.mem_cons.1 hx with rfl | hx
      · exact hr.1.1
      · exact ih _ hr.2 x hx
  exact key l 0 h2
theorem phaseB_w {x : S_impl_RecPhase} (h : phaseB x = true) : 1 ≤ x.f5 ∧ x.f5 ≤ 1000 := by
  unfold phaseB at h
  simp only [Bool.and_eq_true] at h
  exact of_decide_eq_true h.2.1
theorem phaseB_hold {x : S_impl_RecPhase} (h : phaseB x = true) (h3 : x.f1 = 3) : 1 ≤ x.f4 ∧ x.f4 ≤ x.f5 := by
  unfold phaseB at h
  simp only [Bool.and_eq_true] at h
  obtain ⟨_, _, ⟨_, ha⟩, _⟩ := h
  unfold argsB at ha
  rw [if_neg (by omega), if_neg (by omega), if_pos h3] at ha
  simp only [Bool.and_eq_true] at ha
  exact of_decide_eq_true ha.2
theorem bnd_range {l : List S_impl_RecPhase} (h : recB l = true) : ∀ (n : Nat) (a : ByteArray), 0 ≤ bndN l n a ∧ bndN l n a ≤ 1000 * n
  | 0, a => by simp [bndN]
  | n + 1, a => by
    rw [bndN]
    split
    · omega
    · rename_i c
      rcases phIx_at l a l 0 rfl with e | ⟨j, j1, _, j3, _⟩
      · omega
      · rw [j3, Int.toNat_natCast]
        have hp := phaseB_w ((recB_ph h).2 _ (mem_getD z_impl_RecPhase l j j1))
        have h6 := bnd_range h n (l.getD j z_impl_RecPhase).f6
        have h7 := bnd_range h n (l.getD j z_impl_RecPhase).f7
        split <;> omega
theorem specBnd_ev {l : List S_impl_RecPhase} (h : recB l = true) (hl : l.length ≤ 12) : ∀ (n : Nat) (a : ByteArray), n ≤ 100 → phIx a l 0 < 0 ∨ (l.length : Int) ≤ n + phIx a l 0 → Ev (fun k => spec_l42Bound.f k l a) (bndN l n a)
  | n, a, hn100, hn => by
    have eA := l42At_ev l a (by omega)
    refine Ev.step (fun k => by rw [spec_l42Bound.f]) (Ev.bind eA ?_)
    rcases phIx_at l a l 0 rfl with e | ⟨j, j1, _, j3, j4⟩
    · rw [e]
      refine ev_pos (by omega) (ev_ret ?_)
      cases n with
      | zero => rfl
      | succ n => unfold bndN; rw [if_pos (by omega)]
    · rw [j3] at hn ⊢
      refine ev_neg (by omega) (ev_pos (by omega) (ev_pos (by omega) ?_))
      cases n with
      | zero => exfalso; omega
      | succ n =>
        rw [rdRP]
        have hx := next_ok h j1
        have e6 := specBnd_ev h hl n (l.getD j z_impl_RecPhase).f6 (by omega) (by have := hx _ (.inl rfl); omega)
        have e7 := specBnd_ev h hl n (l.getD j z_impl_RecPhase).f7 (by omega) (by have := hx _ (.inr rfl); omega)
        have hp := phaseB_w ((recB_ph h).2 _ (mem_getD z_impl_RecPhase l j j1))
        have r6 := bnd_range h n (l.getD j z_impl_RecPhase).f6
        have r7 := bnd_range h n (l.getD j z_impl_RecPhase).f7
        unfold bndN
        rw [j3, if_neg (by omega : ¬ (j : Int) < 0), Int.toNat_natCast]
        generalize l.getD j z_impl_RecPhase = x at *
        refine Ev.bind e6 (Ev.bind e7 (ev_split (fun c => ev_ret ?_) (fun c => ev_ret ?_)))
        · rw [if_pos c, w64 (by omega) (by omega)]; omega
        · rw [if_neg c, w64 (by omega) (by omega)]; omega
theorem implBnd_ev {l : List S_impl_RecPhase} (h : recB l = true) (hl : l.length ≤ 12) : ∀ (n : Nat) (a : ByteArray), n ≤ 100 → phIx a l 0 < 0 ∨ (l.length : Int) ≤ n + phIx a l 0 → Ev (fun k => impl_bound.f k l a) (bndN l n a)
  | n, a, hn100, hn => by
    have eA := phase_ev l a (by omega)
    refine Ev.step (fun k => by rw [impl_bound.f]) (Ev.bind eA ?_)
    rcases phIx_at l a l 0 rfl with e | ⟨j, j1, _, j3, j4⟩
    · rw [e]
      refine ev_pos (by omega) (ev_ret ?_)
      cases n with
      | zero => rfl
      | succ n => unfold bndN; rw [if_pos (by omega)]
    · rw [j3] at hn ⊢
      refine ev_neg (by omega) (ev_pos (by omega) (ev_pos (by omega) ?_))
      cases n with
      | zero => exfalso; omega
      | succ n =>
        rw [rdRP]
        have hx := next_ok h j1
        have e6 := implBnd_ev h hl n (l.getD j z_impl_RecPhase).f6 (by omega) (by have := hx _ (.inl rfl); omega)
        have e7 := implBnd_ev h hl n (l.getD j z_impl_RecPhase).f7 (by omega) (by have := hx _ (.inr rfl); omega)
        have hp := phaseB_w ((recB_ph h).2 _ (mem_getD z_impl_RecPhase l j j1))
        have r6 := bnd_range h n (l.getD j z_impl_RecPhase).f6
        have r7 := bnd_range h n (l.getD j z_impl_RecPhase).f7
        unfold bndN
        rw [j3, if_neg (by omega : ¬ (j : Int) < 0), Int.toNat_natCast]
        generalize l.getD j z_impl_RecPhase = x at *
        refine Ev.bind e6 (Ev.bind e7 (ev_ret ?_))
        have hm : mx (bndN l n x.f6) (bndN l n x.f7) = (if bndN l n x.f6 < bndN l n x.f7 then bndN l n x.f7 else bndN l n x.f6) := by
          unfold mx; repeat' split <;> omega
        rw [hm]
        split <;> (rw [w64 (by omega) (by omega)])
/-! ### recipes, drawn for the bound -/
theorem from_ok {b : List Int} (hb : Bytes b) (p : Int) (h0 : 0 ≤ p) (hp : p ≤ 100000) (l : List S_impl_RecPhase) (hl : l.length ≤ 14) : ∃ s, (∃ p', spec_l45From.f b p l = some (s, b, p')) := by
  unfold spec_l45From.f
  have tl : ∀ q : Int, 0 ≤ q → q ≤ 100010 → ∃ s : ByteArray, ∃ p', spec_l41Rd_of.f b q ([(⟨#[103, 111, 111, 100]⟩ : ByteArray), (⟨#[115, 99, 114, 97, 112, 112, 101, 100]⟩ : ByteArray), (⟨#[110, 111, 110, 101]⟩ : ByteArray), (⟨#[]⟩ : ByteArray)] : List ByteArray) = some (s, b, p') := fun q q0 q1 => by
    obtain ⟨s, _, e⟩ := of_ok hb q q0 (by omega) ([(⟨#[103, 111, 111, 100]⟩ : ByteArray), (⟨#[115, 99, 114, 97, 112, 112, 101, 100]⟩ : ByteArray), (⟨#[110, 111, 110, 101]⟩ : ByteArray), (⟨#[]⟩ : ByteArray)] : List ByteArray) (by decide) (by decide)
    exact ⟨s, _, e⟩
  by_cases c : (l.length : Int) > 0
  · rw [if_pos c]
    obtain ⟨v, _, e⟩ := pick_ok hb p 8 (by omega) (by omega) (by omega)
    rw [e]; simp only [Option.bind_some]
    by_cases d : v > 0
    · rw [if_pos d]
      obtain ⟨w, ⟨w0, w1, _⟩, e2⟩ := pick_ok hb (p + 1) (l.length : Int) (by omega) (by omega) (by omega)
      have w1 := w1 (by omega)
      rw [e2]; simp only [Option.bind_some]
      rw [if_pos w0, if_pos w1]
      exact ⟨_, _, rfl⟩
    · rw [if_neg d]
      obtain ⟨s, p', e2⟩ := tl (p + 1) (by omega) (by omega)
      rw [e2]; exact ⟨s, p', rfl⟩
  · rw [if_neg c]
    obtain ⟨s, p', e2⟩ := tl p h0 (by omega)
    rw [e2]; exact ⟨s, p', rfl⟩
theorem drawBound_ok (x : List Int) (h : ∀ z ∈ x, (Lit.int .u8 z).wf = true) : ExP (fun k => spec_DrawRecBound.f k x) (fun t => t.1.length ≤ 14 ∧ ∀ z ∈ t.1, Dp z) := by
  unfold spec_DrawRecBound.f
  refine exp_bind (R := fun t => t.1.length ≤ 14 ∧ ∀ z ∈ t.1, Dp z) ?_ (fun t ht => exp_ret ht)
  unfold spec_DrawRecSlots.f
  obtain ⟨b, hb, e⟩ := open_ok x (bytes_of h)
  refine exp_let e ?_
  dsimp only
  refine exp_bind (any_ok hb 0 (by omega) (by omega)) (fun t ht => ?_)
  obtain ⟨⟨a1, a2, a3⟩, a4, a5, a6⟩ := ht
  rw [a4]
  obtain ⟨s, p', e2⟩ := from_ok hb t.2.2 (by omega) (by omega) t.1 a2
  exact exp_let e2 (exp_ret ⟨a2, a3⟩)
/-! ### which phases come behind one -/
theorem phIx_no (a : ByteArray) : ∀ (r : List S_impl_RecPhase) (i : Nat), phIx a r i < 0 → ∀ x ∈ r, x.f0 ≠ a
  | [], _, _, x, hx => by cases hx
  | y :: r, i, h, x, hx => by
    rw [show phIx a (y :: r) i = if y.f0 = a then (i : Int) else phIx a r (i + 1) from rfl] at h
    by_cases c : y.f0 = a
    · rw [if_pos c] at h; omega
    · rw [if_neg c] at h
      rcases List.mem_cons.1 hx with rfl | hx
      · exact c
      · exact phIx_no a r _ h x hx
theorem own_ok {l : List S_impl_RecPhase} (h : recB l = true) {j : Nat} (hj : j < l.length) : phIx (l.getD j z_impl_RecPhase).f0 l 0 = (j : Int) := by
  unfold recB at h
  simp only [Bool.and_eq_true] at h
  have keyA : ∀ (r : List S_impl_RecPhase) (i : Nat), l.drop i = r → recA l i r = true → ∀ t, i ≤ t → t < l.length → phIx (l.getD t z_impl_RecPhase).f0 l 0 = (t : Int) := fun r => by
    induction r with
    | nil => intro i hd _ t h1 h2; have := List.drop_eq_nil_iff.1 hd; omega
    | cons x r ih =>
      intro i hd hr t h1 h2
      have hi : i < l.length := by
        refine Nat.lt_of_not_le fun hle => ?_
        rw [List.drop_eq_nil_iff.2 hle] at hd; cases hd
      have e := List.drop_eq_getElem_cons hi
      rw [hd] at e; injection e with e1 e2
      rw [show recA l i (x :: r) = (ownB l i x && recA l (i + 1) r) from rfl, Bool.and_eq_true] at hr
      by_cases c : t = i
      · subst c
        rw [getD_eq _ l t hi, ← e1]
        have := hr.1
        unfold ownB at this
        rw [Bool.and_eq_true] at this
        exact of_decide_eq_true this.2
      · exact ih (i + 1) e2.symm hr.2 t (by omega) h2
  exact keyA l 0 rfl h.2.1 j (Nat.zero_le _) hj
def reachN (l : List S_impl_RecPhase) : Nat → ByteArray → ByteArray → Bool
  | 0, a, t => decide (a = t)
  | n + 1, a, t => decide (a = t) || (decide (0 ≤ phIx a l 0) && (reachN l n (l.getD (phIx a l 0).toNat z_impl_RecPhase).f6 t || reachN l n (l.getD (phIx a l 0).toNat z_impl_RecPhase).f7 t))
theorem reach_no {l : List S_impl_RecPhase} (n : Nat) (a t : ByteArray) (h : phIx a l 0 < 0) : reachN l n a t = decide (a = t) := by
  cases n with
  | zero => rfl
  | succ n => unfold reachN; rw [decide_eq_false (by omega : ¬ 0 ≤ phIx a l 0)]; simp
theorem reach_ev {l : List S_impl_RecPhase} (h : recB l = true) (hl : l.length ≤ 12) (t : ByteArray) : ∀ (n : Nat) (a : ByteArray), phIx a l 0 < 0 ∨ (l.length : Int) ≤ n + phIx a l 0 → Ev (fun k => laws_wrReach.f k l a t) (reachN l n a t)
  | n, a, hn => by
    refine Ev.step (fun k => by rw [laws_wrReach.f]) (ev_split (fun c => ev_ret ?_) (fun c => ?_))
    · have c := ba_iff.1 c
      cases n with
      | zero => unfold reachN; rw [decide_eq_true c]
      | succ n => unfold reachN; rw [decide_eq_true c]; rfl
    have c' : ¬ a = t := fun e => c (ba_iff.2 e)
    have key : ∀ R : Bool, (phIx a l 0 < 0 → R = false) → (∀ j : Nat, j < l.length → phIx a l 0 = (j : Int) → Ev (fun k => (laws_wrReach.f k l (l.getD j z_impl_RecPhase).f6 t).bind fun t817 => (if t817 = true then (some true) else ((laws_wrReach.f k l (l.getD j z_impl_RecPhase).f7 t).bind fun t818 => (some t818)))) R) → Ev (fun k => laws_wrReach.l0 k l a t 0) R := fun R h1 h2 =>
      loopL z_impl_RecPhase l (P := fun i r => phIx a r i = phIx a l 0 → Ev (fun k => laws_wrReach.l0 k l a t (i : Int)) R)
        (fun e => by refine Ev.step (fun k => by rw [laws_wrReach.l0]) (ev_neg (by omega) (ev_ret (h1 (by rw [← e]; show (-1 : Int) < 0; omega)).symm))) (fun i x r hi hx hm _ ih e => by
          refine Ev.step (fun k => by rw [laws_wrReach.l0]) (ev_pos (by omega) (ev_pos (by omega) ?_))
          rw [rdRP, wsucc hi (by omega)]
          rw [show phIx a (x :: r) i = if x.f0 = a then (i : Int) else phIx a r (i + 1) from rfl] at e
          refine ev_split (fun c => ?_) (fun c => ?_)
          · rw [hx] at c
            rw [if_pos (ba_iff.1 c)] at e
            exact h2 i hi e.symm
          · rw [hx] at c
            rw [if_neg (fun q => c (ba_iff.2 q))] at e
            exact ih e) rfl
    cases n with
    | zero =>
      have hp : phIx a l 0 < 0 := by
        rcases phIx_at l a l 0 rfl with e | ⟨j, j1, _, j3, _⟩ <;> omega
      exact key _ (fun _ => by unfold reachN; exact decide_eq_false c') (fun j _ e => by omega)
    | succ n =>
      refine key _ (fun hp => by rw [reach_no _ _ _ hp]; exact decide_eq_false c') (fun j hj e => ?_)
      have hx := next_ok h hj
      have e6 := reach_ev h hl t n (l.getD j z_impl_RecPhase).f6 (by have := hx _ (.inl rfl); omega)
      have e7 := reach_ev h hl t n (l.getD j z_impl_RecPhase).f7 (by have := hx _ (.inr rfl); omega)
      unfold reachN
      rw [e, decide_eq_false c', decide_eq_true (by omega : (0 : Int) ≤ (j : Int)), Int.toNat_natCast, Bool.false_or, Bool.true_and]
      refine Ev.bind e6 (ev_b (fun d => ev_ret (by rw [d]; rfl)) (fun d => Ev.bind e7 (ev_ret (by rw [d]; rfl))))
def ofR (x : S_impl_RecPhase) : List ByteArray := if x.f1 = 2 then [x.f2, x.f3] else [x.f2]
theorem ofP_mem (x : S_impl_RecPhase) (z : ByteArray) : z ∈ ofP x ↔ z ∈ ofR x := by
  unfold ofP ofR
  split
  · rw [insertL_mem]; simp [or_comm]
  · exact Iff.rfl
theorem slots_mem {l : List S_impl_RecPhase} (h : recB l = true) (hl : l.length ≤ 12) (z : ByteArray) : ∀ (n : Nat) (a : ByteArray), phIx a l 0 < 0 ∨ (l.length : Int) ≤ n + phIx a l 0 → (z ∈ slotsN l n a ↔ ∃ x ∈ l, reachN l n a x.f0 = true ∧ z ∈ ofR x)
  | n, a, hn => by
    by_cases hp : phIx a l 0 < 0
    · have e1 : slotsN l n a = [] := by
        cases n with
        | zero => rfl
        | succ n => unfold slotsN; rw [if_pos hp]
      rw [e1]
      refine ⟨fun q => (by cases q), fun ⟨x, hx, hr, _⟩ => ?_⟩
      rw [reach_no _ _ _ hp, decide_eq_true_iff] at hr
      exact absurd hr.symm (phIx_no a l 0 hp x hx)
    · rcases phIx_at l a l 0 rfl with e | ⟨j, j1, _, j3, j4⟩
      · omega
      · cases n with
        | zero => exfalso; omega
        | succ n =>
          have hx := next_ok h j1
          have e6 := slots_mem h hl z n (l.getD j z_impl_RecPhase).f6 (by have := hx _ (.inl rfl); omega)
          have e7 := slots_mem h hl z n (l.getD j z_impl_RecPhase).f7 (by have := hx _ (.inr rfl); omega)
          have hm := mem_getD z_impl_RecPhase l j j1
          unfold slotsN reachN
          rw [j3, if_neg (by omega : ¬ (j : Int) < 0), Int.toNat_natCast, setW_mem, setW_mem, ofP_mem, e6, e7, decide_eq_true (by omega : (0 : Int) ≤ (j : Int))]
          simp only [Bool.true_and, Bool.or_eq_true, decide_eq_true_eq]
          constructor
          · rintro ((q | ⟨x, q1, q2, q3⟩) | ⟨x, q1, q2, q3⟩)
            · exact ⟨_, hm, .inl j4.symm, q⟩
            · exact ⟨x, q1, .inr (.inl q2), q3⟩
            · exact ⟨x, q1, .inr (.inr q2), q3⟩
          · rintro ⟨x, q1, q2 | q2 | q2, q3⟩
            · refine .inl (.inl ?_)
              obtain ⟨i, hi, rfl⟩ := List.getElem_of_mem q1
              have ho := own_ok h hi
              rw [getD_eq _ l i hi, ← q2, j3] at ho
              have : j = i := by omega
              subst this
              rw [getD_eq _ l j hi]; exact q3
            · exact .inl (.inr ⟨x, q1, q2, q3⟩)
            · exact .inr ⟨x, q1, q2, q3⟩
/-! ### the law's helpers -/
theorem texts_ev (l : List ByteArray) (hl : l.length ≤ 140737488351232) : Ev (fun k => laws_wrTexts.f k l l) true := by
  unfold laws_wrTexts.f
  refine ev_pos rfl (loopL ByteArray.empty l (P := fun i r => Ev (fun k => laws_wrTexts.l0 k l l (i : Int)) true)
    (by refine Ev.step (fun k => by rw [laws_wrTexts.l0]) ?_; exact ev_neg (by omega) (ev_ret rfl)) (fun i y r hi hx hm _ ih => ?_))
  refine Ev.step (fun k => by rw [laws_wrTexts.l0]) (ev_pos (by omega) (ev_pos (by omega) (ev_pos (by omega) (ev_pos rfl ?_))))
  rw [wsucc hi (by omega)]; exact ih
theorem wrHas_ev (l : List ByteArray) (a : ByteArray) (hl : l.length ≤ 140737488351232) : Ev (fun k => laws_wrHas.f k l a) (hasB l a) := by
  unfold laws_wrHas.f hasB
  refine loopL ByteArray.empty l (P := fun i r => Ev (fun k => laws_wrHas.l0 k l a (i : Int)) (r.any fun x => decide (x = a)))
    (by refine Ev.step (fun k => by rw [laws_wrHas.l0]) ?_; exact ev_neg (by omega) (ev_ret rfl)) (fun i y r hi hx hm _ ih => ?_)
  refine Ev.step (fun k => by rw [laws_wrHas.l0]) (ev_pos (by omega) (ev_pos (by omega) ?_))
  rw [wsucc hi (by omega), rdOf_nat, hx, List.any_cons]
  exact ev_split (fun c => ev_ret (by rw [decide_eq_true (ba_iff.1 c)]; rfl)) (fun c => ev_eq ih (by rw [decide_eq_false (fun e => c (ba_iff.2 e))]; rfl))
theorem wrAll_ev (l m : List ByteArray) (hl : l.length ≤ 140737488351232) (hm : m.length ≤ 140737488351232) (h : ∀ x ∈ l, x ∈ m) : Ev (fun k => laws_wrAll.f k l m) true := by
  unfold laws_wrAll.f
  refine loopL ByteArray.empty l (P := fun i r => Ev (fun k => laws_wrAll.l0 k l m (i : Int)) true)
    (by refine Ev.step (fun k => by rw [laws_wrAll.l0]) ?_; exact ev_neg (by omega) (ev_ret rfl)) (fun i y r hi hx hy _ ih => ?_)
  refine Ev.step (fun k => by rw [laws_wrAll.l0]) (ev_pos (by omega) (ev_pos (by omega) ?_))
  rw [wsucc hi (by omega), rdOf_nat, hx]
  exact Ev.bind (wrHas_ev m y hm) (ev_pos (hasB_iff.2 (h y hy)) ih)
/-! ### what is used -/
def usedL (l : List S_impl_RecPhase) (s : ByteArray) : List S_impl_RecPhase → List ByteArray
  | [] => []
  | x :: r => (if reachN l 13 s x.f0 = true then ofR x else []) ++ usedL l s r
theorem used_mem (l : List S_impl_RecPhase) (s z : ByteArray) : ∀ r : List S_impl_RecPhase, z ∈ usedL l s r ↔ ∃ x ∈ r, reachN l 13 s x.f0 = true ∧ z ∈ ofR x
  | [] => by simp [usedL]
  | x :: r => by
    rw [show usedL l s (x :: r) = (if reachN l 13 s x.f0 = true then ofR x else []) ++ usedL l s r from rfl, List.mem_append, used_mem l s z r]
    constructor
    · rintro (q | ⟨y, q1, q2⟩)
      · split at q
        · rename_i c; exact ⟨x, List.mem_cons_self .., c, q⟩
        · cases q
      · exact ⟨y, List.mem_cons_of_mem _ q1, q2⟩
    · rintro ⟨y, q1, q2, q3⟩
      rcases List.mem_cons.1 q1 with rfl | q1
      · left; rw [if_pos q2]; exact q3
      · exact .inr ⟨y, q1, q2, q3⟩
theorem fin_ev (sum B : Int) (u S : List ByteArray) (hs : sum = B) (hu : u.length ≤ 1000) (hS : S.length ≤ 1000) (h : ∀ z, z ∈ u ↔ z ∈ S) : Ev (fun k => (if sum = B then ((laws_wrAll.f k u S).bind fun t => (if t = true then ((laws_wrAll.f k S u).bind fun t2 => (some t2)) else (some false))) else (some false))) true :=
  ev_pos hs (Ev.bind (wrAll_ev u S (by omega) (by omega) (fun x hx => (h x).1 hx)) (ev_pos rfl (Ev.bind (wrAll_ev S u (by omega) (by omega) (fun x hx => (h x).2 hx)) (ev_ret rfl))))
theorem usedLoop2 {l : List S_impl_RecPhase} (h : recB l = true) (hl : l.length ≤ 12) (s : ByteArray) (B : Int) (S : List ByteArray) (hS : S.length ≤ 1000) (hm : ∀ z, z ∈ usedL l s l ↔ z ∈ S) : Ev (fun k => laws_FnRecBound.l2 k B [] 0 (l, s) B S) true := by
  have hR := specRec_ev l (by omega)
  rw [h] at hR
  have hn : phIx s l 0 < 0 ∨ (l.length : Int) ≤ 13 + phIx s l 0 := by
    rcases phIx_at l s l 0 rfl with e | ⟨j, j1, _, j3, _⟩ <;> omega
  have key := loopL z_impl_RecPhase l (P := fun i r => ∀ acc : List ByteArray, acc.length ≤ 2 * i → (∀ z, z ∈ acc ++ usedL l s r ↔ z ∈ S) → Ev (fun k => laws_FnRecBound.l2 k B acc (i : Int) (l, s) B S) true)
    (fun acc ha hz => by
      refine Ev.step (fun k => by rw [laws_FnRecBound.l2]) ?_
      dsimp only
      exact ev_neg (by omega) (fin_ev B B acc S rfl (by omega) hS (fun z => by rw [← hz z]; simp [usedL]))) (fun i x r hi hx _ _ ih acc ha hz => ?_)
  · exact key [] (Nat.zero_le _) (fun z => by rw [List.nil_append]; exact hm z)
  refine Ev.step (fun k => by rw [laws_FnRecBound.l2]) ?_
  dsimp only
  refine ev_pos (by omega) (Ev.bind hR (ev_pos rfl (ev_pos (by omega) ?_)))
  rw [rdRP, hx, wsucc hi (by omega)]
  have eR := reach_ev h hl x.f0 13 s hn
  rw [show usedL l s (x :: r) = (if reachN l 13 s x.f0 = true then ofR x else []) ++ usedL l s r from rfl] at hz
  refine Ev.bind eR (ev_b (fun c => ev_pos (by omega) (ev_split (fun d => ev_pos (by omega) ?_) (fun d => ?_))) (fun c => ?_))
  · rw [if_pos c] at hz; unfold ofR at hz; rw [if_pos d] at hz
    exact ih _ (by simp; omega) (fun z => by rw [← hz z]; simp)
  · rw [if_pos c] at hz; unfold ofR at hz; rw [if_neg d] at hz
    exact ih _ (by simp; omega) (fun z => by rw [← hz z]; simp)
  · rw [c, if_neg Bool.false_ne_true] at hz
    exact ih _ (by omega) (fun z => by rw [← hz z]; simp)
theorem usedLoop3 {l : List S_impl_RecPhase} (h : recB l = true) (hl : l.length ≤ 12) (s : ByteArray) (B : Int) (S : List ByteArray) (hS : S.length ≤ 1000) (hm : ∀ z, z ∈ usedL l s l ↔ z ∈ S) : Ev (fun k => laws_FnRecBound.l3 k B [] 0 (l, s) B S) true := by
  have hR := specRec_ev l (by omega)
  rw [h] at hR
  have hn : phIx s l 0 < 0 ∨ (l.length : Int) ≤ 13 + phIx s l 0 := by
    rcases phIx_at l s l 0 rfl with e | ⟨j, j1, _, j3, _⟩ <;> omega
  have key := loopL z_impl_RecPhase l (P := fun i r => ∀ acc : List ByteArray, acc.length ≤ 2 * i → (∀ z, z ∈ acc ++ usedL l s r ↔ z ∈ S) → Ev (fun k => laws_FnRecBound.l3 k B acc (i : Int) (l, s) B S) true)
    (fun acc ha hz => by
      refine Ev.step (fun k => by rw [laws_FnRecBound.l3]) ?_
      dsimp only
      exact ev_neg (by omega) (fin_ev B B acc S rfl (by omega) hS (fun z => by rw [← hz z]; simp [usedL]))) (fun i x r hi hx _ _ ih acc ha hz => ?_)
  · exact key [] (Nat.zero_le _) (fun z => by rw [List.nil_append]; exact hm z)
  refine Ev.step (fun k => by rw [laws_FnRecBound.l3]) ?_
  dsimp only
  refine ev_pos (by omega) (Ev.bind hR (ev_pos rfl (ev_pos (by omega) ?_)))
  rw [rdRP, hx, wsucc hi (by omega)]
  have eR := reach_ev h hl x.f0 13 s hn
  rw [show usedL l s (x :: r) = (if reachN l 13 s x.f0 = true then ofR x else []) ++ usedL l s r from rfl] at hz
  refine Ev.bind eR (ev_b (fun c => ev_pos (by omega) (ev_split (fun d => ev_pos (by omega) ?_) (fun d => ?_))) (fun c => ?_))
  · rw [if_pos c] at hz; unfold ofR at hz; rw [if_pos d] at hz
    exact ih _ (by simp; omega) (fun z => by rw [← hz z]; simp)
  · rw [if_pos c] at hz; unfold ofR at hz; rw [if_neg d] at hz
    exact ih _ (by simp; omega) (fun z => by rw [← hz z]; simp)
  · rw [c, if_neg Bool.false_ne_true] at hz
    exact ih _ (by omega) (fun z => by rw [← hz z]; simp)
/-! ### along the greatest way -/
theorem ev_uniq {α : Type} {g : Nat → Option α} {a b : α} (h1 : Ev g a) (h2 : Ev g b) : a = b := by
  obtain ⟨m, h1⟩ := h1
  obtain ⟨n, h2⟩ := h2
  have e1 := h1 (m + n) (by omega)
  have e2 := h2 (m + n) (by omega)
  rw [e1] at e2; injection e2
theorem hn13 {l : List S_impl_RecPhase} (hl : l.length ≤ 12) (a : ByteArray) (n : Nat) (hn : 12 ≤ n) : phIx a l 0 < 0 ∨ (l.length : Int) ≤ n + phIx a l 0 := by
  rcases phIx_at l a l 0 rfl with e | ⟨j, j1, _, j3, _⟩ <;> omega
theorem bnd_12 {l : List S_impl_RecPhase} (h : recB l = true) (hl : l.length ≤ 12) (a : ByteArray) : bndN l 12 a = bndN l 13 a :=
  ev_uniq (specBnd_ev h hl 12 a (by omega) (hn13 hl a 12 (by omega))) (specBnd_ev h hl 13 a (by omega) (hn13 hl a 13 (by omega)))
theorem implRB_ev {l : List S_impl_RecPhase} (h : recB l = true) (hl : l.length ≤ 12) (hz : ∀ x ∈ l, SzR x) (a : ByteArray) : Ev (fun k => impl_RecBound.f k l a) (bndN l 13 a) := by
  unfold impl_RecBound.f
  have hI := implRec_ev l (by omega) hz
  rw [h] at hI
  exact Ev.bind hI (ev_pos rfl (Ev.bind (implBnd_ev h hl 13 a (by omega) (hn13 hl a 13 (by omega))) (ev_ret rfl)))
theorem wayLoop {l : List S_impl_RecPhase} (h : recB l = true) (hl : l.length ≤ 12) (hz : ∀ x ∈ l, SzR x) (x0 : List Int) (s : ByteArray) (B : Int) (S : List ByteArray) (hB : 0 ≤ B ∧ B ≤ 13000) (hS : S.length ≤ 1000) (hm : ∀ z, z ∈ usedL l s l ↔ z ∈ S) :
    ∀ (m k0 : Nat) (sum : Int) (a : ByteArray), k0 + m = l.length → (phIx a l 0 < 0 ∨ (k0 : Int) ≤ phIx a l 0) → 0 ≤ sum → sum + bndN l 13 a = B → Ev (fun k => laws_FnRecBound.l0 k x0 sum [] a (k0 : Int) (l, s) B S) true
  | 0, k0, sum, a, hk, hp, h0, hs => by
    refine Ev.step (fun k => by rw [laws_FnRecBound.l0]) ?_
    dsimp only
    have hp' : phIx a l 0 < 0 := by
      rcases phIx_at l a l 0 rfl with e | ⟨j, j1, _, j3, _⟩ <;> omega
    have e0 : bndN l 13 a = 0 := by rw [bndN, if_pos hp']
    have : sum = B := by omega
    subst this
    exact ev_neg (by omega) (usedLoop3 h hl s sum S hS hm)
  | m + 1, k0, sum, a, hk, hp, h0, hs => by
    have hR := specRec_ev l (by omega)
    rw [h] at hR
    refine Ev.step (fun k => by rw [laws_FnRecBound.l0]) ?_
    dsimp only
    refine ev_pos (by omega) (Ev.bind hR (ev_pos rfl ?_))
    refine loopL z_impl_RecPhase l (P := fun i r => phIx a r i = phIx a l 0 → Ev (fun k => laws_FnRecBound.l1 k x0 sum [] a (k0 : Int) (i : Int) (l, s) B S) true)
      (fun e => ?_) (fun i x r hi hx hxm _ ih e => ?_) rfl
    · refine Ev.step (fun k => by rw [laws_FnRecBound.l1]) ?_
      dsimp only
      rw [wsucc (i := k0) (n := l.length) (by omega) (by omega)]
      have hp' : phIx a l 0 < 0 := by rw [← e]; show (-1 : Int) < 0; omega
      exact ev_neg (by omega) (wayLoop h hl hz x0 s B S hB hS hm m (k0 + 1) sum a (by omega) (.inl hp') h0 hs)
    · refine Ev.step (fun k => by rw [laws_FnRecBound.l1]) ?_
      dsimp only
      refine ev_pos (by omega) (ev_pos (by omega) ?_)
      rw [rdRP, hx, wsucc (i := k0) (n := l.length) (by omega) (by omega), wsucc hi (by omega)]
      rw [show phIx a (x :: r) i = if x.f0 = a then (i : Int) else phIx a r (i + 1) from rfl] at e
      refine ev_split (fun c => ?_) (fun c => ?_)
      · rw [if_pos (ba_iff.1 c)] at e
        have e6 := implRB_ev h hl hz x.f6
        have e7 := implRB_ev h hl hz x.f7
        have hph := phaseB_w ((recB_ph h).2 x hxm)
        have hnx := next_ok h hi
        rw [hx] at hnx
        have n6 := hnx _ (.inl rfl)
        have n7 := hnx _ (.inr rfl)
        have r6 := bnd_range h 13 x.f6
        have r7 := bnd_range h 13 x.f7
        have hb : bndN l 13 a = x.f5 + (if bndN l 13 x.f6 < bndN l 13 x.f7 then bndN l 13 x.f7 else bndN l 13 x.f6) := by
          rw [show bndN l 13 a = if phIx a l 0 < 0 then 0 else (l.getD (phIx a l 0).toNat z_impl_RecPhase).f5 + (if bndN l 12 (l.getD (phIx a l 0).toNat z_impl_RecPhase).f6 < bndN l 12 (l.getD (phIx a l 0).toNat z_impl_RecPhase).f7 then bndN l 12 (l.getD (phIx a l 0).toNat z_impl_RecPhase).f7 else bndN l 12 (l.getD (phIx a l 0).toNat z_impl_RecPhase).f6) from rfl]
          rw [← e, if_neg (by omega), Int.toNat_natCast, hx, bnd_12 h hl, bnd_12 h hl]
        rw [hb] at hs
        have hw : wrap64 (sum + x.f5) = sum + x.f5 := by
          split at hs <;> exact w64 (by omega) (by omega)
        rw [hw]
        have ep := hp
        refine Ev.bind e6 (Ev.bind e7 (ev_split (fun d => ?_) (fun d => ?_)))
        · rw [if_neg (by omega)] at hs
          exact wayLoop h hl hz x0 s B S hB hS hm m (k0 + 1) _ x.f6 (by omega) (by omega) (by omega) (by omega)
        · refine wayLoop h hl hz x0 s B S hB hS hm m (k0 + 1) _ x.f7 (by omega) (by omega) (by omega) ?_
          split at hs <;> omega
      · rw [if_neg (fun q => c (ba_iff.2 q))] at e
        exact ih e
theorem FnRecBound : ∀ (x0 : List Int), ((x0.length ≤ 9223372036854775807 ∧ x0.length * 1 ≤ 140737488351232) ∧ ∀ z ∈ x0, (Lit.int .u8 z).wf = true) → ∃ k, laws_FnRecBound.f k x0 = some true := by
  intro x hx
  obtain ⟨⟨_, _⟩, xk⟩ := hx
  obtain ⟨⟨l, s⟩, hd, ⟨q1, q2⟩⟩ := drawBound_ok x xk
  dsimp only at q1 q2
  have hz : ∀ z ∈ l, SzR z := fun z hz => (q2 z hz).sz
  have hS := specRec_ev l (by omega)
  have hI := implRec_ev l (by omega) hz
  have hb12 : recB l = true → l.length ≤ 12 := fun h => (recB_ph h).1
  refine Ev.rounds ?_
  unfold laws_FnRecBound.f
  refine ev_split (fun _ => ev_ret rfl) (fun _ => Ev.bind hd ?_)
  dsimp only
  by_cases c : recB l = true
  · have hl := hb12 c
    have eB := implRB_ev c hl hz s
    have eB2 : Ev (fun k => spec_RecBound.f k l s) (bndN l 13 s) := by
      unfold spec_RecBound.f
      rw [c] at hS
      exact Ev.bind hS (ev_pos rfl (Ev.bind (specBnd_ev c hl 13 s (by omega) (hn13 hl s 13 (by omega))) (ev_ret rfl)))
    have eS : Ev (fun k => spec_RecSlots.f k l s) (slotsN l 13 s) := by
      unfold spec_RecSlots.f
      rw [c] at hS
      exact Ev.bind hS (ev_pos rfl (Ev.bind (specSlots_ev c hl 13 s (hn13 hl s 13 (by omega))) (ev_ret rfl)))
    have eI : Ev (fun k => impl_RecSlots.f k l s) (slotsN l 13 s) := by
      unfold impl_RecSlots.f
      rw [c] at hI
      exact Ev.bind hI (ev_pos rfl (Ev.bind (implSlots_ev c hl 13 s (hn13 hl s 13 (by omega))) (ev_ret rfl)))
    obtain ⟨s1, s2⟩ := slots_ok l 13 s
    have hlen := pool_len l s1 s2
    have hrg := bnd_range c 13 s
    have hmem : ∀ z, z ∈ usedL l s l ↔ z ∈ slotsN l 13 s := fun z => by rw [used_mem, slots_mem c hl z 13 s (hn13 hl s 13 (by omega))]
    refine Ev.bind eB (Ev.bind eI (Ev.bind eB2 (ev_pos rfl (Ev.bind eS (Ev.bind (texts_ev _ (by omega)) (ev_pos rfl ?_))))))
    exact wayLoop c hl hz x s _ _ (by omega) (by omega) hmem l.length 0 0 s (by omega) (by
      rcases phIx_at l s l 0 rfl with e | ⟨j, j1, _, j3, _⟩ <;> omega) (by omega) (by omega)
  · have c' : recB l = false := by simpa using c
    rw [c'] at hS hI
    have eB : Ev (fun k => impl_RecBound.f k l s) 0 := by
      unfold impl_RecBound.f
      exact Ev.bind hI (ev_neg (by simp) (ev_ret rfl))
    have eB2 : Ev (fun k => spec_RecBound.f k l s) 0 := by
      unfold spec_RecBound.f
      exact Ev.bind hS (ev_neg (by simp) (ev_ret rfl))
    have eS : Ev (fun k => spec_RecSlots.f k l s) [] := by
      unfold spec_RecSlots.f
      exact Ev.bind hS (ev_neg (by simp) (ev_ret rfl))
    have eI : Ev (fun k => impl_RecSlots.f k l s) [] := by
      unfold impl_RecSlots.f
      exact Ev.bind hI (ev_neg (by simp) (ev_ret rfl))
    refine Ev.bind eB (Ev.bind eI (Ev.bind eB2 (ev_pos rfl (Ev.bind eS (Ev.bind (texts_ev _ (by simp)) (ev_pos rfl ?_))))))
    have F := fin_ev 0 0 [] [] rfl (by simp) (by simp) (fun z => Iff.rfl)
    refine Ev.step (fun k => by rw [laws_FnRecBound.l0]) ?_
    dsimp only
    refine ev_split (fun _ => Ev.bind hS (ev_neg (by simp) ?_)) (fun _ => ?_)
    · refine Ev.step (fun k => by rw [laws_FnRecBound.l2]) ?_
      dsimp only
      exact ev_split (fun _ => Ev.bind hS (ev_neg (by simp) F)) (fun _ => F)
    · refine Ev.step (fun k => by rw [laws_FnRecBound.l3]) ?_
      dsimp only
      exact ev_split (fun _ => Ev.bind hS (ev_neg (by simp) F)) (fun _ => F)
end Go.Proofs.Ytodeegjblililaa.Pure
