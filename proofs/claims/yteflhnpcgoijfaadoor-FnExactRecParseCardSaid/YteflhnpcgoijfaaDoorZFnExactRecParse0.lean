import Derived.Test.YteflhnpcgoijfaaDoorY1
set_option linter.unusedVariables false
namespace Go.Proofs.YteflhnpcgoijfaaDoor.RX
open Go Go.RowKit Go.Aw
structure S_impl_RecPhase where
  f0 : ByteArray
  f1 : Int
  f2 : ByteArray
  f3 : ByteArray
  f4 : Int
  f5 : Int
  f6 : ByteArray
  f7 : ByteArray
def z_impl_RecPhase : S_impl_RecPhase := ⟨(⟨#[]⟩ : ByteArray), (0 : Int), (⟨#[]⟩ : ByteArray), (⟨#[]⟩ : ByteArray), (0 : Int), (0 : Int), (⟨#[]⟩ : ByteArray), (⟨#[]⟩ : ByteArray)⟩
def rd_impl_RecPhase (xs : List S_impl_RecPhase) (i : Int) : S_impl_RecPhase := xs.getD i.toNat z_impl_RecPhase
def spec_l43Lines.l0 : Nat → ByteArray → List ByteArray → Int → Int → Option (List ByteArray)
  | 0, _, _, _, _ => none
  | k + 1, a0, x3, x4, x5 => (if x5 < (a0.size : Int) then (if 0 ≤ x5 then (if (bt a0 x5) = 10 then (if 0 ≤ x4 then (if x4 ≤ x5 then (if x5 ≤ (a0.size : Int) then (if (x3.length + 1) * 16 ≤ 140737488355328 then (spec_l43Lines.l0 k a0 (x3 ++ ([(a0.extract (x4).toNat (x5).toNat)] : List ByteArray)) (wrap64 (x5 + 1)) (wrap64 (x5 + 1))) else none) else none) else none) else none) else (spec_l43Lines.l0 k a0 x3 x4 (wrap64 (x5 + 1)))) else none) else (if x4 < (a0.size : Int) then (if 0 ≤ x4 then (if x4 ≤ (a0.size : Int) then (if (x3.length + 1) * 16 ≤ 140737488355328 then (some (x3 ++ ([(a0.extract (x4).toNat a0.size)] : List ByteArray))) else none) else none) else none) else (some x3)))
def spec_l43Lines.f (k : Nat) (a0 : ByteArray) : Option (List ByteArray) := (spec_l43Lines.l0 k a0 ([] : List ByteArray) 0 0)
def spec_l41In.f (a0 : Int) (a1 : Int) (a2 : Int) : Option (Bool) := (if a0 ≥ a1 then (some (decide (a0 ≤ a2))) else (some false))
mutual
def spec_l43Words.j0 : Nat → List ByteArray → ByteArray → ByteArray → Int → Option ((List ByteArray) × Bool)
  | 0, _, _, _, _ => none
  | k + 1, x4, x5, x6_1, x7 => (if 0 ≤ x7 then (if x7 < (x6_1.size : Int) then (if (bt x6_1 x7) = 32 then (if x5.toList = (⟨#[]⟩ : ByteArray).toList then (spec_l43Words.l0 k x4 x5 x6_1 (wrap64 (x7 + 1))) else (if (x4.length + 1) * 16 ≤ 140737488355328 then (spec_l43Words.l0 k (x4 ++ ([x5] : List ByteArray)) (⟨#[]⟩ : ByteArray) x6_1 (wrap64 (x7 + 1))) else none)) else (if x7 ≤ (wrap64 (x7 + 1)) then (if (wrap64 (x7 + 1)) ≤ (x6_1.size : Int) then (if ((x5.size + (x6_1.extract (x7).toNat (wrap64 (x7 + 1)).toNat).size : Nat) : Int) ≤ 9223372036854775807 then ((spec_l41In.f (wrap64 (bt x6_1 x7)) 33 126).bind fun t11 => (if t11 = true then (if ((x5 ++ (x6_1.extract (x7).toNat (wrap64 (x7 + 1)).toNat)).size : Int) > 24 then (some (([] : List ByteArray), false)) else (spec_l43Words.l0 k x4 (x5 ++ (x6_1.extract (x7).toNat (wrap64 (x7 + 1)).toNat)) x6_1 (wrap64 (x7 + 1)))) else (some (([] : List ByteArray), false)))) else none) else none) else none)) else none) else none)
def spec_l43Words.l0 : Nat → List ByteArray → ByteArray → ByteArray → Int → Option ((List ByteArray) × Bool)
  | 0, _, _, _, _ => none
  | k + 1, x4, x5, x6, x7 => (if x7 < (x6.size : Int) then (if 0 ≤ x7 then (if (bt x6 x7) = 35 then (if x7 ≤ (x6.size : Int) then (if (((x6.extract 0 (x7).toNat).size + (⟨#[32]⟩ : ByteArray).size : Nat) : Int) ≤ 9223372036854775807 then (spec_l43Words.j0 k x4 x5 ((x6.extract 0 (x7).toNat) ++ (⟨#[32]⟩ : ByteArray)) x7) else none) else none) else (spec_l43Words.j0 k x4 x5 x6 x7)) else none) else (some (x4, true)))
end
def spec_l43Words.f (k : Nat) (a0 : ByteArray) : Option ((List ByteArray) × Bool) := (if ((a0.size + (⟨#[32]⟩ : ByteArray).size : Nat) : Int) ≤ 9223372036854775807 then (spec_l43Words.l0 k ([] : List ByteArray) (⟨#[]⟩ : ByteArray) (a0 ++ (⟨#[32]⟩ : ByteArray)) 0) else none)
def spec_l43Number.l0 : Nat → ByteArray → Int → Int → Option (Int)
  | 0, _, _, _ => none
  | k + 1, a0, x3, x4 => (if x4 < (a0.size : Int) then (if 0 ≤ x4 then (if (bt a0 x4) < 48 then (some (-1)) else (if (bt a0 x4) > 57 then (some (-1)) else (spec_l43Number.l0 k a0 (wrap64 ((wrap64 ((wrap64 (x3 * 10)) + (wrap64 (bt a0 x4)))) - 48)) (wrap64 (x4 + 1))))) else none) else (some x3))
def spec_l43Number.l1 : Nat → ByteArray → Int → Int → Option (Int)
  | 0, _, _, _ => none
  | k + 1, a0, x3_1, x4_1 => (if x4_1 < (a0.size : Int) then (if 0 ≤ x4_1 then (if (bt a0 x4_1) < 48 then (some (-1)) else (if (bt a0 x4_1) > 57 then (some (-1)) else (spec_l43Number.l1 k a0 (wrap64 ((wrap64 ((wrap64 (x3_1 * 10)) + (wrap64 (bt a0 x4_1)))) - 48)) (wrap64 (x4_1 + 1))))) else none) else (some x3_1))
def spec_l43Number.f (k : Nat) (a0 : ByteArray) : Option (Int) := ((spec_l41In.f (a0.size : Int) 1 4).bind fun t22 => (if t22 = true then (if (a0.size : Int) > 1 then (if 0 < (a0.size : Int) then (if (bt a0 0) = 48 then (some (-1)) else (spec_l43Number.l0 k a0 0 0)) else none) else (spec_l43Number.l1 k a0 0 0)) else (some (-1))))
def spec_l43Tail.f (k : Nat) (a0_0 : ByteArray) (a0_1 : Int) (a0_2 : ByteArray) (a0_3 : ByteArray) (a0_4 : Int) (a0_5 : Int) (a0_6 : ByteArray) (a0_7 : ByteArray) (l1 : List ByteArray) : Option (ByteArray × Int × ByteArray × ByteArray × Int × Int × ByteArray × ByteArray × Bool) := (if (l1.length : Int) = 6 then (if 0 < (l1.length : Int) then (if (rdOf ByteArray.empty l1 0).toList = (⟨#[119, 105, 116, 104, 105, 110]⟩ : ByteArray).toList then (if 2 < (l1.length : Int) then (if (rdOf ByteArray.empty l1 2).toList = (⟨#[116, 104, 101, 110]⟩ : ByteArray).toList then (if 4 < (l1.length : Int) then (if (rdOf ByteArray.empty l1 4).toList = (⟨#[101, 108, 115, 101]⟩ : ByteArray).toList then (if 1 < (l1.length : Int) then ((spec_l43Number.f k (rdOf ByteArray.empty l1 1)).bind fun t31 => (if 3 < (l1.length : Int) then (if 5 < (l1.length : Int) then (some (a0_0, a0_1, a0_2, a0_3, a0_4, t31, rdOf ByteArray.empty l1 3, rdOf ByteArray.empty l1 5, true)) else none) else none)) else none) else (some (a0_0, a0_1, a0_2, a0_3, a0_4, a0_5, a0_6, a0_7, false))) else none) else (some (a0_0, a0_1, a0_2, a0_3, a0_4, a0_5, a0_6, a0_7, false))) else none) else (some (a0_0, a0_1, a0_2, a0_3, a0_4, a0_5, a0_6, a0_7, false))) else none) else (some (a0_0, a0_1, a0_2, a0_3, a0_4, a0_5, a0_6, a0_7, false)))
def spec_l41NameOk.l0 : Nat → ByteArray → Int → Option (Bool)
  | 0, _, _ => none
  | k + 1, a0, x3 => (if x3 < (a0.size : Int) then (if 0 ≤ x3 then (if (bt a0 x3) ≥ 97 then (if (bt a0 x3) ≤ 122 then (spec_l41NameOk.l0 k a0 (wrap64 (x3 + 1))) else (if (bt a0 x3) ≥ 48 then (if (bt a0 x3) ≤ 57 then (spec_l41NameOk.l0 k a0 (wrap64 (x3 + 1))) else (if (bt a0 x3) = 45 then (spec_l41NameOk.l0 k a0 (wrap64 (x3 + 1))) else (some false))) else (if (bt a0 x3) = 45 then (spec_l41NameOk.l0 k a0 (wrap64 (x3 + 1))) else (some false)))) else (if (bt a0 x3) ≥ 48 then (if (bt a0 x3) ≤ 57 then (spec_l41NameOk.l0 k a0 (wrap64 (x3 + 1))) else (if (bt a0 x3) = 45 then (spec_l41NameOk.l0 k a0 (wrap64 (x3 + 1))) else (some false))) else (if (bt a0 x3) = 45 then (spec_l41NameOk.l0 k a0 (wrap64 (x3 + 1))) else (some false)))) else none) else (some true))
def spec_l41NameOk.f (k : Nat) (a0 : ByteArray) : Option (Bool) := ((spec_l41In.f (a0.size : Int) 1 8).bind fun t115 => (if t115 = true then (spec_l41NameOk.l0 k a0 0) else (some false)))
def spec_RecEnd.f (a0 : ByteArray) : Option (Int) := (if a0.toList = (⟨#[103, 111, 111, 100]⟩ : ByteArray).toList then (some 1) else (if a0.toList = (⟨#[115, 97, 118, 101, 100]⟩ : ByteArray).toList then (some 2) else (if a0.toList = (⟨#[115, 99, 114, 97, 112, 112, 101, 100]⟩ : ByteArray).toList then (some 3) else (some 0))))
def spec_l41PlainOk.f (k : Nat) (a0 : ByteArray) : Option (Bool) := ((spec_l41NameOk.f k a0).bind fun t146 => (if t146 = true then ((spec_RecEnd.f a0).bind fun t147 => (some (decide (t147 = 0)))) else (some false)))
def spec_l41ArgsOk.f (k : Nat) (a0_0 : ByteArray) (a0_1 : Int) (a0_2 : ByteArray) (a0_3 : ByteArray) (a0_4 : Int) (a0_5 : Int) (a0_6 : ByteArray) (a0_7 : ByteArray) : Option (Bool) := (if a0_1 = 1 then ((spec_l41NameOk.f k a0_2).bind fun t197 => (if t197 = true then ((spec_l41NameOk.f k a0_3).bind fun t198 => (if t198 = true then ((spec_l41In.f a0_4 1 1000).bind fun t199 => (some t199)) else (some false))) else (some false))) else (if a0_1 = 2 then ((spec_l41NameOk.f k a0_2).bind fun t200 => (if t200 = true then ((spec_l41NameOk.f k a0_3).bind fun t201 => (if t201 = true then (if a0_2.toList = a0_3.toList then (some false) else ((spec_l41In.f a0_4 1 1000).bind fun t202 => (some t202))) else (some false))) else (some false))) else (if a0_1 = 3 then ((spec_l41NameOk.f k a0_2).bind fun t203 => (if t203 = true then (if a0_3.toList = (⟨#[]⟩ : ByteArray).toList then ((spec_l41In.f a0_4 1 a0_5).bind fun t204 => (some t204)) else (some false)) else (some false))) else (if a0_1 = 4 then ((spec_l41NameOk.f k a0_2).bind fun t205 => (if t205 = true then (if a0_3.toList = (⟨#[]⟩ : ByteArray).toList then (some (decide (a0_4 = 0))) else (some false)) else (some false))) else (if a0_1 = 5 then ((spec_l41NameOk.f k a0_2).bind fun t206 => (if t206 = true then (if a0_3.toList = (⟨#[]⟩ : ByteArray).toList then (some (decide (a0_4 = 0))) else (some false)) else (some false))) else (some false))))))
def spec_RecPhaseOk.f (k : Nat) (a0_0 : ByteArray) (a0_1 : Int) (a0_2 : ByteArray) (a0_3 : ByteArray) (a0_4 : Int) (a0_5 : Int) (a0_6 : ByteArray) (a0_7 : ByteArray) : Option (Bool) := ((spec_l41PlainOk.f k a0_0).bind fun t212 => (if t212 = true then ((spec_l41In.f a0_5 1 1000).bind fun t213 => (if t213 = true then ((spec_l41ArgsOk.f k a0_0 a0_1 a0_2 a0_3 a0_4 a0_5 a0_6 a0_7).bind fun t214 => (if t214 = true then ((spec_l41NameOk.f k a0_6).bind fun t215 => (if t215 = true then ((spec_l41NameOk.f k a0_7).bind fun t216 => (some t216)) else (some false))) else (some false))) else (some false))) else (some false)))
def spec_l43Phase.j0 : Nat → Bool → ByteArray → Int → ByteArray → ByteArray → Int → Int → ByteArray → ByteArray → Option (ByteArray × Int × ByteArray × ByteArray × Int × Int × ByteArray × ByteArray × Bool)
  | 0, _, _, _, _, _, _, _, _, _ => none
  | k + 1, x5, x1096000, x1096001, x1096002, x1096003, x1096004, x1096005, x1096006, x1096007 => (if x5 = true then ((spec_RecPhaseOk.f k x1096000 x1096001 x1096002 x1096003 x1096004 x1096005 x1096006 x1096007).bind fun t250 => (some (x1096000, x1096001, x1096002, x1096003, x1096004, x1096005, x1096006, x1096007, t250))) else (some (x1096000, x1096001, x1096002, x1096003, x1096004, x1096005, x1096006, x1096007, false)))
def spec_l43Phase.j1 : Nat → List ByteArray → Bool → Option (ByteArray × Int × ByteArray × ByteArray × Int × Int × ByteArray × ByteArray × Bool)
  | 0, _, _ => none
  | k + 1, l0, x83 => (if x83 = true then (if 1 < (l0.length : Int) then (if (rdOf ByteArray.empty l0 1).toList = (⟨#[116, 101, 115, 116]⟩ : ByteArray).toList then (if 3 ≤ (l0.length : Int) then ((spec_l43Tail.f k (rdOf ByteArray.empty l0 0) 5 (rdOf ByteArray.empty l0 2) (⟨#[]⟩ : ByteArray) 0 0 (⟨#[]⟩ : ByteArray) (⟨#[]⟩ : ByteArray) (l0.drop (3 : Int).toNat)).bind fun t257 => (spec_l43Phase.j0 k t257.2.2.2.2.2.2.2.2 t257.1 t257.2.1 t257.2.2.1 t257.2.2.2.1 t257.2.2.2.2.1 t257.2.2.2.2.2.1 t257.2.2.2.2.2.2.1 t257.2.2.2.2.2.2.2.1)) else none) else (if 3 ≤ (l0.length : Int) then ((spec_l43Tail.f k (rdOf ByteArray.empty l0 0) 4 (rdOf ByteArray.empty l0 2) (⟨#[]⟩ : ByteArray) 0 0 (⟨#[]⟩ : ByteArray) (⟨#[]⟩ : ByteArray) (l0.drop (3 : Int).toNat)).bind fun t258 => (spec_l43Phase.j0 k t258.2.2.2.2.2.2.2.2 t258.1 t258.2.1 t258.2.2.1 t258.2.2.2.1 t258.2.2.2.2.1 t258.2.2.2.2.2.1 t258.2.2.2.2.2.2.1 t258.2.2.2.2.2.2.2.1)) else none)) else none) else (spec_l43Phase.j0 k false (rdOf ByteArray.empty l0 0) 0 (rdOf ByteArray.empty l0 2) (⟨#[]⟩ : ByteArray) 0 0 (⟨#[]⟩ : ByteArray) (⟨#[]⟩ : ByteArray)))
def spec_l43Phase.j2 : Nat → List ByteArray → Bool → Option (ByteArray × Int × ByteArray × ByteArray × Int × Int × ByteArray × ByteArray × Bool)
  | 0, _, _ => none
  | k + 1, l0, x60 => (if x60 = true then (if 3 < (l0.length : Int) then ((spec_l43Number.f k (rdOf ByteArray.empty l0 3)).bind fun t255 => (if 4 ≤ (l0.length : Int) then ((spec_l43Tail.f k (rdOf ByteArray.empty l0 0) 3 (rdOf ByteArray.empty l0 2) (⟨#[]⟩ : ByteArray) t255 0 (⟨#[]⟩ : ByteArray) (⟨#[]⟩ : ByteArray) (l0.drop (4 : Int).toNat)).bind fun t256 => (spec_l43Phase.j0 k t256.2.2.2.2.2.2.2.2 t256.1 t256.2.1 t256.2.2.1 t256.2.2.2.1 t256.2.2.2.2.1 t256.2.2.2.2.2.1 t256.2.2.2.2.2.2.1 t256.2.2.2.2.2.2.2.1)) else none)) else none) else (if 1 < (l0.length : Int) then (if (rdOf ByteArray.empty l0 1).toList = (⟨#[99, 108, 101, 97, 110]⟩ : ByteArray).toList then (if (l0.length : Int) = 9 then (spec_l43Phase.j1 k l0 true) else (if (rdOf ByteArray.empty l0 1).toList = (⟨#[116, 101, 115, 116]⟩ : ByteArray).toList then (spec_l43Phase.j1 k l0 (decide ((l0.length : Int) = 9))) else (spec_l43Phase.j1 k l0 false))) else (if (rdOf ByteArray.empty l0 1).toList = (⟨#[116, 101, 115, 116]⟩ : ByteArray).toList then (spec_l43Phase.j1 k l0 (decide ((l0.length : Int) = 9))) else (spec_l43Phase.j1 k l0 false))) else none))
def spec_l43Phase.j3 : Nat → List ByteArray → Bool → Option (ByteArray × Int × ByteArray × ByteArray × Int × Int × ByteArray × ByteArray × Bool)
  | 0, _, _ => none
  | k + 1, l0, x17 => (if x17 = true then (if 1 < (l0.length : Int) then (if (rdOf ByteArray.empty l0 1).toList = (⟨#[109, 111, 118, 101]⟩ : ByteArray).toList then (if 3 < (l0.length : Int) then (if 4 < (l0.length : Int) then ((spec_l43Number.f k (rdOf ByteArray.empty l0 4)).bind fun t251 => (if 5 ≤ (l0.length : Int) then ((spec_l43Tail.f k (rdOf ByteArray.empty l0 0) 2 (rdOf ByteArray.empty l0 2) (rdOf ByteArray.empty l0 3) t251 0 (⟨#[]⟩ : ByteArray) (⟨#[]⟩ : ByteArray) (l0.drop (5 : Int).toNat)).bind fun t252 => (spec_l43Phase.j0 k t252.2.2.2.2.2.2.2.2 t252.1 t252.2.1 t252.2.2.1 t252.2.2.2.1 t252.2.2.2.2.1 t252.2.2.2.2.2.1 t252.2.2.2.2.2.2.1 t252.2.2.2.2.2.2.2.1)) else none)) else none) else none) else (if 3 < (l0.length : Int) then (if 4 < (l0.length : Int) then ((spec_l43Number.f k (rdOf ByteArray.empty l0 4)).bind fun t253 => (if 5 ≤ (l0.length : Int) then ((spec_l43Tail.f k (rdOf ByteArray.empty l0 0) 1 (rdOf ByteArray.empty l0 2) (rdOf ByteArray.empty l0 3) t253 0 (⟨#[]⟩ : ByteArray) (⟨#[]⟩ : ByteArray) (l0.drop (5 : Int).toNat)).bind fun t254 => (spec_l43Phase.j0 k t254.2.2.2.2.2.2.2.2 t254.1 t254.2.1 t254.2.2.1 t254.2.2.2.1 t254.2.2.2.2.1 t254.2.2.2.2.2.1 t254.2.2.2.2.2.2.1 t254.2.2.2.2.2.2.2.1)) else none)) else none) else none)) else none) else (if 1 < (l0.length : Int) then (if (rdOf ByteArray.empty l0 1).toList = (⟨#[104, 111, 108, 100]⟩ : ByteArray).toList then (spec_l43Phase.j2 k l0 (decide ((l0.length : Int) = 10))) else (spec_l43Phase.j2 k l0 false)) else none))
def spec_l43Phase.f (k : Nat) (l0 : List ByteArray) : Option (ByteArray × Int × ByteArray × ByteArray × Int × Int × ByteArray × ByteArray × Bool) := (if (l0.length : Int) < 9 then (some ((⟨#[]⟩ : ByteArray), 0, (⟨#[]⟩ : ByteArray), (⟨#[]⟩ : ByteArray), 0, 0, (⟨#[]⟩ : ByteArray), (⟨#[]⟩ : ByteArray), false)) else (if 0 < (l0.length : Int) then (if 2 < (l0.length : Int) then (if 1 < (l0.length : Int) then (if (rdOf ByteArray.empty l0 1).toList = (⟨#[102, 105, 108, 108]⟩ : ByteArray).toList then (if (l0.length : Int) = 11 then (spec_l43Phase.j3 k l0 true) else (if (rdOf ByteArray.empty l0 1).toList = (⟨#[109, 111, 118, 101]⟩ : ByteArray).toList then (spec_l43Phase.j3 k l0 (decide ((l0.length : Int) = 11))) else (spec_l43Phase.j3 k l0 false))) else (if (rdOf ByteArray.empty l0 1).toList = (⟨#[109, 111, 118, 101]⟩ : ByteArray).toList then (spec_l43Phase.j3 k l0 (decide ((l0.length : Int) = 11))) else (spec_l43Phase.j3 k l0 false))) else none) else none) else none))
def spec_l42At.l0 : Nat → List S_impl_RecPhase → ByteArray → Int → Option (Int)
  | 0, _, _, _ => none
  | k + 1, l0, a1, x5 => (if x5 < (l0.length : Int) then (if 0 ≤ x5 then (if ((rd_impl_RecPhase l0 x5).f0).toList = a1.toList then (some x5) else (spec_l42At.l0 k l0 a1 (wrap64 (x5 + 1)))) else none) else (some (-1)))
def spec_l42At.f (k : Nat) (l0 : List S_impl_RecPhase) (a1 : ByteArray) : Option (Int) := (spec_l42At.l0 k l0 a1 0)
def spec_l43Refers.l0 : Nat → List S_impl_RecPhase → List Int → Int → Option (Int × Int)
  | 0, _, _, _ => none
  | k + 1, l0, l1, x5 => (if x5 < (l0.length : Int) then (if 0 ≤ x5 then ((spec_RecEnd.f ((rd_impl_RecPhase l0 x5).f6)).bind fun t312 => (if t312 = 0 then ((spec_l42At.f k l0 ((rd_impl_RecPhase l0 x5).f6)).bind fun t313 => (if t313 ≤ x5 then (if x5 < (l1.length : Int) then (some (rd l1 x5, 4)) else none) else ((spec_RecEnd.f ((rd_impl_RecPhase l0 x5).f7)).bind fun t314 => (if t314 = 0 then ((spec_l42At.f k l0 ((rd_impl_RecPhase l0 x5).f7)).bind fun t315 => (if t315 ≤ x5 then (if x5 < (l1.length : Int) then (some (rd l1 x5, 4)) else none) else (spec_l43Refers.l0 k l0 l1 (wrap64 (x5 + 1))))) else (spec_l43Refers.l0 k l0 l1 (wrap64 (x5 + 1))))))) else ((spec_RecEnd.f ((rd_impl_RecPhase l0 x5).f7)).bind fun t316 => (if t316 = 0 then ((spec_l42At.f k l0 ((rd_impl_RecPhase l0 x5).f7)).bind fun t317 => (if t317 ≤ x5 then (if x5 < (l1.length : Int) then (some (rd l1 x5, 4)) else none) else (spec_l43Refers.l0 k l0 l1 (wrap64 (x5 + 1))))) else (spec_l43Refers.l0 k l0 l1 (wrap64 (x5 + 1))))))) else none) else (some (0, 0)))
def spec_l43Refers.f (k : Nat) (l0 : List S_impl_RecPhase) (l1 : List Int) : Option (Int × Int) := (spec_l43Refers.l0 k l0 l1 0)
def spec_RecParse.l0 : Nat → List S_impl_RecPhase → List Int → Int → List ByteArray → Option ((List S_impl_RecPhase) × Int × Int)
  | 0, _, _, _, _ => none
  | k + 1, x5, x6, x7, t319 => (if x7 < (t319.length : Int) then (if 0 ≤ x7 then ((spec_l43Words.f k (rdOf ByteArray.empty t319 x7)).bind fun t342 => (if t342.2 = true then (if (t342.1.length : Int) = 0 then (spec_RecParse.l0 k x5 x6 (wrap64 (x7 + 1)) t319) else ((spec_l43Phase.f k t342.1).bind fun t343 => (if t343.2.2.2.2.2.2.2.2 = true then ((spec_l42At.f k x5 t343.1).bind fun t344 => (if t344 ≥ 0 then (some (([] : List S_impl_RecPhase), wrap64 (x7 + 1), 3)) else (if (x5.length : Int) ≥ 12 then (some (([] : List S_impl_RecPhase), wrap64 (x7 + 1), 5)) else (if (x5.length + 1) * 104 ≤ 140737488355328 then (if (x6.length + 1) * 8 ≤ 140737488355328 then (spec_RecParse.l0 k (x5 ++ ([(⟨t343.1, t343.2.1, t343.2.2.1, t343.2.2.2.1, t343.2.2.2.2.1, t343.2.2.2.2.2.1, t343.2.2.2.2.2.2.1, t343.2.2.2.2.2.2.2.1⟩ : S_impl_RecPhase)] : List S_impl_RecPhase)) (x6 ++ ([wrap64 (x7 + 1)] : List Int)) (wrap64 (x7 + 1)) t319) else none) else none)))) else (some (([] : List S_impl_RecPhase), wrap64 (x7 + 1), 2))))) else (some (([] : List S_impl_RecPhase), wrap64 (x7 + 1), 1)))) else none) else ((spec_l43Refers.f k x5 x6).bind fun t346 => (if t346.2 = 0 then (if (x5.length : Int) = 0 then (some (x5, 0, 6)) else (some (x5, t346.1, t346.2))) else (some (([] : List S_impl_RecPhase), t346.1, t346.2)))))
def spec_RecParse.f (k : Nat) (a0 : ByteArray) : Option ((List S_impl_RecPhase) × Int × Int) := ((spec_l43Lines.f k a0).bind fun t319 => (if (a0.size : Int) > 4000 then (some (([] : List S_impl_RecPhase), 0, 7)) else (if (t319.length : Int) > 60 then (some (([] : List S_impl_RecPhase), 0, 7)) else (spec_RecParse.l0 k ([] : List S_impl_RecPhase) ([] : List Int) 0 t319))))
def strings_Split.f (s0 s1 : ByteArray) : Option (List ByteArray) := splitSf s0 s1
def impl_cutLines.f (a0 : ByteArray) : Option (List ByteArray) := ((strings_Split.f a0 (⟨#[10]⟩ : ByteArray)).bind fun t352 => (if 0 ≤ (wrap64 ((t352.length : Int) - 1)) then (if (wrap64 ((t352.length : Int) - 1)) < (t352.length : Int) then (if (rdOf ByteArray.empty t352 (wrap64 ((t352.length : Int) - 1))).toList = (⟨#[]⟩ : ByteArray).toList then (if (wrap64 ((t352.length : Int) - 1)) ≤ (t352.length : Int) then (some (t352.take (wrap64 ((t352.length : Int) - 1)).toNat)) else none) else (some t352)) else none) else none))
def strings_Cut.f (s0 s1 : ByteArray) : Option (ByteArray × ByteArray × Bool) := cutSf s0 s1
def impl_cutWords.l1 : Nat → List ByteArray → Int → List ByteArray → Option ((List ByteArray) × Bool)
  | 0, _, _, _ => none
  | k + 1, x5, x33, t361 => (if x33 < (t361.length : Int) then (if 0 ≤ x33 then (if (rdOf ByteArray.empty t361 x33).toList = (⟨#[]⟩ : ByteArray).toList then (impl_cutWords.l1 k x5 (wrap64 (x33 + 1)) t361) else (if ((rdOf ByteArray.empty t361 x33).size : Int) > 24 then (some ([], false)) else (if (x5.length + 1) * 16 ≤ 140737488355328 then (impl_cutWords.l1 k (x5 ++ ([rdOf ByteArray.empty t361 x33] : List ByteArray)) (wrap64 (x33 + 1)) t361) else none))) else none) else (some (x5, true)))
def impl_cutWords.l0 : Nat → Int → ByteArray × ByteArray × Bool → Option ((List ByteArray) × Bool)
  | 0, _, _ => none
  | k + 1, x16, t358 => (if x16 < (t358.1.size : Int) then (if 0 ≤ x16 then (if (bt t358.1 x16) < 32 then (some ([], false)) else (if (bt t358.1 x16) > 126 then (some ([], false)) else (impl_cutWords.l0 k (wrap64 (x16 + 1)) t358))) else none) else ((strings_Split.f t358.1 (⟨#[32]⟩ : ByteArray)).bind fun t361 => (impl_cutWords.l1 k [] 0 t361)))
def impl_cutWords.f (k : Nat) (a0 : ByteArray) : Option ((List ByteArray) × Bool) := ((strings_Cut.f a0 (⟨#[35]⟩ : ByteArray)).bind fun t358 => (impl_cutWords.l0 k 0 t358))
def impl_phaseOf_1.f (a0_0 : List ByteArray) : Option (ByteArray × (List ByteArray)) := (if (a0_0.length : Int) = 0 then (some ((⟨#[]⟩ : ByteArray), a0_0)) else (if 0 < (a0_0.length : Int) then (if 1 ≤ (a0_0.length : Int) then (some (rdOf ByteArray.empty a0_0 0, (a0_0.drop (1 : Int).toNat))) else none) else none))
def impl_decimal.l0 : Nat → ByteArray → Int → Int → Option (Int × Bool)
  | 0, _, _, _ => none
  | k + 1, a0, x4, x26 => (if x26 < (a0.size : Int) then (if 0 ≤ x26 then (if (bt a0 x26) < 48 then (some (0, false)) else (if (bt a0 x26) > 57 then (some (0, false)) else (impl_decimal.l0 k a0 (wrap64 ((wrap64 (10 * x4)) + (wrap64 (IntKind.wrap .u8 ((bt a0 x26) - 48))))) (wrap64 (x26 + 1))))) else none) else (some (x4, true)))
def impl_decimal.l1 : Nat → ByteArray → Int → Int → Option (Int × Bool)
  | 0, _, _, _ => none
  | k + 1, a0, x4_1, x26_1 => (if x26_1 < (a0.size : Int) then (if 0 ≤ x26_1 then (if (bt a0 x26_1) < 48 then (some (0, false)) else (if (bt a0 x26_1) > 57 then (some (0, false)) else (impl_decimal.l1 k a0 (wrap64 ((wrap64 (10 * x4_1)) + (wrap64 (IntKind.wrap .u8 ((bt a0 x26_1) - 48))))) (wrap64 (x26_1 + 1))))) else none) else (some (x4_1, true)))
def impl_decimal.f (k : Nat) (a0 : ByteArray) : Option (Int × Bool) := (if (a0.size : Int) < 1 then (some (0, false)) else (if (a0.size : Int) > 4 then (some (0, false)) else (if (a0.size : Int) > 1 then (if 0 < (a0.size : Int) then (if (bt a0 0) = 48 then (some (0, false)) else (impl_decimal.l0 k a0 0 0)) else none) else (impl_decimal.l1 k a0 0 0))))
def impl_isName.l0 : Nat → ByteArray → Int → Option (Bool)
  | 0, _, _ => none
  | k + 1, a0, x7 => (if x7 < (a0.size : Int) then (if 0 ≤ x7 then (if (bt a0 x7) < 97 then (if (bt a0 x7) < 48 then (if (bt a0 x7) = 45 then (impl_isName.l0 k a0 (wrap64 (x7 + 1))) else (some false)) else (if (bt a0 x7) > 57 then (if (bt a0 x7) = 45 then (impl_isName.l0 k a0 (wrap64 (x7 + 1))) else (some false)) else (impl_isName.l0 k a0 (wrap64 (x7 + 1))))) else (if (bt a0 x7) > 122 then (if (bt a0 x7) < 48 then (if (bt a0 x7) = 45 then (impl_isName.l0 k a0 (wrap64 (x7 + 1))) else (some false)) else (if (bt a0 x7) > 57 then (if (bt a0 x7) = 45 then (impl_isName.l0 k a0 (wrap64 (x7 + 1))) else (some false)) else (impl_isName.l0 k a0 (wrap64 (x7 + 1))))) else (impl_isName.l0 k a0 (wrap64 (x7 + 1))))) else none) else (if (a0.size : Int) ≥ 1 then (some (decide ((a0.size : Int) ≤ 8))) else (some false)))
def impl_isName.f (k : Nat) (a0 : ByteArray) : Option (Bool) := (impl_isName.l0 k a0 0)
def impl_RecEnd.f (a0 : ByteArray) : Option (Int) := (if a0.toList = (⟨#[103, 111, 111, 100]⟩ : ByteArray).toList then (some 1) else (if a0.toList = (⟨#[115, 97, 118, 101, 100]⟩ : ByteArray).toList then (some 2) else (if a0.toList = (⟨#[115, 99, 114, 97, 112, 112, 101, 100]⟩ : ByteArray).toList then (some 3) else (some 0))))
def impl_RecPhaseOk.j0 : Nat → ByteArray → Int → Int → Bool → Option (Bool)
  | 0, _, _, _, _ => none
  | k + 1, a0_3, a0_4, x3, x4 => (if x4 = true then ((impl_isName.f k a0_3).bind fun t486 => (if t486 = true then (if a0_4 ≤ x3 then (if a0_4 ≥ 1 then (some true) else (if x3 = 0 then (some (decide (a0_4 = 0))) else (some false))) else (some false)) else (some false))) else (if a0_3.toList = (⟨#[]⟩ : ByteArray).toList then (if a0_4 ≤ x3 then (if a0_4 ≥ 1 then (some true) else (if x3 = 0 then (some (decide (a0_4 = 0))) else (some false))) else (some false)) else (some false)))
def impl_RecPhaseOk.f (k : Nat) (a0_0 : ByteArray) (a0_1 : Int) (a0_2 : ByteArray) (a0_3 : ByteArray) (a0_4 : Int) (a0_5 : Int) (a0_6 : ByteArray) (a0_7 : ByteArray) : Option (Bool) := ((impl_isName.f k a0_0).bind fun t477 => (if t477 = true then ((impl_RecEnd.f a0_0).bind fun t478 => (if t478 = 0 then (if a0_5 < 1 then (some false) else (if a0_5 > 1000 then (some false) else ((impl_isName.f k a0_2).bind fun t479 => (if t479 = true then ((impl_isName.f k a0_6).bind fun t480 => (if t480 = true then ((impl_isName.f k a0_7).bind fun t481 => (if t481 = true then (if a0_1 = 1 then (impl_RecPhaseOk.j0 k a0_3 a0_4 1000 true) else (if a0_1 = 2 then (if a0_2.toList = a0_3.toList then (some false) else (impl_RecPhaseOk.j0 k a0_3 a0_4 1000 true)) else (if a0_1 = 3 then (impl_RecPhaseOk.j0 k a0_3 a0_4 a0_5 false) else (if a0_1 = 4 then (impl_RecPhaseOk.j0 k a0_3 a0_4 0 false) else (if a0_1 = 5 then (impl_RecPhaseOk.j0 k a0_3 a0_4 0 false) else (some false)))))) else (some false))) else (some false))) else (some false))))) else (some false))) else (some false)))
def impl_phaseOf.j0 : Nat → List ByteArray → Bool → ByteArray × (List ByteArray) → ByteArray × (List ByteArray) → Int × Bool → Int × Bool → List ByteArray → Int → Option (ByteArray × Int × ByteArray × ByteArray × Int × Int × ByteArray × ByteArray × Bool)
  | 0, _, _, _, _, _, _, _, _ => none
  | k + 1, l0, x8, t541, t542, t544, t547, x1000000, x1080001 => ((impl_phaseOf_1.f x1000000).bind fun t550 => (if x8 = true then ((impl_phaseOf_1.f t550.2).bind fun t551 => ((impl_phaseOf_1.f t551.2).bind fun t552 => (if t551.1.toList = (⟨#[101, 108, 115, 101]⟩ : ByteArray).toList then (if (t552.2.length : Int) = 0 then ((impl_RecPhaseOk.f k (rdOf ByteArray.empty l0 0) x1080001 t541.1 t542.1 t544.1 t547.1 t550.1 t552.1).bind fun t553 => (some (rdOf ByteArray.empty l0 0, x1080001, t541.1, t542.1, t544.1, t547.1, t550.1, t552.1, t553))) else (some (rdOf ByteArray.empty l0 0, x1080001, t541.1, t542.1, t544.1, t547.1, t550.1, t552.1, false))) else (some (rdOf ByteArray.empty l0 0, x1080001, t541.1, t542.1, t544.1, t547.1, t550.1, t552.1, false))))) else ((impl_phaseOf_1.f t550.2).bind fun t554 => (some (rdOf ByteArray.empty l0 0, x1080001, t541.1, t542.1, t544.1, t547.1, t550.1, t554.1, false)))))
def impl_phaseOf.j1 : Nat → List ByteArray → ByteArray × (List ByteArray) → ByteArray × (List ByteArray) → Int × Bool → ByteArray × (List ByteArray) → Int × Bool → Int → Option (ByteArray × Int × ByteArray × ByteArray × Int × Int × ByteArray × ByteArray × Bool)
  | 0, _, _, _, _, _, _, _ => none
  | k + 1, l0, t541, t542, t544, t556, t557, x1080001 => ((impl_phaseOf_1.f t556.2).bind fun t559 => ((impl_phaseOf_1.f t559.2).bind fun t560 => (some (rdOf ByteArray.empty l0 0, x1080001, t541.1, t542.1, t544.1, t557.1, t559.1, t560.1, false))))
def impl_phaseOf.j2 : Nat → List ByteArray → Bool → ByteArray × (List ByteArray) → ByteArray × (List ByteArray) → Int × Bool → List ByteArray → Int → Option (ByteArray × Int × ByteArray × ByteArray × Int × Int × ByteArray × ByteArray × Bool)
  | 0, _, _, _, _, _, _, _ => none
  | k + 1, l0, x8_1, t541, t542, t563, x1000000_1, x1080001 => ((impl_phaseOf_1.f x1000000_1).bind fun t566 => (if x8_1 = true then ((impl_phaseOf_1.f t566.2).bind fun t567 => ((impl_phaseOf_1.f t567.2).bind fun t568 => (if t567.1.toList = (⟨#[101, 108, 115, 101]⟩ : ByteArray).toList then (if (t568.2.length : Int) = 0 then ((impl_RecPhaseOk.f k (rdOf ByteArray.empty l0 0) x1080001 t541.1 t542.1 0 t563.1 t566.1 t568.1).bind fun t569 => (some (rdOf ByteArray.empty l0 0, x1080001, t541.1, t542.1, 0, t563.1, t566.1, t568.1, t569))) else (some (rdOf ByteArray.empty l0 0, x1080001, t541.1, t542.1, 0, t563.1, t566.1, t568.1, false))) else (some (rdOf ByteArray.empty l0 0, x1080001, t541.1, t542.1, 0, t563.1, t566.1, t568.1, false))))) else ((impl_phaseOf_1.f t566.2).bind fun t570 => (some (rdOf ByteArray.empty l0 0, x1080001, t541.1, t542.1, 0, t563.1, t566.1, t570.1, false)))))
def impl_phaseOf.j3 : Nat → List ByteArray → Bool → ByteArray × (List ByteArray) → Int × Bool → Int × Bool → List ByteArray → Int → Option (ByteArray × Int × ByteArray × ByteArray × Int × Int × ByteArray × ByteArray × Bool)
  | 0, _, _, _, _, _, _, _ => none
  | k + 1, l0, x8_2, t541, t573, t576, x1000000_2, x1080001 => ((impl_phaseOf_1.f x1000000_2).bind fun t579 => (if x8_2 = true then ((impl_phaseOf_1.f t579.2).bind fun t580 => ((impl_phaseOf_1.f t580.2).bind fun t581 => (if t580.1.toList = (⟨#[101, 108, 115, 101]⟩ : ByteArray).toList then (if (t581.2.length : Int) = 0 then ((impl_RecPhaseOk.f k (rdOf ByteArray.empty l0 0) x1080001 t541.1 (⟨#[]⟩ : ByteArray) t573.1 t576.1 t579.1 t581.1).bind fun t582 => (some (rdOf ByteArray.empty l0 0, x1080001, t541.1, (⟨#[]⟩ : ByteArray), t573.1, t576.1, t579.1, t581.1, t582))) else (some (rdOf ByteArray.empty l0 0, x1080001, t541.1, (⟨#[]⟩ : ByteArray), t573.1, t576.1, t579.1, t581.1, false))) else (some (rdOf ByteArray.empty l0 0, x1080001, t541.1, (⟨#[]⟩ : ByteArray), t573.1, t576.1, t579.1, t581.1, false))))) else ((impl_phaseOf_1.f t579.2).bind fun t583 => (some (rdOf ByteArray.empty l0 0, x1080001, t541.1, (⟨#[]⟩ : ByteArray), t573.1, t576.1, t579.1, t583.1, false)))))
def impl_phaseOf.j4 : Nat → List ByteArray → ByteArray × (List ByteArray) → Int × Bool → ByteArray × (List ByteArray) → Int × Bool → Int → Option (ByteArray × Int × ByteArray × ByteArray × Int × Int × ByteArray × ByteArray × Bool)
  | 0, _, _, _, _, _, _ => none
  | k + 1, l0, t541, t573, t585, t586, x1080001 => ((impl_phaseOf_1.f t585.2).bind fun t588 => ((impl_phaseOf_1.f t588.2).bind fun t589 => (some (rdOf ByteArray.empty l0 0, x1080001, t541.1, (⟨#[]⟩ : ByteArray), t573.1, t586.1, t588.1, t589.1, false))))
def impl_phaseOf.j5 : Nat → List ByteArray → Bool → ByteArray × (List ByteArray) → Int × Bool → List ByteArray → Int → Option (ByteArray × Int × ByteArray × ByteArray × Int × Int × ByteArray × ByteArray × Bool)
  | 0, _, _, _, _, _, _ => none
  | k + 1, l0, x8_3, t541, t592, x1000000_3, x1080001 => ((impl_phaseOf_1.f x1000000_3).bind fun t595 => (if x8_3 = true then ((impl_phaseOf_1.f t595.2).bind fun t596 => ((impl_phaseOf_1.f t596.2).bind fun t597 => (if t596.1.toList = (⟨#[101, 108, 115, 101]⟩ : ByteArray).toList then (if (t597.2.length : Int) = 0 then ((impl_RecPhaseOk.f k (rdOf ByteArray.empty l0 0) x1080001 t541.1 (⟨#[]⟩ : ByteArray) 0 t592.1 t595.1 t597.1).bind fun t598 => (some (rdOf ByteArray.empty l0 0, x1080001, t541.1, (⟨#[]⟩ : ByteArray), 0, t592.1, t595.1, t597.1, t598))) else (some (rdOf ByteArray.empty l0 0, x1080001, t541.1, (⟨#[]⟩ : ByteArray), 0, t592.1, t595.1, t597.1, false))) else (some (rdOf ByteArray.empty l0 0, x1080001, t541.1, (⟨#[]⟩ : ByteArray), 0, t592.1, t595.1, t597.1, false))))) else ((impl_phaseOf_1.f t595.2).bind fun t599 => (some (rdOf ByteArray.empty l0 0, x1080001, t541.1, (⟨#[]⟩ : ByteArray), 0, t592.1, t595.1, t599.1, false)))))
def impl_phaseOf.j6 : Nat → List ByteArray → Bool → Bool → Int → Option (ByteArray × Int × ByteArray × ByteArray × Int × Int × ByteArray × ByteArray × Bool)
  | 0, _, _, _, _ => none
  | k + 1, l0, x5, x6, x1080001 => (if 2 ≤ (l0.length : Int) then ((impl_phaseOf_1.f (l0.drop (2 : Int).toNat)).bind fun t541 => (if x5 = true then ((impl_phaseOf_1.f t541.2).bind fun t542 => (if x6 = true then ((impl_phaseOf_1.f t542.2).bind fun t543 => ((impl_decimal.f k t543.1).bind fun t544 => (if t544.2 = true then ((impl_phaseOf_1.f t543.2).bind fun t545 => ((impl_phaseOf_1.f t545.2).bind fun t546 => ((impl_decimal.f k t546.1).bind fun t547 => (if t545.1.toList = (⟨#[119, 105, 116, 104, 105, 110]⟩ : ByteArray).toList then (if t547.2 = true then ((impl_phaseOf_1.f t546.2).bind fun t555 => (impl_phaseOf.j0 k l0 (decide (t555.1.toList = (⟨#[116, 104, 101, 110]⟩ : ByteArray).toList)) t541 t542 t544 t547 t555.2 x1080001)) else (impl_phaseOf.j0 k l0 false t541 t542 t544 t547 t546.2 x1080001)) else (impl_phaseOf.j0 k l0 false t541 t542 t544 t547 t546.2 x1080001))))) else ((impl_phaseOf_1.f t543.2).bind fun t556 => ((impl_decimal.f k t556.1).bind fun t557 => (impl_phaseOf.j1 k l0 t541 t542 t544 t556 t557 x1080001)))))) else ((impl_phaseOf_1.f t542.2).bind fun t561 => ((impl_phaseOf_1.f t561.2).bind fun t562 => ((impl_decimal.f k t562.1).bind fun t563 => (if t561.1.toList = (⟨#[119, 105, 116, 104, 105, 110]⟩ : ByteArray).toList then (if t563.2 = true then ((impl_phaseOf_1.f t562.2).bind fun t571 => (impl_phaseOf.j2 k l0 (decide (t571.1.toList = (⟨#[116, 104, 101, 110]⟩ : ByteArray).toList)) t541 t542 t563 t571.2 x1080001)) else (impl_phaseOf.j2 k l0 false t541 t542 t563 t562.2 x1080001)) else (impl_phaseOf.j2 k l0 false t541 t542 t563 t562.2 x1080001))))))) else (if x6 = true then ((impl_phaseOf_1.f t541.2).bind fun t572 => ((impl_decimal.f k t572.1).bind fun t573 => (if t573.2 = true then ((impl_phaseOf_1.f t572.2).bind fun t574 => ((impl_phaseOf_1.f t574.2).bind fun t575 => ((impl_decimal.f k t575.1).bind fun t576 => (if t574.1.toList = (⟨#[119, 105, 116, 104, 105, 110]⟩ : ByteArray).toList then (if t576.2 = true then ((impl_phaseOf_1.f t575.2).bind fun t584 => (impl_phaseOf.j3 k l0 (decide (t584.1.toList = (⟨#[116, 104, 101, 110]⟩ : ByteArray).toList)) t541 t573 t576 t584.2 x1080001)) else (impl_phaseOf.j3 k l0 false t541 t573 t576 t575.2 x1080001)) else (impl_phaseOf.j3 k l0 false t541 t573 t576 t575.2 x1080001))))) else ((impl_phaseOf_1.f t572.2).bind fun t585 => ((impl_decimal.f k t585.1).bind fun t586 => (impl_phaseOf.j4 k l0 t541 t573 t585 t586 x1080001)))))) else ((impl_phaseOf_1.f t541.2).bind fun t590 => ((impl_phaseOf_1.f t590.2).bind fun t591 => ((impl_decimal.f k t591.1).bind fun t592 => (if t590.1.toList = (⟨#[119, 105, 116, 104, 105, 110]⟩ : ByteArray).toList then (if t592.2 = true then ((impl_phaseOf_1.f t591.2).bind fun t600 => (impl_phaseOf.j5 k l0 (decide (t600.1.toList = (⟨#[116, 104, 101, 110]⟩ : ByteArray).toList)) t541 t592 t600.2 x1080001)) else (impl_phaseOf.j5 k l0 false t541 t592 t591.2 x1080001)) else (impl_phaseOf.j5 k l0 false t541 t592 t591.2 x1080001)))))))) else none)
def impl_phaseOf.f (k : Nat) (l0 : List ByteArray) : Option (ByteArray × Int × ByteArray × ByteArray × Int × Int × ByteArray × ByteArray × Bool) := (if (l0.length : Int) < 2 then (some ((⟨#[]⟩ : ByteArray), 0, (⟨#[]⟩ : ByteArray), (⟨#[]⟩ : ByteArray), 0, 0, (⟨#[]⟩ : ByteArray), (⟨#[]⟩ : ByteArray), false)) else (if 0 < (l0.length : Int) then (if 1 < (l0.length : Int) then (if (rdOf ByteArray.empty l0 1).toList = (⟨#[102, 105, 108, 108]⟩ : ByteArray).toList then (impl_phaseOf.j6 k l0 true true 1) else (if (rdOf ByteArray.empty l0 1).toList = (⟨#[109, 111, 118, 101]⟩ : ByteArray).toList then (impl_phaseOf.j6 k l0 true true 2) else (if (rdOf ByteArray.empty l0 1).toList = (⟨#[104, 111, 108, 100]⟩ : ByteArray).toList then (impl_phaseOf.j6 k l0 false true 3) else (if (rdOf ByteArray.empty l0 1).toList = (⟨#[99, 108, 101, 97, 110]⟩ : ByteArray).toList then (impl_phaseOf.j6 k l0 false false 4) else (if (rdOf ByteArray.empty l0 1).toList = (⟨#[116, 101, 115, 116]⟩ : ByteArray).toList then (impl_phaseOf.j6 k l0 false false 5) else (some ((⟨#[]⟩ : ByteArray), 0, (⟨#[]⟩ : ByteArray), (⟨#[]⟩ : ByteArray), 0, 0, (⟨#[]⟩ : ByteArray), (⟨#[]⟩ : ByteArray), false))))))) else none) else none))
def impl_phase.l0 : Nat → List S_impl_RecPhase → ByteArray → Int → Option (Int)
  | 0, _, _, _ => none
  | k + 1, l0, a1, x9 => (if x9 < (l0.length : Int) then (if 0 ≤ x9 then (if ((rd_impl_RecPhase l0 x9).f0).toList = a1.toList then (some x9) else (impl_phase.l0 k l0 a1 (wrap64 (x9 + 1)))) else none) else (some (-1)))
def impl_phase.f (k : Nat) (l0 : List S_impl_RecPhase) (a1 : ByteArray) : Option (Int) := (impl_phase.l0 k l0 a1 0)
mutual
def impl_RecParse.l2 : Nat → List S_impl_RecPhase → List Int → Int → Int → Option ((List S_impl_RecPhase) × Int × Int)
  | 0, _, _, _, _ => none
  | k + 1, x5, x6, x84, x95 => (if x95 < 2 then (if 0 ≤ x95 then (if x95 < (2 : Int) then ((impl_RecEnd.f (rdOf ByteArray.empty ([(rd_impl_RecPhase x5 x84).f6, (rd_impl_RecPhase x5 x84).f7] : List ByteArray) x95)).bind fun t644 => (if t644 = 0 then ((impl_phase.f k x5 (rdOf ByteArray.empty ([(rd_impl_RecPhase x5 x84).f6, (rd_impl_RecPhase x5 x84).f7] : List ByteArray) x95)).bind fun t645 => (if t645 ≤ x84 then (if x84 < (x6.length : Int) then (some ([], rd x6 x84, 4)) else none) else (impl_RecParse.l2 k x5 x6 x84 (wrap64 (x95 + 1))))) else (impl_RecParse.l2 k x5 x6 x84 (wrap64 (x95 + 1))))) else none) else none) else (impl_RecParse.l1 k x5 x6 (wrap64 (x84 + 1))))
def impl_RecParse.l1 : Nat → List S_impl_RecPhase → List Int → Int → Option ((List S_impl_RecPhase) × Int × Int)
  | 0, _, _, _ => none
  | k + 1, x5, x6, x84 => (if x84 < (x5.length : Int) then (if 0 ≤ x84 then (impl_RecParse.l2 k x5 x6 x84 0) else none) else (if (x5.length : Int) = 0 then (some ([], 0, 6)) else (some (x5, 0, 0))))
end
def impl_RecParse.l0 : Nat → List S_impl_RecPhase → List Int → Int → List ByteArray → Option ((List S_impl_RecPhase) × Int × Int)
  | 0, _, _, _, _ => none
  | k + 1, x5, x6, x30, t612 => (if x30 < (t612.length : Int) then (if 0 ≤ x30 then ((impl_cutWords.f k (rdOf ByteArray.empty t612 x30)).bind fun t633 => (if t633.2 = true then (if (t633.1.length : Int) = 0 then (impl_RecParse.l0 k x5 x6 (wrap64 (x30 + 1)) t612) else ((impl_phaseOf.f k t633.1).bind fun t634 => (if t634.2.2.2.2.2.2.2.2 = true then ((impl_phase.f k x5 t634.1).bind fun t635 => (if t635 ≥ 0 then (some ([], wrap64 (x30 + 1), 3)) else (if (x5.length : Int) ≥ 12 then (some ([], wrap64 (x30 + 1), 5)) else (if (x5.length + 1) * 104 ≤ 140737488355328 then (if (x6.length + 1) * 8 ≤ 140737488355328 then (impl_RecParse.l0 k (x5 ++ ([(⟨t634.1, t634.2.1, t634.2.2.1, t634.2.2.2.1, t634.2.2.2.2.1, t634.2.2.2.2.2.1, t634.2.2.2.2.2.2.1, t634.2.2.2.2.2.2.2.1⟩ : S_impl_RecPhase)] : List S_impl_RecPhase)) (x6 ++ ([wrap64 (x30 + 1)] : List Int)) (wrap64 (x30 + 1)) t612) else none) else none)))) else (some ([], wrap64 (x30 + 1), 2))))) else (some ([], wrap64 (x30 + 1), 1)))) else none) else (impl_RecParse.l1 k x5 x6 0))
def impl_RecParse.f (k : Nat) (a0 : ByteArray) : Option ((List S_impl_RecPhase) × Int × Int) := ((impl_cutLines.f a0).bind fun t612 => (if (a0.size : Int) > 4000 then (some ([], 0, 7)) else (if (t612.length : Int) > 60 then (some ([], 0, 7)) else (impl_RecParse.l0 k [] [] 0 t612))))
def laws_eqRecPhase.f (a0_0 : ByteArray) (a0_1 : Int) (a0_2 : ByteArray) (a0_3 : ByteArray) (a0_4 : Int) (a0_5 : Int) (a0_6 : ByteArray) (a0_7 : ByteArray) (a1_0 : ByteArray) (a1_1 : Int) (a1_2 : ByteArray) (a1_3 : ByteArray) (a1_4 : Int) (a1_5 : Int) (a1_6 : ByteArray) (a1_7 : ByteArray) : Option (Bool) := (if a0_0.toList = a1_0.toList then (if a0_1 = a1_1 then (if a0_2.toList = a1_2.toList then (if a0_3.toList = a1_3.toList then (if a0_4 = a1_4 then (if a0_5 = a1_5 then (if a0_6.toList = a1_6.toList then (if a0_7.toList = a1_7.toList then (some true) else (some false)) else (some false)) else (some false)) else (some false)) else (some false)) else (some false)) else (some false)) else (some false))
def laws_eqRecPhaseS.l0 : Nat → List S_impl_RecPhase → List S_impl_RecPhase → Int → Option (Bool)
  | 0, _, _, _ => none
  | k + 1, l0, l1, x5 => (if x5 < (l0.length : Int) then (if 0 ≤ x5 then (if x5 < (l1.length : Int) then ((laws_eqRecPhase.f ((rd_impl_RecPhase l0 x5).f0) ((rd_impl_RecPhase l0 x5).f1) ((rd_impl_RecPhase l0 x5).f2) ((rd_impl_RecPhase l0 x5).f3) ((rd_impl_RecPhase l0 x5).f4) ((rd_impl_RecPhase l0 x5).f5) ((rd_impl_RecPhase l0 x5).f6) ((rd_impl_RecPhase l0 x5).f7) ((rd_impl_RecPhase l1 x5).f0) ((rd_impl_RecPhase l1 x5).f1) ((rd_impl_RecPhase l1 x5).f2) ((rd_impl_RecPhase l1 x5).f3) ((rd_impl_RecPhase l1 x5).f4) ((rd_impl_RecPhase l1 x5).f5) ((rd_impl_RecPhase l1 x5).f6) ((rd_impl_RecPhase l1 x5).f7)).bind fun t657 => (if t657 = true then (laws_eqRecPhaseS.l0 k l0 l1 (wrap64 (x5 + 1))) else (some false))) else none) else none) else (some true))
def laws_eqRecPhaseS.f (k : Nat) (l0 : List S_impl_RecPhase) (l1 : List S_impl_RecPhase) : Option (Bool) := (if (l0.length : Int) = (l1.length : Int) then (laws_eqRecPhaseS.l0 k l0 l1 0) else (some false))
def laws_eqRecFault.f (a0_0 : Int) (a0_1 : Int) (a1_0 : Int) (a1_1 : Int) : Option (Bool) := (if a0_0 = a1_0 then (if a0_1 = a1_1 then (some true) else (some false)) else (some false))
def laws_markText.l0 : Nat → Int → ByteArray → Option (ByteArray)
  | 0, _, _ => none
  | k + 1, x0, x3 => (if x0 > 0 then (if (((⟨#[UInt8.ofNat (IntKind.wrap .u8 (wrap64 (48 + (Int.tmod x0 10)))).toNat]⟩ : ByteArray).size + x3.size : Nat) : Int) ≤ 9223372036854775807 then (laws_markText.l0 k (wrap64 (Int.tdiv x0 10)) ((⟨#[UInt8.ofNat (IntKind.wrap .u8 (wrap64 (48 + (Int.tmod x0 10)))).toNat]⟩ : ByteArray) ++ x3)) else none) else (if (((⟨#[109]⟩ : ByteArray).size + x3.size : Nat) : Int) ≤ 9223372036854775807 then (some ((⟨#[109]⟩ : ByteArray) ++ x3)) else none))
def laws_markText.f (k : Nat) (a0 : Int) : Option (ByteArray) := (if a0 ≤ 0 then (some (⟨#[109, 48]⟩ : ByteArray)) else (laws_markText.l0 k a0 (⟨#[]⟩ : ByteArray)))
def laws_markRecPhaseS.l0 : Nat → List S_impl_RecPhase → Int → Int → List S_impl_RecPhase → Option (Int × (List S_impl_RecPhase))
  | 0, _, _, _, _ => none
  | k + 1, l0, x1, x5, x1000 => (if x1000.length = l0.length then (if x5 < (l0.length : Int) then ((laws_markText.f k x1).bind fun t713 => (if 0 ≤ x5 then ((laws_markText.f k (wrap64 ((wrap64 (x1 + 1)) + 1))).bind fun t714 => ((laws_markText.f k (wrap64 ((wrap64 ((wrap64 (x1 + 1)) + 1)) + 1))).bind fun t715 => ((laws_markText.f k (wrap64 ((wrap64 ((wrap64 ((wrap64 ((wrap64 ((wrap64 (x1 + 1)) + 1)) + 1)) + 1)) + 1)) + 1))).bind fun t716 => ((laws_markText.f k (wrap64 ((wrap64 ((wrap64 ((wrap64 ((wrap64 ((wrap64 ((wrap64 (x1 + 1)) + 1)) + 1)) + 1)) + 1)) + 1)) + 1))).bind fun t717 => (laws_markRecPhaseS.l0 k l0 (wrap64 ((wrap64 ((wrap64 ((wrap64 ((wrap64 ((wrap64 ((wrap64 ((wrap64 (x1 + 1)) + 1)) + 1)) + 1)) + 1)) + 1)) + 1)) + 1)) (wrap64 (x5 + 1)) (x1000.set (x5).toNat (⟨t713, wrap64 (x1 + 1), t714, t715, wrap64 ((wrap64 ((wrap64 ((wrap64 (x1 + 1)) + 1)) + 1)) + 1), wrap64 ((wrap64 ((wrap64 ((wrap64 ((wrap64 (x1 + 1)) + 1)) + 1)) + 1)) + 1), t716, t717⟩ : S_impl_RecPhase))))))) else none)) else (some (x1, x1000))) else none)
def laws_markRecPhaseS.f (k : Nat) (l0 : List S_impl_RecPhase) (a1 : Int) : Option (Int × (List S_impl_RecPhase)) := (laws_markRecPhaseS.l0 k l0 a1 0 l0)
def laws_heldRecPhaseS.l0 : Nat → List S_impl_RecPhase → Int → Int → Option (Int)
  | 0, _, _, _ => none
  | k + 1, l0, x1, x5 => (if x5 < (l0.length : Int) then (if 0 ≤ x5 then ((laws_markText.f k x1).bind fun t793 => (if ((rd_impl_RecPhase l0 x5).f0).toList = t793.toList then (if ((rd_impl_RecPhase l0 x5).f1) = (wrap64 (x1 + 1)) then ((laws_markText.f k (wrap64 ((wrap64 (x1 + 1)) + 1))).bind fun t794 => (if ((rd_impl_RecPhase l0 x5).f2).toList = t794.toList then ((laws_markText.f k (wrap64 ((wrap64 ((wrap64 (x1 + 1)) + 1)) + 1))).bind fun t795 => (if ((rd_impl_RecPhase l0 x5).f3).toList = t795.toList then (if ((rd_impl_RecPhase l0 x5).f4) = (wrap64 ((wrap64 ((wrap64 ((wrap64 (x1 + 1)) + 1)) + 1)) + 1)) then (if ((rd_impl_RecPhase l0 x5).f5) = (wrap64 ((wrap64 ((wrap64 ((wrap64 ((wrap64 (x1 + 1)) + 1)) + 1)) + 1)) + 1)) then ((laws_markText.f k (wrap64 ((wrap64 ((wrap64 ((wrap64 ((wrap64 ((wrap64 (x1 + 1)) + 1)) + 1)) + 1)) + 1)) + 1))).bind fun t796 => (if ((rd_impl_RecPhase l0 x5).f6).toList = t796.toList then ((laws_markText.f k (wrap64 ((wrap64 ((wrap64 ((wrap64 ((wrap64 ((wrap64 ((wrap64 (x1 + 1)) + 1)) + 1)) + 1)) + 1)) + 1)) + 1))).bind fun t797 => (if ((rd_impl_RecPhase l0 x5).f7).toList = t797.toList then (laws_heldRecPhaseS.l0 k l0 (wrap64 ((wrap64 ((wrap64 ((wrap64 ((wrap64 ((wrap64 ((wrap64 ((wrap64 (x1 + 1)) + 1)) + 1)) + 1)) + 1)) + 1)) + 1)) + 1)) (wrap64 (x5 + 1))) else (some (-1)))) else (some (-1)))) else (some (-1))) else (some (-1))) else (some (-1)))) else (some (-1)))) else (some (-1))) else (some (-1)))) else none) else (some x1))
def laws_heldRecPhaseS.f (k : Nat) (l0 : List S_impl_RecPhase) (a1 : Int) : Option (Int) := (laws_heldRecPhaseS.l0 k l0 a1 0)
def laws_FnExactRecParse.f (k : Nat) (a0 : ByteArray) : Option (Bool) := (if (a0.size : Int) > 1048576 then (some true) else ((spec_RecParse.f k a0).bind fun t799 => ((impl_RecParse.f k a0).bind fun t801 => ((laws_eqRecPhaseS.f k t801.1 t799.1).bind fun t821 => (if t821 = true then ((laws_eqRecFault.f t801.2.1 t801.2.2 t799.2.1 t799.2.2).bind fun t822 => (if t822 = true then ((laws_markRecPhaseS.f k t801.1 1).bind fun t823 => ((laws_heldRecPhaseS.f k t823.2 1).bind fun t824 => (if t824 < 0 then (some false) else (if t824 = t823.1 then ((impl_RecParse.f k a0).bind fun t825 => ((laws_eqRecPhaseS.f k t825.1 t799.1).bind fun t826 => (if t826 = true then ((laws_eqRecFault.f t825.2.1 t825.2.2 t799.2.1 t799.2.2).bind fun t827 => (if t827 = true then ((laws_heldRecPhaseS.f k t823.2 1).bind fun t828 => (if t828 < 0 then (some false) else (if t828 = t823.1 then (some true) else (some false)))) else (some false))) else (some false)))) else (some false))))) else (some false))) else (some false))))))
end Go.Proofs.YteflhnpcgoijfaaDoor.RX
namespace Go.Proofs.YteflhnpcgoijfaaDoor.Pure
open Go Go.RowKit Go.Aw Go.Proofs.YteflhnpcgoijfaaDoor.RX
set_option linter.unusedVariables false
set_option linter.unusedSimpArgs false
/-! ### general words -/
theorem ev_pos {α : Type} {c : Prop} {d : Decidable c} {g f : Nat → Option α} {r : α} (h : c) (k : Ev g r) : Ev (fun n => @ite _ c d (g n) (f n)) r := Ev.congr (fun _ => if_pos h) k
theorem ev_neg {α : Type} {c : Prop} {d : Decidable c} {g f : Nat → Option α} {r : α} (h : ¬ c) (k : Ev f r) : Ev (fun n => @ite _ c d (g n) (f n)) r := Ev.congr (fun _ => if_neg h) k
theorem ev_ret {α : Type} {a r : α} (h : a = r) : Ev (fun _ => some a) r := h ▸ Ev.now a
theorem ev_let {α β : Type} {g : Option α} {a : α} {r : β} {f : Nat → α → Option β} (h : g = some a) (k : Ev (fun n => f n a) r) : Ev (fun n => g.bind (f n)) r := by
  subst h; exact k
theorem ev_eq {α : Type} {g : Nat → Option α} {a r : α} (k : Ev g a) (h : a = r) : Ev g r := h ▸ k
theorem ev_split {α : Type} {c : Prop} {d : Decidable c} {g f : Nat → Option α} {r : α} (h : c → Ev g r) (k : ¬ c → Ev f r) : Ev (fun n => @ite _ c d (g n) (f n)) r := by
  by_cases q : c
  · exact ev_pos q (h q)
  · exact ev_neg q (k q)
/-- a value that is called on -/
theorem ev_of {α β : Type} {g : Nat → Option α} {a : α} {r : β} {f : Nat → α → Option β} (h : Ev g a) (k : Ev (fun n => f n a) r) : Ev (fun n => (g n).bind (f n)) r := Ev.bind h k
theorem ex_ret {α : Type} {a : α} : ∃ q, Ev (fun _ => some a) q := ⟨a, Ev.now a⟩
theorem ex_ite {α : Type} {c : Prop} {d : Decidable c} {g f : Nat → Option α} (h : ∃ q, Ev g q) (k : ∃ q, Ev f q) : ∃ q, Ev (fun n => @ite _ c d (g n) (f n)) q := by
  by_cases q : c
  · exact h.imp fun _ e => ev_pos q e
  · exact k.imp fun _ e => ev_neg q e
theorem ex_pos {α : Type} {c : Prop} {d : Decidable c} {g f : Nat → Option α} (h : c) (k : ∃ q, Ev g q) : ∃ q, Ev (fun n => @ite _ c d (g n) (f n)) q := k.imp fun _ e => ev_pos h e
theorem ex_bind {α β : Type} {g : Nat → Option α} {f : Nat → α → Option β} (h : ∃ a, Ev g a) (k : ∀ a, ∃ q, Ev (fun n => f n a) q) : ∃ q, Ev (fun n => (g n).bind (f n)) q := by
  obtain ⟨a, h⟩ := h
  exact (k a).imp fun _ e => Ev.bind h e
theorem ex_step {α : Type} {g f : Nat → Option α} (h : ∀ k, g (k + 1) = f k) (k : ∃ q, Ev f q) : ∃ q, Ev g q := k.imp fun _ e => Ev.step h e
theorem w64 {x : Int} (h0 : -9223372036854775808 ≤ x) (h1 : x ≤ 9223372036854775807) : wrap64 x = x := by unfold wrap64; omega
theorem wsucc {i n : Nat} (h : i < n) (hn : n ≤ 9223372036854775807) : wrap64 ((i : Int) + 1) = ((i + 1 : Nat) : Int) := by unfold wrap64; omega
theorem wplus {a : Int} (h0 : 0 ≤ a) (h1 : a ≤ 4611686018427387904) : wrap64 (a + 1) = a + 1 := by unfold wrap64; omega
theorem pre64 {i : Nat} (h : ¬ i = 0) (hi : i ≤ 9223372036854775807) : wrap64 ((i : Int) - 1) = ((i - 1 : Nat) : Int) := by unfold wrap64; omega
theorem getD_eq {α : Type} (d : α) (xs : List α) (i : Nat) (h : i < xs.length) : xs.getD i d = xs[i] := by
  rw [List.getD_eq_getElem?_getD, List.getElem?_eq_getElem h]; rfl
theorem mem_getD {α : Type} (d : α) (xs : List α) (i : Nat) (h : i < xs.length) : xs.getD i d ∈ xs := by
  rw [getD_eq d xs i h]; exact List.getElem_mem h
theorem getD_set {α : Type} (d : α) (xs : List α) (i j : Nat) (v : α) (h : i < xs.length) : (xs.set i v).getD j d = if j = i then v else xs.getD j d := by
  rw [List.getD_eq_getElem?_getD, List.getD_eq_getElem?_getD, List.getElem?_set]
  by_cases e : i = j
  · subst e; simp [h]
  · rw [if_neg e, if_neg (fun q => e q.symm)]
theorem fill_end {α : Type} (d : α) (z y : List α) (hl : y.length = z.length) (h : ∀ j, j < z.length → y.getD j d = z.getD j d) : y = z := by
  apply List.ext_getElem hl
  intro j h1 h2
  have e := h j h2
  rwa [getD_eq d y j h1, getD_eq d z j h2] at e
theorem fill_step {α : Type} (d : α) (z y : List α) (i : Nat) (hl : y.length = z.length) (hi : i < z.length) (h : ∀ j, j < i → y.getD j d = z.getD j d) (v : α) (hv : v = z.getD i d) :
    (y.set i v).length = z.length ∧ ∀ j, j < i + 1 → (y.set i v).getD j d = z.getD j d := by
  refine ⟨by simpa using hl, fun j hj => ?_⟩
  rw [getD_set d y i j v (by omega)]
  by_cases e : j = i
  · rw [if_pos e, e, hv]
  · rw [if_neg e]; exact h j (by omega)
theorem rdOf_nat {α : Type} (d : α) (xs : List α) (i : Nat) : rdOf d xs (i : Int) = xs.getD i d := by simp [rdOf]
theorem rd_nat (xs : List Int) (i : Nat) : rd xs (i : Int) = xs.getD i 0 := by simp [rd]
theorem map_getD {α β : Type} (e : β) (d : α) (f : α → β) (l : List α) (i : Nat) (h : i < l.length) : (l.map f).getD i e = f (l.getD i d) := by
  rw [getD_eq e _ i (by simpa using h), getD_eq d l i h, List.getElem_map]
/-- a list told from its end: what is left from place i on -/
theorem loopL {α : Type} (d : α) (l : List α) {P : Nat → List α → Prop} (h0 : P l.length []) (hs : ∀ i x r, i < l.length → l.getD i d = x → x ∈ l → l.drop (i + 1) = r → P (i + 1) r → P i (x :: r)) : P 0 l := by
  have key : ∀ (n i : Nat), i + n = l.length → P i (l.drop i) := fun n => by
    induction n with
    | zero =>
      intro i hi
      have e : i = l.length := by omega
      subst e; rw [List.drop_length]; exact h0
    | succ n ih =>
      intro i hi
      have hlt : i < l.length := by omega
      have e : l.drop i = l.getD i d :: l.drop (i + 1) := by rw [List.drop_eq_getElem_cons hlt, getD_eq d l i hlt]
      rw [e]
      exact hs i _ _ hlt rfl (mem_getD d l i hlt) rfl (ih (i + 1) (by omega))
  simpa using key l.length 0 (by omega)
/-- the element ahead of place i -/
def ahead {α : Type} (d : α) (l : List α) (i : Nat) : Option α := if i = 0 then none else some (l.getD (i - 1) d)
theorem ahead_zero {α : Type} (d : α) (l : List α) : ahead d l 0 = none := rfl
theorem ahead_succ {α : Type} (d : α) (l : List α) (i : Nat) : ahead d l (i + 1) = some (l.getD i d) := by simp [ahead]
theorem ahead_pos {α : Type} (d : α) (l : List α) (i : Nat) (h : ¬ i = 0) : ahead d l i = some (l.getD (i - 1) d) := if_neg h
/-! ### the order of bytes -/
theorem bl_irr : ∀ x : List UInt8, Op.bytesLess x x = false
  | [] => rfl
  | a :: x => by simp [Op.bytesLess, bl_irr x]
theorem bl_asym : ∀ x y : List UInt8, Op.bytesLess x y = true → Op.bytesLess y x = false
  | [], [], _ => rfl
  | [], _ :: _, _ => rfl
  | _ :: _, [], h => by simp [Op.bytesLess] at h
  | a :: x, b :: y, h => by
    simp only [Op.bytesLess, Bool.or_eq_true, Bool.and_eq_true, decide_eq_true_eq, beq_iff_eq] at h
    simp only [Op.bytesLess, Bool.or_eq_false_iff, Bool.and_eq_false_iff, decide_eq_false_iff_not, beq_eq_false_iff_ne]
    rcases h with h | ⟨rfl, h⟩
    · exact ⟨UInt8.lt_asymm h, .inl (fun e => by subst e; exact UInt8.lt_irrefl _ h)⟩
    · exact ⟨UInt8.lt_irrefl _, .inr (bl_asym x y h)⟩
theorem bl_tri : ∀ x y : List UInt8, Op.bytesLess x y = true ∨ x = y ∨ Op.bytesLess y x = true
  | [], [] => .inr (.inl rfl)
  | [], _ :: _ => .inl rfl
  | _ :: _, [] => .inr (.inr rfl)
  | a :: x, b :: y => by
    simp only [Op.bytesLess, Bool.or_eq_true, Bool.and_eq_true, decide_eq_true_eq, beq_iff_eq, List.cons.injEq]
    rcases UInt8.lt_or_lt_of_ne (a := a) (b := b) |> fun f => (Classical.em (a = b)).imp id f with rfl | h | h
    · rcases bl_tri x y with q | rfl | q
      · exact .inl (.inr ⟨rfl, q⟩)
      · exact .inr (.inl ⟨rfl, rfl⟩)
      · exact .inr (.inr (.inr ⟨rfl, q⟩))
    · exact .inl (.inl h)
    · exact .inr (.inr (.inl h))
theorem bl_trans : ∀ x y z : List UInt8, Op.bytesLess x y = true → Op.bytesLess y z = true → Op.bytesLess x z = true
  | [], _, _ :: _, _, _ => rfl
  | [], [], [], h, _ => h
  | [], _ :: _, [], _, h => by simp [Op.bytesLess] at h
  | _ :: _, [], _, h, _ => by simp [Op.bytesLess] at h
  | _ :: _, _ :: _, [], _, h => by simp [Op.bytesLess] at h
  | a :: x, b :: y, c :: z, h, k => by
    simp only [Op.bytesLess, Bool.or_eq_true, Bool.and_eq_true, decide_eq_true_eq, beq_iff_eq] at h k ⊢
    rcases h with h | ⟨rfl, h⟩
    · rcases k with k | ⟨rfl, k⟩
      · exact .inl (UInt8.lt_trans h k)
      · exact .inl h
    · rcases k with k | ⟨rfl, k⟩
      · exact .inl k
      · exact .inr ⟨rfl, bl_trans x y z h k⟩
theorem ba_ext {a b : ByteArray} (h : a.toList = b.toList) : a = b := by
  apply ByteArray.ext
  apply Array.ext'
  simpa [ByteArray.toList_eq] using h
theorem ba_iff {a b : ByteArray} : a.toList = b.toList ↔ a = b := ⟨ba_ext, fun h => h ▸ rfl⟩
/-- a text ahead of another -/
def lt (a b : ByteArray) : Bool := Op.bytesLess a.toList b.toList
theorem lt_irr (a : ByteArray) : lt a a = false := bl_irr _
theorem lt_asym {a b : ByteArray} (h : lt a b = true) : lt b a = false := bl_asym _ _ h
theorem lt_trans {a b c : ByteArray} (h : lt a b = true) (k : lt b c = true) : lt a c = true := bl_trans _ _ _ h k
theorem lt_tri (a b : ByteArray) : lt a b = true ∨ a = b ∨ lt b a = true := (bl_tri a.toList b.toList).imp id (·.imp ba_ext id)
theorem lt_ne {a b : ByteArray} (h : lt a b = true) : a ≠ b := fun e => by rw [e, lt_irr] at h; cases h
/-- pair by pair: the first, then the second -/
def befB (a0 a1 b0 b1 : ByteArray) : Bool := lt a0 b0 || (decide (a0 = b0) && lt a1 b1)
/-! ### marks: a text a number -/
theorem one_size (x : Int) : ((⟨#[UInt8.ofNat x.toNat]⟩ : ByteArray)).size = 1 := rfl
theorem markLoop_ev : ∀ (n : Nat) (x : Int) (s : ByteArray), 0 ≤ x → x.toNat ≤ n → x ≤ 4611686018427387904 → s.size + x.toNat ≤ 4611686018427387904 → ∃ r, Ev (fun k => laws_markText.l0 k x s) r
  | 0, x, s, h0, hn, hx, hs => ⟨(⟨#[109]⟩ : ByteArray) ++ s, by
      refine Ev.step (fun k => by rw [laws_markText.l0]) ?_
      exact ev_neg (by omega) (ev_pos (by show ((1 + s.size : Nat) : Int) ≤ _; omega) (ev_ret rfl))⟩
  | n + 1, x, s, h0, hn, hx, hs => by
    by_cases c : x > 0
    · have hd : Int.tdiv x 10 = x / 10 := Int.tdiv_eq_ediv_of_nonneg (by omega)
      have hw : wrap64 (Int.tdiv x 10) = x / 10 := by rw [hd]; unfold wrap64; omega
      obtain ⟨r, hr⟩ := markLoop_ev n (x / 10) ((⟨#[UInt8.ofNat (IntKind.wrap .u8 (wrap64 (48 + (Int.tmod x 10)))).toNat]⟩ : ByteArray) ++ s) (by omega) (by omega) (by omega) (by rw [ByteArray.size_append, one_size]; omega)
      refine ⟨r, ?_⟩
      refine Ev.step (fun k => by rw [laws_markText.l0]) ?_
      refine ev_pos c ?_
      rw [hw]
      exact ev_pos (by rw [one_size]; omega) hr
    · refine ⟨(⟨#[109]⟩ : ByteArray) ++ s, ?_⟩
      refine Ev.step (fun k => by rw [laws_markText.l0]) ?_
      exact ev_neg c (ev_pos (by show ((1 + s.size : Nat) : Int) ≤ _; omega) (ev_ret rfl))
theorem markText_ex (x : Int) (h : x ≤ 1152921504606846976) : ∃ r, Ev (fun k => laws_markText.f k x) r := by
  unfold laws_markText.f
  by_cases c : x ≤ 0
  · exact ⟨_, ev_pos c (ev_ret rfl)⟩
  · obtain ⟨r, hr⟩ := markLoop_ev x.toNat x (⟨#[]⟩ : ByteArray) (by omega) (Nat.le_refl _) (by omega) (by show 0 + x.toNat ≤ _; omega)
    exact ⟨r, ev_neg c hr⟩
open Classical in
noncomputable def mtx (x : Int) : ByteArray := if h : x ≤ 1152921504606846976 then (markText_ex x h).choose else ByteArray.empty
theorem markText_ev (x : Int) (h : x ≤ 1152921504606846976) : Ev (fun k => laws_markText.f k x) (mtx x) := by
  unfold mtx
  rw [dif_pos h]
  exact (markText_ex x h).choose_spec
theorem range_map_getD {α : Type} (d : α) (n : Nat) (f : Nat → α) (i : Nat) (h : i < n) : ((List.range n).map f).getD i d = f i := by
  rw [List.getD_eq_getElem?_getD, List.getElem?_map, List.getElem?_range h]; rfl
/-! ### the laws' own words -/
def ok_impl_RecPhase (y : S_impl_RecPhase) : Prop := (y.f0.size ≤ 140737488351232) ∧ ((Lit.int .i64 y.f1).wf = true) ∧ (y.f2.size ≤ 140737488351232) ∧ (y.f3.size ≤ 140737488351232) ∧ ((Lit.int .i64 y.f4).wf = true) ∧ ((Lit.int .i64 y.f5).wf = true) ∧ (y.f6.size ≤ 140737488351232) ∧ (y.f7.size ≤ 140737488351232)
theorem eqRecPhase_ev (x : S_impl_RecPhase) (h : ok_impl_RecPhase x) : Ev (fun k => laws_eqRecPhase.f x.f0 x.f1 x.f2 x.f3 x.f4 x.f5 x.f6 x.f7 x.f0 x.f1 x.f2 x.f3 x.f4 x.f5 x.f6 x.f7) true := by
  have h0 := h.1
  have h1 := h.2.1
  have h2 := h.2.2.1
  have h3 := h.2.2.2.1
  have h4 := h.2.2.2.2.1
  have h5 := h.2.2.2.2.2.1
  have h6 := h.2.2.2.2.2.2.1
  have h7 := h.2.2.2.2.2.2.2
  unfold laws_eqRecPhase.f
  repeat' (first | exact ev_ret rfl | refine ev_pos rfl ?_ | refine ev_neg (by simp) ?_)
theorem eqRecPhaseS_ev (l : List S_impl_RecPhase) (hl : l.length ≤ 140737488351232) (h : ∀ z ∈ l, ok_impl_RecPhase z) : Ev (fun k => laws_eqRecPhaseS.f k l l) true := by
  unfold laws_eqRecPhaseS.f
  refine ev_pos rfl ?_
  refine loopL z_impl_RecPhase l (P := fun i _ => Ev (fun k => laws_eqRecPhaseS.l0 k l l (i : Int)) true)
    (Ev.step (fun k => by rw [laws_eqRecPhaseS.l0]) (ev_neg (by omega) (ev_ret rfl)))
    (fun i x r hi hx hm _ ih => Ev.step (fun k => by rw [laws_eqRecPhaseS.l0]) (ev_pos (by omega) (ev_pos (by omega) (ev_pos (by omega) (by
      rw [wsucc hi (by omega)]
      rw [show rd_impl_RecPhase l (i : Int) = x from by unfold rd_impl_RecPhase; simpa using hx]
      exact Ev.bind (eqRecPhase_ev x (h x hm)) (ev_pos rfl ih))))))
theorem eqRecFault_ev (x0 : Int) (x1 : Int) (h0 : (Lit.int .i64 x0).wf = true) (h1 : (Lit.int .i64 x1).wf = true) : Ev (fun k => laws_eqRecFault.f x0 x1 x0 x1) true := by
  unfold laws_eqRecFault.f
  repeat' (first | exact ev_ret rfl | refine ev_pos rfl ?_ | refine ev_neg (by simp) ?_)
noncomputable def mk_RecPhaseS (n : Nat) (a : Int) : List S_impl_RecPhase := (List.range n).map fun (i : Nat) => ⟨mtx (a + 8 * (i : Int)), a + 8 * (i : Int) + 1, mtx (a + 8 * (i : Int) + 1 + 1), mtx (a + 8 * (i : Int) + 1 + 1 + 1), a + 8 * (i : Int) + 1 + 1 + 1 + 1, a + 8 * (i : Int) + 1 + 1 + 1 + 1 + 1, mtx (a + 8 * (i : Int) + 1 + 1 + 1 + 1 + 1 + 1), mtx (a + 8 * (i : Int) + 1 + 1 + 1 + 1 + 1 + 1 + 1)⟩
theorem mk_RecPhaseS_length (n : Nat) (a : Int) : (mk_RecPhaseS n a).length = n := by simp [mk_RecPhaseS]
theorem markRecPhaseS_ev (l : List S_impl_RecPhase) (a : Int) (ha : 0 ≤ a) (hb : a ≤ 281474976710656) (hn : l.length ≤ 17592186044416) : Ev (fun k => laws_markRecPhaseS.f k l a) (a + 8 * (l.length : Int), mk_RecPhaseS l.length a) := by
  unfold laws_markRecPhaseS.f
  have key := loopL z_impl_RecPhase l (P := fun i _ => ∀ y : List S_impl_RecPhase, y.length = l.length → (∀ j, j < i → y.getD j z_impl_RecPhase = (mk_RecPhaseS l.length a).getD j z_impl_RecPhase) → Ev (fun k => laws_markRecPhaseS.l0 k l (a + 8 * (i : Int)) (i : Int) y) (a + 8 * (l.length : Int), mk_RecPhaseS l.length a))
    (fun y hyl hy => by
      obtain rfl := fill_end z_impl_RecPhase (mk_RecPhaseS l.length a) y (by rw [mk_RecPhaseS_length]; exact hyl) (fun j hj => hy j (by rwa [mk_RecPhaseS_length] at hj))
      exact Ev.step (fun k => by rw [laws_markRecPhaseS.l0]) (ev_pos hyl (ev_neg (by omega) (ev_ret rfl))))
    (fun i x r hi hx hm _ ih y hyl hy => by
      obtain ⟨h1, h2⟩ := fill_step z_impl_RecPhase (mk_RecPhaseS l.length a) y i (by rw [mk_RecPhaseS_length]; exact hyl) (by rw [mk_RecPhaseS_length]; exact hi) hy _ (range_map_getD _ _ _ i hi).symm
      have hk := ih _ (by simpa using hyl) h2
      have hbd : 0 ≤ a + 8 * (i : Int) ∧ a + 8 * (i : Int) ≤ 1125899906842624 := by omega
      have e : a + 8 * ((i + 1 : Nat) : Int) = a + 8 * (i : Int) + 1 + 1 + 1 + 1 + 1 + 1 + 1 + 1 := by omega
      rw [e] at hk
      clear h1 h2 hy e ih
      generalize a + 8 * (i : Int) = b at hk hbd ⊢
      refine Ev.step (fun k => by rw [laws_markRecPhaseS.l0]) (ev_pos hyl (ev_pos (by omega) ?_))
      have w1 : wrap64 (b + 1) = b + 1 := by unfold wrap64; omega
      have w2 : wrap64 (b + 1 + 1) = b + 1 + 1 := by unfold wrap64; omega
      have w3 : wrap64 (b + 1 + 1 + 1) = b + 1 + 1 + 1 := by unfold wrap64; omega
      have w4 : wrap64 (b + 1 + 1 + 1 + 1) = b + 1 + 1 + 1 + 1 := by unfold wrap64; omega
      have w5 : wrap64 (b + 1 + 1 + 1 + 1 + 1) = b + 1 + 1 + 1 + 1 + 1 := by unfold wrap64; omega
      have w6 : wrap64 (b + 1 + 1 + 1 + 1 + 1 + 1) = b + 1 + 1 + 1 + 1 + 1 + 1 := by unfold wrap64; omega
      have w7 : wrap64 (b + 1 + 1 + 1 + 1 + 1 + 1 + 1) = b + 1 + 1 + 1 + 1 + 1 + 1 + 1 := by unfold wrap64; omega
      have w8 : wrap64 (b + 1 + 1 + 1 + 1 + 1 + 1 + 1 + 1) = b + 1 + 1 + 1 + 1 + 1 + 1 + 1 + 1 := by unfold wrap64; omega
      simp only [w1, w2, w3, w4, w5, w6, w7, w8, wsucc hi (by omega : l.length ≤ 9223372036854775807), Int.toNat_natCast]
      repeat' (first | with_reducible exact hk | with_reducible refine Ev.bind (markText_ev _ (by omega)) ?_ | refine ev_pos (by omega) ?_))
  simpa using key l rfl (fun j hj => absurd hj (Nat.not_lt_zero _))
theorem heldRecPhaseS_ev (n : Nat) (a : Int) (ha : 0 ≤ a) (hb : a ≤ 281474976710656) (hn : n ≤ 17592186044416) : Ev (fun k => laws_heldRecPhaseS.f k (mk_RecPhaseS n a) a) (a + 8 * (n : Int)) := by
  unfold laws_heldRecPhaseS.f
  have key := loopL z_impl_RecPhase (mk_RecPhaseS n a) (P := fun i _ => Ev (fun k => laws_heldRecPhaseS.l0 k (mk_RecPhaseS n a) (a + 8 * (i : Int)) (i : Int)) (a + 8 * (n : Int)))
    (Ev.step (fun k => by rw [laws_heldRecPhaseS.l0]) (ev_neg (by omega) (ev_ret (by rw [mk_RecPhaseS_length]))))
    (fun i x r hi hx hm _ ih => by
      have hi' := hi
      rw [mk_RecPhaseS_length] at hi'
      have hx' := (range_map_getD z_impl_RecPhase n _ i hi').symm.trans hx
      have hr : rd_impl_RecPhase (mk_RecPhaseS n a) (i : Int) = x := by unfold rd_impl_RecPhase; rw [Int.toNat_natCast]; exact hx
      have hbd : 0 ≤ a + 8 * (i : Int) ∧ a + 8 * (i : Int) ≤ 1125899906842624 := by omega
      have e : a + 8 * ((i + 1 : Nat) : Int) = a + 8 * (i : Int) + 1 + 1 + 1 + 1 + 1 + 1 + 1 + 1 := by omega
      rw [e] at ih
      have hlt : (i : Int) < ((mk_RecPhaseS n a).length : Int) := by omega
      have hl9 : (mk_RecPhaseS n a).length ≤ 9223372036854775807 := by rw [mk_RecPhaseS_length]; omega
      generalize mk_RecPhaseS n a = L at *
      clear e hx
      generalize a + 8 * (i : Int) = b at ih hbd hx' ⊢
      refine Ev.step (fun k => by rw [laws_heldRecPhaseS.l0]) (ev_pos (by omega) ?_)
      have w1 : wrap64 (b + 1) = b + 1 := by unfold wrap64; omega
      have w2 : wrap64 (b + 1 + 1) = b + 1 + 1 := by unfold wrap64; omega
      have w3 : wrap64 (b + 1 + 1 + 1) = b + 1 + 1 + 1 := by unfold wrap64; omega
      have w4 : wrap64 (b + 1 + 1 + 1 + 1) = b + 1 + 1 + 1 + 1 := by unfold wrap64; omega
      have w5 : wrap64 (b + 1 + 1 + 1 + 1 + 1) = b + 1 + 1 + 1 + 1 + 1 := by unfold wrap64; omega
      have w6 : wrap64 (b + 1 + 1 + 1 + 1 + 1 + 1) = b + 1 + 1 + 1 + 1 + 1 + 1 := by unfold wrap64; omega
      have w7 : wrap64 (b + 1 + 1 + 1 + 1 + 1 + 1 + 1) = b + 1 + 1 + 1 + 1 + 1 + 1 + 1 := by unfold wrap64; omega
      have w8 : wrap64 (b + 1 + 1 + 1 + 1 + 1 + 1 + 1 + 1) = b + 1 + 1 + 1 + 1 + 1 + 1 + 1 + 1 := by unfold wrap64; omega
      simp only [w1, w2, w3, w4, w5, w6, w7, w8, wsucc hi hl9, hr]
      subst hx'
      repeat' (first | with_reducible exact ih | with_reducible refine Ev.bind (markText_ev _ (by omega)) ?_ | refine ev_pos (by omega) ?_ | refine ev_pos rfl ?_ | refine ev_neg (by simp) ?_))
  simpa using key
/-! ### names -/
theorem ev_b {α : Type} {b : Bool} {g f : Nat → Option α} {r : α} (h : b = true → Ev g r) (k : b = false → Ev f r) : Ev (fun n => if b = true then g n else f n) r := by
  cases b
  · exact ev_neg (by simp) (k rfl)
  · exact ev_pos rfl (h rfl)
/-- a yes or no that is asked -/
theorem ev_ask {α : Type} {o g f : Nat → Option α} {q : Nat → Option Bool} {b : Bool} {r : α} (hq : Ev q b) (h : b = true → Ev g r) (k : b = false → Ev f r) : Ev (fun n => (q n).bind fun t => if t = true then g n else f n) r := Ev.bind (f := fun n t => if t = true then g n else f n) hq (ev_b h k)
def okc (c : Int) : Bool := (decide (97 ≤ c) && decide (c ≤ 122)) || ((decide (48 ≤ c) && decide (c ≤ 57)) || decide (c = 45))
theorem okc_t {c : Int} (h : 97 ≤ c ∧ c ≤ 122 ∨ 48 ≤ c ∧ c ≤ 57 ∨ c = 45) : okc c = true := by simp [okc]; omega
theorem okc_f {c : Int} (h : ¬ (97 ≤ c ∧ c ≤ 122 ∨ 48 ≤ c ∧ c ≤ 57 ∨ c = 45)) : okc c = false := by
  rw [← Bool.not_eq_true]; intro q; apply h; simp [okc] at q; omega
def allFrom (s : ByteArray) (i : Nat) : Bool := decide (∀ j, j < s.size → i ≤ j → okc (bt s (j : Int)) = true)
theorem allFrom_step (s : ByteArray) (i : Nat) (h : i < s.size) : allFrom s i = (okc (bt s (i : Int)) && allFrom s (i + 1)) := by
  unfold allFrom
  rw [Bool.eq_iff_iff, Bool.and_eq_true, decide_eq_true_iff, decide_eq_true_iff]
  refine ⟨fun q => ⟨q i h (Nat.le_refl _), fun j hj hi => q j hj (by omega)⟩, fun q j hj hi => ?_⟩
  by_cases e : j = i
  · rw [e]; exact q.1
  · exact q.2 j hj (by omega)
theorem allFrom_end (s : ByteArray) : allFrom s s.size = true := by
  unfold allFrom
  rw [decide_eq_true_iff]
  intro j hj hi; omega
def nameB (s : ByteArray) : Bool := decide (1 ≤ s.size ∧ s.size ≤ 8) && allFrom s 0
/-- a walk over the places of a text -/
theorem loopN (n : Nat) {P : Nat → Prop} (h0 : P n) (hs : ∀ i, i < n → P (i + 1) → P i) : P 0 := by
  have key : ∀ (m i : Nat), i + m = n → P i := fun m => by
    induction m with
    | zero => intro i hi; have e : i = n := by omega
              subst e; exact h0
    | succ m ih => intro i hi; exact hs i (by omega) (ih (i + 1) (by omega))
  exact key n 0 (by omega)
/-- each before the next -/
def chainB {α : Type} (p : α → α → Bool) : Option α → List α → Bool
  | _, [] => true
  | none, x :: r => chainB p (some x) r
  | some y, x :: r => p y x && chainB p (some x) r
def namesB (l : List ByteArray) : Bool := l.all nameB && chainB lt none l
def hasB (l : List ByteArray) (s : ByteArray) : Bool := l.any fun x => decide (x = s)
theorem hasB_iff {l : List ByteArray} {s : ByteArray} : hasB l s = true ↔ s ∈ l := by
  unfold hasB
  rw [List.any_eq_true]
  exact ⟨fun ⟨x, h, e⟩ => by simp at e; exact e ▸ h, fun h => ⟨s, h, by simp⟩⟩
def inB (a b c : Int) : Bool := decide (b ≤ a ∧ a ≤ c)
theorem inB_t {a b c : Int} (h : b ≤ a ∧ a ≤ c) : inB a b c = true := decide_eq_true h
theorem inB_f {a b c : Int} (h : ¬ (b ≤ a ∧ a ≤ c)) : inB a b c = false := decide_eq_false h
/-! ### names, as the reference reads them (recipes) -/
theorem l41In_ev (a b c : Int) : Ev (fun _ => spec_l41In.f a b c) (inB a b c) := by
  unfold spec_l41In.f inB
  refine ev_split (fun h => ev_ret (decide_eq_decide.2 (by omega))) (fun h => ev_ret ?_)
  symm; apply decide_eq_false; omega
theorem l41NameOk_ev (s : ByteArray) : Ev (fun k => spec_l41NameOk.f k s) (nameB s) := by
  unfold spec_l41NameOk.f nameB
  refine Ev.bind (l41In_ev _ _ _) (ev_b (fun h => ?_) (fun h => ev_ret ?_))
  · have hs : 1 ≤ s.size ∧ s.size ≤ 8 := by have : inB _ _ _ = true := h; unfold inB at this; have := of_decide_eq_true this; omega
    rw [decide_eq_true hs, Bool.true_and]
    refine loopN s.size (P := fun i => Ev (fun k => spec_l41NameOk.l0 k s (i : Int)) (allFrom s i))
      (by refine Ev.step (fun k => by rw [spec_l41NameOk.l0]) ?_; exact ev_neg (by omega) (ev_ret (allFrom_end s).symm)) (fun i hi ih => ?_)
    refine Ev.step (fun k => by rw [spec_l41NameOk.l0]) (ev_pos (by omega) (ev_pos (by omega) ?_))
    rw [wsucc hi (by omega), allFrom_step s i hi]
    generalize bt s (i : Int) = c
    repeat' (first | (refine ev_split (fun _ => ?_) (fun _ => ?_)) | (rw [okc_t (by omega), Bool.true_and]; exact ih) | (rw [okc_f (by omega)]; exact ev_ret rfl))
  · have hs : ¬ (1 ≤ s.size ∧ s.size ≤ 8) := fun q => by have : inB _ _ _ = false := h; unfold inB at this; have := of_decide_eq_false this; omega
    rw [decide_eq_false hs]; rfl
/-! ### names, as the program reads them (no lists that rise) -/
theorem isName_ev (s : ByteArray) (hn : s.size ≤ 140737488351232) : Ev (fun k => impl_isName.f k s) (nameB s) := by
  unfold impl_isName.f nameB
  refine loopN s.size (P := fun i => Ev (fun k => impl_isName.l0 k s (i : Int)) (decide (1 ≤ s.size ∧ s.size ≤ 8) && allFrom s i))
    (by
      refine Ev.step (fun k => by rw [impl_isName.l0]) (ev_neg (by omega) ?_)
      rw [allFrom_end, Bool.and_true]
      refine ev_split (fun h => ev_ret (decide_eq_decide.2 (by omega))) (fun h => ev_ret ?_)
      symm; apply decide_eq_false; omega) (fun i hi ih => ?_)
  refine Ev.step (fun k => by rw [impl_isName.l0]) (ev_pos (by omega) (ev_pos (by omega) ?_))
  rw [wsucc hi (by omega), allFrom_step s i hi]
  generalize bt s (i : Int) = c
  repeat' (first | (refine ev_split (fun _ => ?_) (fun _ => ?_)) | (rw [okc_t (by omega), Bool.true_and]; exact ih) | (rw [okc_f (by omega), Bool.false_and, Bool.and_false]; exact ev_ret rfl))
theorem chain_none {α : Type} (p : α → α → Bool) (x : α) (r : List α) : chainB p none (x :: r) = chainB p (some x) r := rfl
/-! ### recipes -/
theorem rdRP (l : List S_impl_RecPhase) (i : Nat) : rd_impl_RecPhase l (i : Int) = l.getD i z_impl_RecPhase := by unfold rd_impl_RecPhase; rw [Int.toNat_natCast]
def endOf (a : ByteArray) : Int := if a = (⟨#[103, 111, 111, 100]⟩ : ByteArray) then 1 else if a = (⟨#[115, 97, 118, 101, 100]⟩ : ByteArray) then 2 else if a = (⟨#[115, 99, 114, 97, 112, 112, 101, 100]⟩ : ByteArray) then 3 else 0
theorem specEnd_ev (a : ByteArray) : Ev (fun _ => spec_RecEnd.f a) (endOf a) := by
  unfold spec_RecEnd.f endOf
  refine ev_split (fun c => ev_ret (by rw [if_pos (ba_iff.1 c)])) (fun c => ?_)
  rw [if_neg (fun e => c (ba_iff.2 e))]
  refine ev_split (fun c => ev_ret (by rw [if_pos (ba_iff.1 c)])) (fun c => ?_)
  rw [if_neg (fun e => c (ba_iff.2 e))]
  exact ev_split (fun c => ev_ret (by rw [if_pos (ba_iff.1 c)])) (fun c => ev_ret (by rw [if_neg (fun e => c (ba_iff.2 e))]))
theorem implEnd_ev (a : ByteArray) : Ev (fun _ => impl_RecEnd.f a) (endOf a) := by
  unfold impl_RecEnd.f endOf
  refine ev_split (fun c => ev_ret (by rw [if_pos (ba_iff.1 c)])) (fun c => ?_)
  rw [if_neg (fun e => c (ba_iff.2 e))]
  refine ev_split (fun c => ev_ret (by rw [if_pos (ba_iff.1 c)])) (fun c => ?_)
  rw [if_neg (fun e => c (ba_iff.2 e))]
  exact ev_split (fun c => ev_ret (by rw [if_pos (ba_iff.1 c)])) (fun c => ev_ret (by rw [if_neg (fun e => c (ba_iff.2 e))]))
def argsB (x : S_impl_RecPhase) : Bool :=
  if x.f1 = 1 then nameB x.f3 && inB x.f4 1 1000 else if x.f1 = 2 then nameB x.f3 && (!decide (x.f2 = x.f3) && inB x.f4 1 1000) else if x.f1 = 3 then decide (x.f3 = (⟨#[]⟩ : ByteArray)) && inB x.f4 1 x.f5 else if x.f1 = 4 ∨ x.f1 = 5 then decide (x.f3 = (⟨#[]⟩ : ByteArray)) && decide (x.f4 = 0) else false
def phaseB (x : S_impl_RecPhase) : Bool := (nameB x.f0 && decide (endOf x.f0 = 0)) && (inB x.f5 1 1000 && ((nameB x.f2 && argsB x) && (nameB x.f6 && nameB x.f7)))
theorem l41Args_ev (x : S_impl_RecPhase) : Ev (fun k => spec_l41ArgsOk.f k x.f0 x.f1 x.f2 x.f3 x.f4 x.f5 x.f6 x.f7) (nameB x.f2 && argsB x) := by
  have e2 := l41NameOk_ev x.f2
  have e3 := l41NameOk_ev x.f3
  unfold spec_l41ArgsOk.f argsB
  generalize nameB x.f2 = n2 at *
  generalize nameB x.f3 = n3 at *
  refine ev_split (fun c => ?_) (fun c => ?_)
  · rw [if_pos c]
    exact Ev.bind e2 (ev_b (fun d => Ev.bind e3 (ev_b (fun d2 => Ev.bind (l41In_ev _ _ _) (ev_ret (by rw [d, d2]; rfl))) (fun d2 => ev_ret (by rw [d2]; simp)))) (fun d => ev_ret (by rw [d]; rfl)))
  rw [if_neg c]
  refine ev_split (fun c => ?_) (fun c => ?_)
  · rw [if_pos c]
    refine Ev.bind e2 (ev_b (fun d => Ev.bind e3 (ev_b (fun d2 => ev_split (fun d3 => ev_ret ?_) (fun d3 => Ev.bind (l41In_ev _ _ _) (ev_ret ?_))) (fun d2 => ev_ret (by rw [d2]; simp)))) (fun d => ev_ret (by rw [d]; rfl)))
    · rw [decide_eq_true (ba_iff.1 d3)]; simp
    · rw [decide_eq_false (fun e => d3 (ba_iff.2 e)), d, d2]; rfl
  rw [if_neg c]
  refine ev_split (fun c => ?_) (fun c => ?_)
  · rw [if_pos c]
    refine Ev.bind e2 (ev_b (fun d => ev_split (fun d3 => Ev.bind (l41In_ev _ _ _) (ev_ret ?_)) (fun d3 => ev_ret ?_)) (fun d => ev_ret (by rw [d]; rfl)))
    · rw [decide_eq_true (ba_iff.1 d3), d]; rfl
    · rw [decide_eq_false (fun e => d3 (ba_iff.2 e))]; simp
  rw [if_neg c]
  refine ev_split (fun c => ?_) (fun c => ?_)
  · rw [if_pos (show x.f1 = 4 ∨ x.f1 = 5 from .inl c)]
    refine Ev.bind e2 (ev_b (fun d => ev_split (fun d3 => ev_ret ?_) (fun d3 => ev_ret ?_)) (fun d => ev_ret (by rw [d]; rfl)))
    · rw [decide_eq_true (ba_iff.1 d3), d]; rfl
    · rw [decide_eq_false (fun e => d3 (ba_iff.2 e))]; simp
  refine ev_split (fun c2 => ?_) (fun c2 => ?_)
  · rw [if_pos (show x.f1 = 4 ∨ x.f1 = 5 from .inr c2)]
    refine Ev.bind e2 (ev_b (fun d => ev_split (fun d3 => ev_ret ?_) (fun d3 => ev_ret ?_)) (fun d => ev_ret (by rw [d]; rfl)))
    · rw [decide_eq_true (ba_iff.1 d3), d]; rfl
    · rw [decide_eq_false (fun e => d3 (ba_iff.2 e))]; simp
  · rw [if_neg (show ¬ (x.f1 = 4 ∨ x.f1 = 5) by omega)]; exact ev_ret (by simp)
theorem specPhase_ev (x : S_impl_RecPhase) : Ev (fun k => spec_RecPhaseOk.f k x.f0 x.f1 x.f2 x.f3 x.f4 x.f5 x.f6 x.f7) (phaseB x) := by
  have eP : Ev (fun k => spec_l41PlainOk.f k x.f0) (nameB x.f0 && decide (endOf x.f0 = 0)) := by
    unfold spec_l41PlainOk.f
    exact Ev.bind (l41NameOk_ev _) (ev_b (fun c => Ev.bind (specEnd_ev _) (ev_ret (by rw [c]; rfl))) (fun c => ev_ret (by rw [c]; rfl)))
  have eA := l41Args_ev x
  unfold spec_RecPhaseOk.f phaseB
  generalize (nameB x.f0 && decide (endOf x.f0 = 0)) = b0 at *
  generalize (nameB x.f2 && argsB x) = b1 at *
  refine Ev.bind eP (ev_b (fun c0 => Ev.bind (l41In_ev _ _ _) (ev_b (fun c1 => Ev.bind eA (ev_b (fun c2 => Ev.bind (l41NameOk_ev _) (ev_b (fun c3 => Ev.bind (l41NameOk_ev _) (ev_ret ?_)) (fun c3 => ev_ret ?_))) (fun c2 => ev_ret ?_))) (fun c1 => ev_ret ?_))) (fun c0 => ev_ret ?_))
  · rw [c0, c1, c2, c3]; rfl
  · rw [c3]; simp
  · rw [c2]; simp
  · rw [c1]; simp
  · rw [c0]; rfl
structure SzR (x : S_impl_RecPhase) : Prop where
  n0 : x.f0.size ≤ 140737488351232
  n2 : x.f2.size ≤ 140737488351232
  n3 : x.f3.size ≤ 140737488351232
  n6 : x.f6.size ≤ 140737488351232
  n7 : x.f7.size ≤ 140737488351232
theorem phaseJ_ev (x : S_impl_RecPhase) (z : SzR x) (m : Int) (b : Bool) : Ev (fun k => impl_RecPhaseOk.j0 k x.f3 x.f4 m b) ((if b = true then nameB x.f3 else decide (x.f3 = (⟨#[]⟩ : ByteArray))) && (decide (x.f4 ≤ m) && (decide (1 ≤ x.f4) || (decide (m = 0) && decide (x.f4 = 0))))) := by
  have e3 := isName_ev x.f3 z.n3
  have tl : ∀ B : Bool, B = true → Ev (fun _ => if x.f4 ≤ m then (if x.f4 ≥ 1 then some true else if m = 0 then some (decide (x.f4 = 0)) else some false) else some false) (B && (decide (x.f4 ≤ m) && (decide (1 ≤ x.f4) || (decide (m = 0) && decide (x.f4 = 0))))) := fun B hB => by
    subst hB
    refine ev_split (fun c => ev_split (fun d => ev_ret ?_) (fun d => ev_split (fun d2 => ev_ret ?_) (fun d2 => ev_ret ?_))) (fun c => ev_ret ?_)
    · rw [decide_eq_true c, decide_eq_true (by omega : 1 ≤ x.f4)]; rfl
    · rw [decide_eq_true c, decide_eq_false (by omega : ¬ 1 ≤ x.f4), decide_eq_true d2]; rfl
    · rw [decide_eq_true c, decide_eq_false (by omega : ¬ 1 ≤ x.f4), decide_eq_false d2]; rfl
    · rw [decide_eq_false c]; rfl
  refine Ev.step (fun k => by rw [impl_RecPhaseOk.j0]) ?_
  cases b with
  | true =>
    refine ev_pos rfl (Ev.bind e3 (ev_b (fun c => ?_) (fun c => ev_ret (by rw [if_pos rfl, c]; rfl))))
    rw [if_pos rfl]; exact tl _ c
  | false =>
    refine ev_neg (by simp) (ev_split (fun c => ?_) (fun c => ev_ret ?_))
    · rw [if_neg Bool.false_ne_true]; exact tl _ (decide_eq_true (ba_iff.1 c))
    · rw [if_neg Bool.false_ne_true, decide_eq_false (fun e => c (ba_iff.2 e))]; rfl
theorem implPhase_ev (x : S_impl_RecPhase) (z : SzR x) : Ev (fun k => impl_RecPhaseOk.f k x.f0 x.f1 x.f2 x.f3 x.f4 x.f5 x.f6 x.f7) (phaseB x) := by
  have J := fun m b => phaseJ_ev x z m b
  unfold impl_RecPhaseOk.f phaseB argsB
  refine Ev.bind (isName_ev _ z.n0) (ev_b (fun c0 => ?_) (fun c0 => ev_ret (by rw [c0]; rfl)))
  refine Ev.bind (implEnd_ev _) (ev_split (fun c1 => ?_) (fun c1 => ev_ret (by rw [decide_eq_false c1]; simp)))
  rw [c0, decide_eq_true c1]
  refine ev_split (fun c => ev_ret (by rw [inB_f (by omega : ¬ (1 ≤ x.f5 ∧ x.f5 ≤ 1000))]; rfl)) (fun c2 => ?_)
  refine ev_split (fun c => ev_ret (by rw [inB_f (by omega : ¬ (1 ≤ x.f5 ∧ x.f5 ≤ 1000))]; rfl)) (fun c3 => ?_)
  rw [inB_t (by omega : 1 ≤ x.f5 ∧ x.f5 ≤ 1000)]
  refine Ev.bind (isName_ev _ z.n2) (ev_b (fun c4 => ?_) (fun c4 => ev_ret (by rw [c4]; rfl)))
  refine Ev.bind (isName_ev _ z.n6) (ev_b (fun c5 => ?_) (fun c5 => ev_ret (by rw [c5]; simp)))
  refine Ev.bind (isName_ev _ z.n7) (ev_b (fun c6 => ?_) (fun c6 => ev_ret (by rw [c6]; simp)))
  rw [c4, c5, c6]
  simp only [Bool.and_true, Bool.true_and]
  refine ev_split (fun c => ?_) (fun c => ?_)
  · rw [if_pos c]
    refine ev_eq (J 1000 true) ?_
    rw [if_pos rfl]; congr 1
    rw [Bool.eq_iff_iff]; unfold inB; simp only [Bool.and_eq_true, Bool.or_eq_true, decide_eq_true_eq, true_and]; omega
  rw [if_neg c]
  refine ev_split (fun c => ?_) (fun c => ?_)
  · rw [if_pos c]
    refine ev_split (fun d => ev_ret (by rw [decide_eq_true (ba_iff.1 d)]; simp)) (fun d => ev_eq (J 1000 true) ?_)
    rw [if_pos rfl, decide_eq_false (fun e => d (ba_iff.2 e))]; congr 1
    rw [Bool.eq_iff_iff]; unfold inB; simp only [Bool.not_false, Bool.true_and, Bool.and_eq_true, Bool.or_eq_true, decide_eq_true_eq]; omega
  rw [if_neg c]
  refine ev_split (fun c => ?_) (fun c => ?_)
  · rw [if_pos c]
    refine ev_eq (J x.f5 false) ?_
    rw [if_neg Bool.false_ne_true]; congr 1
    rw [Bool.eq_iff_iff]; unfold inB; simp only [Bool.and_eq_true, Bool.or_eq_true, decide_eq_true_eq, true_and]; omega
  rw [if_neg c]
  refine ev_split (fun c => ?_) (fun c => ?_)
  · rw [if_pos (show x.f1 = 4 ∨ x.f1 = 5 from .inl c)]
    refine ev_eq (J 0 false) ?_
    rw [if_neg Bool.false_ne_true]; congr 1
    rw [Bool.eq_iff_iff]; simp only [Bool.and_eq_true, Bool.or_eq_true, decide_eq_true_eq, true_and]; omega
  refine ev_split (fun c2 => ?_) (fun c2 => ?_)
  · rw [if_pos (show x.f1 = 4 ∨ x.f1 = 5 from .inr c2)]
    refine ev_eq (J 0 false) ?_
    rw [if_neg Bool.false_ne_true]; congr 1
    rw [Bool.eq_iff_iff]; simp only [Bool.and_eq_true, Bool.or_eq_true, decide_eq_true_eq, true_and]; omega
  · rw [if_neg (show ¬ (x.f1 = 4 ∨ x.f1 = 5) by omega)]; exact ev_ret rfl
/-! ### phases of a recipe -/
def phIx (a : ByteArray) : List S_impl_RecPhase → Nat → Int
  | [], _ => -1
  | y :: r, i => if y.f0 = a then (i : Int) else phIx a r (i + 1)
theorem phIx_at (l : List S_impl_RecPhase) (a : ByteArray) : ∀ (r : List S_impl_RecPhase) (i : Nat), l.drop i = r → phIx a r i = -1 ∨ ∃ j : Nat, j < l.length ∧ i ≤ j ∧ phIx a r i = (j : Int) ∧ (l.getD j z_impl_RecPhase).f0 = a
  | [], _, _ => .inl rfl
  | y :: r, i, hd => by
    have hi : i < l.length := by
      refine Nat.lt_of_not_le fun hle => ?_
      rw [List.drop_eq_nil_iff.2 hle] at hd; cases hd
    have e := List.drop_eq_getElem_cons hi
    rw [hd] at e; injection e with e1 e2
    have hy : l.getD i z_impl_RecPhase = y := by rw [getD_eq _ l i hi]; exact e1.symm
    rw [show phIx a (y :: r) i = if y.f0 = a then (i : Int) else phIx a r (i + 1) from rfl]
    by_cases c : y.f0 = a
    · exact .inr ⟨i, hi, Nat.le_refl _, by rw [if_pos c], by rw [hy]; exact c⟩
    · rw [if_neg c]
      rcases phIx_at l a r (i + 1) e2.symm with h | ⟨j, h1, h2, h3, h4⟩
      · exact .inl h
      · exact .inr ⟨j, h1, by omega, h3, h4⟩
theorem l42At_ev (l : List S_impl_RecPhase) (a : ByteArray) (hl : l.length ≤ 140737488351232) : Ev (fun k => spec_l42At.f k l a) (phIx a l 0) := by
  unfold spec_l42At.f
  refine loopL z_impl_RecPhase l (P := fun i r => Ev (fun k => spec_l42At.l0 k l a (i : Int)) (phIx a r i))
    (by refine Ev.step (fun k => by rw [spec_l42At.l0]) ?_; exact ev_neg (by omega) (ev_ret rfl)) (fun i y r hi hx hm _ ih => ?_)
  refine Ev.step (fun k => by rw [spec_l42At.l0]) (ev_pos (by omega) (ev_pos (by omega) ?_))
  rw [wsucc hi (by omega), rdRP, hx]
  unfold phIx
  exact ev_split (fun c => ev_ret (by rw [if_pos (ba_iff.1 c)])) (fun c => ev_eq ih (by rw [if_neg (fun e => c (ba_iff.2 e))]))
theorem phase_ev (l : List S_impl_RecPhase) (a : ByteArray) (hl : l.length ≤ 140737488351232) : Ev (fun k => impl_phase.f k l a) (phIx a l 0) := by
  unfold impl_phase.f
  refine loopL z_impl_RecPhase l (P := fun i r => Ev (fun k => impl_phase.l0 k l a (i : Int)) (phIx a r i))
    (by refine Ev.step (fun k => by rw [impl_phase.l0]) ?_; exact ev_neg (by omega) (ev_ret rfl)) (fun i y r hi hx hm _ ih => ?_)
  refine Ev.step (fun k => by rw [impl_phase.l0]) (ev_pos (by omega) (ev_pos (by omega) ?_))
  rw [wsucc hi (by omega), rdRP, hx]
  unfold phIx
  exact ev_split (fun c => ev_ret (by rw [if_pos (ba_iff.1 c)])) (fun c => ev_eq ih (by rw [if_neg (fun e => c (ba_iff.2 e))]))
def onB (l : List S_impl_RecPhase) (i : Nat) (a : ByteArray) : Bool := !decide (endOf a = 0) || decide ((i : Int) < phIx a l 0)
def ownB (l : List S_impl_RecPhase) (i : Nat) (x : S_impl_RecPhase) : Bool := phaseB x && decide (phIx x.f0 l 0 = (i : Int))
def recA (l : List S_impl_RecPhase) : Nat → List S_impl_RecPhase → Bool
  | _, [] => true
  | i, x :: r => ownB l i x && recA l (i + 1) r
def recN (l : List S_impl_RecPhase) : Nat → List S_impl_RecPhase → Bool
  | _, [] => true
  | i, x :: r => (onB l i x.f6 && onB l i x.f7) && recN l (i + 1) r
def recB (l : List S_impl_RecPhase) : Bool := inB (l.length : Int) 1 12 && (recA l 0 l && recN l 0 l)
theorem and4 (a b c d : Bool) : ((a && b) && (c && d)) = ((a && c) && (b && d)) := by cases a <;> cases b <;> cases c <;> cases d <;> rfl
/-! ### answers that are there -/
/-- there is an answer, and it is so -/
def ExP {α : Type} (g : Nat → Option α) (Q : α → Prop) : Prop := ∃ q, Ev g q ∧ Q q
theorem exp_ret {α : Type} {a : α} {Q : α → Prop} (h : Q a) : ExP (fun _ => some a) Q := ⟨a, Ev.now a, h⟩
theorem exp_let {α β : Type} {g : Option α} {a : α} {f : Nat → α → Option β} {Q : β → Prop} (h : g = some a) (k : ExP (fun n => f n a) Q) : ExP (fun n => g.bind (f n)) Q := by subst h; exact k
theorem exp_bind {α β : Type} {g : Nat → Option α} {f : Nat → α → Option β} {R : α → Prop} {Q : β → Prop} (h : ExP g R) (k : ∀ a, R a → ExP (fun n => f n a) Q) : ExP (fun n => (g n).bind (f n)) Q := by
  obtain ⟨a, h1, h2⟩ := h
  obtain ⟨q, e, hq⟩ := k a h2
  exact ⟨q, Ev.bind h1 e, hq⟩
theorem exp_ite {α : Type} {c : Prop} {d : Decidable c} {g f : Nat → Option α} {Q : α → Prop} (h : c → ExP g Q) (k : ¬ c → ExP f Q) : ExP (fun n => @ite _ c d (g n) (f n)) Q := by
  by_cases q : c
  · exact (h q).imp fun _ e => ⟨ev_pos q e.1, e.2⟩
  · exact (k q).imp fun _ e => ⟨ev_neg q e.1, e.2⟩
theorem exp_pos {α : Type} {c : Prop} {d : Decidable c} {g f : Nat → Option α} {Q : α → Prop} (h : c) (k : ExP g Q) : ExP (fun n => @ite _ c d (g n) (f n)) Q := k.imp fun _ e => ⟨ev_pos h e.1, e.2⟩
theorem exp_neg {α : Type} {c : Prop} {d : Decidable c} {g f : Nat → Option α} {Q : α → Prop} (h : ¬ c) (k : ExP f Q) : ExP (fun n => @ite _ c d (g n) (f n)) Q := k.imp fun _ e => ⟨ev_neg h e.1, e.2⟩
theorem exp_step {α : Type} {g f : Nat → Option α} {Q : α → Prop} (h : ∀ k, g (k + 1) = f k) (k : ExP f Q) : ExP g Q := k.imp fun _ e => ⟨Ev.step h e.1, e.2⟩
theorem exp_mono {α : Type} {g : Nat → Option α} {Q R : α → Prop} (h : ExP g Q) (k : ∀ a, Q a → R a) : ExP g R := h.imp fun a e => ⟨e.1, k a e.2⟩
/-! ### texts, cut in pieces -/
def pcs (c : UInt8) : List UInt8 → List (List UInt8)
  | [] => [[]]
  | b :: l => if b = c then [] :: pcs c l else (b :: (pcs c l).headD []) :: (pcs c l).tail
theorem pcs_ne (c : UInt8) : ∀ l, pcs c l ≠ []
  | [] => by simp [pcs]
  | b :: l => by unfold pcs; split <;> simp
theorem index_hd (c : UInt8) (l : List UInt8) : Lib.index (c :: l) [c] = 0 := by simp [Lib.index, List.isPrefixOf]
theorem index_tl (b c : UInt8) (l : List UInt8) (h : b ≠ c) : Lib.index (b :: l) [c] = if Lib.index l [c] == -1 then -1 else Lib.index l [c] + 1 := by
  have h' : (c == b) = false := by simpa using fun e => h e.symm
  simp [Lib.index, List.isPrefixOf, h']
theorem splitK_pcs (c : UInt8) : ∀ s : List UInt8, Lib.splitK [c] 0 (Lib.count s [c]) s = pcs c s
  | [] => by rw [Lib.count_miss (by simp [Lib.index])]; rfl
  | b :: l => by
    have ih := splitK_pcs c l
    by_cases h : b = c
    · subst h
      rw [Lib.count_cons_eq, Nat.add_comm, Lib.splitK, index_hd, if_neg (by decide)]
      simp [pcs, ih]
    · rw [Lib.count_cons_ne b c l h]
      have hi := index_tl b c l h
      by_cases hm : Lib.index l [c] = -1
      · rw [Lib.count_miss hm] at ih ⊢
        simp only [Lib.splitK] at ih ⊢
        simp [pcs, h, ← ih]
      · have hge := Lib.index_ge l [c]
        obtain ⟨i, hi'⟩ : ∃ i : Nat, Lib.index l [c] = i := ⟨(Lib.index l [c]).toNat, by omega⟩
        rw [Lib.count_hit (by simp) hi', Nat.add_comm] at ih ⊢
        have e1 : ¬ (Lib.index l [c] == -1) = true := by simpa using hm
        have hi2 : Lib.index (b :: l) [c] = ((i + 1 : Nat) : Int) := by rw [hi, if_neg e1, hi']; omega
        have e2 : ¬ (Lib.index (b :: l) [c] == -1) = true := by
          intro e; have := beq_iff_eq.1 e; omega
        rw [Lib.splitK, if_neg e1, hi'] at ih
        rw [Lib.splitK, if_neg e2, hi2, pcs, if_neg h, ← ih]
        simp [Nat.add_assoc, Nat.add_comm]
        rw [show 1 + (i + 1) = (i + 1) + 1 by omega, List.drop_succ_cons]
def bareL (c : UInt8) : List UInt8 → List UInt8
  | [] => []
  | b :: l => if b = c then [] else b :: bareL c l
theorem cut_bare (c : UInt8) : ∀ s : List UInt8, (Lib.cut s [c]).1 = bareL c s
  | [] => by simp [Lib.cut, Lib.index, bareL]
  | b :: l => by
    have ih := cut_bare c l
    by_cases h : b = c
    · subst h
      simp [Lib.cut, index_hd, bareL]
    · have hi := index_tl b c l h
      have hge := Lib.index_ge l [c]
      by_cases hm : Lib.index l [c] = -1
      · have e : Lib.index (b :: l) [c] = -1 := by rw [hi, if_pos (by simpa using hm)]
        simp only [Lib.cut, hm, e, bareL, if_neg h] at ih ⊢
        simpa using ih
      · have e1 : ¬ (Lib.index l [c] == -1) = true := by simpa using hm
        have e : Lib.index (b :: l) [c] = Lib.index l [c] + 1 := by rw [hi, if_neg e1]
        have g0 : 0 ≤ Lib.index l [c] := by omega
        have g1 : 0 ≤ Lib.index l [c] + 1 := by omega
        simp only [Lib.cut, e, bareL, if_neg h, if_pos g0, if_pos g1] at ih ⊢
        rw [← ih, show (Lib.index l [c] + 1).toNat = (Lib.index l [c]).toNat + 1 by omega, List.take_succ_cons]
theorem splitS_map (s : ByteArray) (c : UInt8) : (splitS s ⟨#[c]⟩).map (fun x => x.data.toList) = pcs c s.data.toList := by
  unfold splitS
  rw [Lib.splitB_data]
  exact splitK_pcs c _
theorem cutS_bare (s : ByteArray) (c : UInt8) : (cutS s ⟨#[c]⟩).1.data.toList = bareL c s.data.toList := by
  unfold cutS
  exact cut_bare c _
/-! ### texts as lists of bytes -/
def mkB (l : List UInt8) : ByteArray := ⟨l.toArray⟩
theorem mkB_data (x : ByteArray) : mkB x.data.toList = x := by cases x; simp [mkB]
theorem data_mkB (l : List UInt8) : (mkB l).data.toList = l := by simp [mkB]
theorem mkB_size (l : List UInt8) : (mkB l).size = l.length := by show l.toArray.size = l.length; simp
theorem ba_len (s : ByteArray) : s.data.toList.length = s.size := by show s.data.toList.length = s.data.size; simp
theorem mkB_nil {l : List UInt8} : mkB l = (⟨#[]⟩ : ByteArray) ↔ l = [] := by
  constructor
  · intro h
    have := congrArg (fun x : ByteArray => x.data.toList) h
    simpa [mkB] using this
  · rintro rfl; rfl
theorem bt_list (s : ByteArray) (i : Nat) (h : i < s.size) : bt s (i : Int) = ((s.data.toList.getD i 0).toNat : Int) := by
  have h' : i < s.data.toList.length := by rw [ba_len]; exact h
  unfold bt
  rw [dif_pos (by simpa using h), getD_eq _ _ _ h']
  simp only [Int.toNat_natCast]
  rfl
theorem extract_one (s : ByteArray) (i : Nat) (h : i < s.size) : s.extract i (i + 1) = mkB [s.data.toList.getD i 0] := by
  have h' : i < s.data.toList.length := by rw [ba_len]; exact h
  apply ByteArray.ext
  apply Array.ext'
  rw [getD_eq _ _ _ h']
  simp only [ByteArray.data_extract, Array.toList_extract, mkB, List.extract_eq_take_drop]
  rw [show i + 1 - i = 1 by omega, List.drop_eq_getElem_cons h']
  simp
theorem extract_to (s : ByteArray) (i : Nat) : s.extract 0 i = mkB (s.data.toList.take i) := by
  apply ByteArray.ext
  apply Array.ext'
  simp [ByteArray.data_extract, mkB, List.extract_eq_take_drop]
theorem mkB_app (a b : List UInt8) : mkB a ++ mkB b = mkB (a ++ b) := by
  apply ByteArray.ext
  simp [ByteArray.data_append, mkB]
theorem u8_lt (b : UInt8) : b.toNat < 256 := b.toNat_lt
theorem bareL_len (c : UInt8) : ∀ l : List UInt8, (bareL c l).length ≤ l.length
  | [] => Nat.le_refl _
  | b :: l => by
    have := bareL_len c l
    unfold bareL
    split
    · simp
    · simp; omega
/-! ### the words of a line -/
def okW (b : UInt8) : Bool := decide (32 ≤ b.toNat ∧ b.toNat ≤ 126)
def wsp : List UInt8 → List UInt8 → List ByteArray → Option (List ByteArray)
  | [], _, out => some out
  | b :: l, cur, out => if b = 32 then (if cur = [] then wsp l cur out else wsp l [] (out ++ [mkB cur])) else if (33 ≤ b.toNat ∧ b.toNat ≤ 126) ∧ cur.length + 1 ≤ 24 then wsp l (cur ++ [b]) out else none
def goP : List (List UInt8) → List ByteArray → Option (List ByteArray)
  | [], out => some out
  | p :: ps, out => if p = [] then goP ps out else if p.length > 24 then none else goP ps (out ++ [mkB p])
theorem u8_32 {b : UInt8} : b = 32 ↔ b.toNat = 32 := ⟨fun h => by subst h; rfl, fun h => UInt8.toNat_inj.1 (by rw [h]; rfl)⟩
theorem u8_35 {b : UInt8} : b = 35 ↔ b.toNat = 35 := ⟨fun h => by subst h; rfl, fun h => UInt8.toNat_inj.1 (by rw [h]; rfl)⟩
theorem wsp_go : ∀ (bs cur : List UInt8) (out : List ByteArray), cur.length ≤ 24 → wsp (bs ++ [32]) cur out = if bs.all okW = true then goP ((cur ++ (pcs 32 bs).headD []) :: (pcs 32 bs).tail) out else none
  | [], cur, out, hc => by
    have : ¬ cur.length > 24 := by omega
    simp only [List.nil_append, wsp, pcs, goP, List.all_nil, List.headD_cons, List.append_nil, List.tail_cons]
    by_cases h : cur = [] <;> simp [h, this]
  | b :: l, cur, out, hc => by
    rw [List.cons_append, wsp]
    by_cases h : b = 32
    · subst h
      have i1 := wsp_go l [] out (by simp)
      have i2 := wsp_go l [] (out ++ [mkB cur]) (by simp)
      have hne := pcs_ne 32 l
      have e : ([] ++ (pcs 32 l).headD []) :: (pcs 32 l).tail = pcs 32 l := by
        cases hp : pcs 32 l with
        | nil => exact absurd hp hne
        | cons p ps => simp
      rw [e] at i1 i2
      have ok : okW 32 = true := by decide
      have : ¬ cur.length > 24 := by omega
      simp only [pcs, if_true, List.headD_cons, List.append_nil, List.tail_cons, List.all_cons, ok, Bool.true_and, goP]
      by_cases hcur : cur = []
      · subst hcur; simp [i1]
      · simp [hcur, this, i2]
    · rw [if_neg h]
      have hb : b.toNat ≠ 32 := fun e => h (u8_32.2 e)
      simp only [pcs, if_neg h, List.headD_cons, List.tail_cons, List.all_cons]
      by_cases h1 : 33 ≤ b.toNat ∧ b.toNat ≤ 126
      · have ok : okW b = true := decide_eq_true (by omega)
        by_cases h2 : cur.length + 1 ≤ 24
        · rw [if_pos ⟨h1, h2⟩, wsp_go l (cur ++ [b]) out (by simp; omega), ok, Bool.true_and]
          simp
        · rw [if_neg (fun q => h2 q.2), ok, Bool.true_and]
          have e1 : cur ++ b :: (pcs 32 l).headD [] ≠ [] := by simp
          have e2 : (cur ++ b :: (pcs 32 l).headD []).length > 24 := by simp; omega
          rw [goP, if_neg e1, if_pos e2]
          simp
      · have ok : okW b = false := decide_eq_false (by omega)
        rw [if_neg (fun q => h1 q.1), ok]
        simp
theorem wsp_same (bs : List UInt8) : wsp (bs ++ [32]) [] [] = if bs.all okW = true then goP (pcs 32 bs) [] else none := by
  have h := wsp_go bs [] [] (by simp)
  have hne := pcs_ne 32 bs
  have e : ([] ++ (pcs 32 bs).headD []) :: (pcs 32 bs).tail = pcs 32 bs := by
    cases hp : pcs 32 bs with
    | nil => exact absurd hp hne
    | cons p ps => simp
  rw [e] at h; exact h
def cutO : Option (List ByteArray) → List ByteArray × Bool
  | none => ([], false)
  | some o => (o, true)
theorem cutWords_ev (s : ByteArray) (hs : s.size ≤ 1048576) : Ev (fun k => impl_cutWords.f k s) (cutO (if (bareL 35 s.data.toList).all okW = true then goP (pcs 32 (bareL 35 s.data.toList)) [] else none)) := by
  unfold impl_cutWords.f
  have eC : strings_Cut.f s (⟨#[35]⟩ : ByteArray) = some (cutS s (⟨#[35]⟩ : ByteArray)) := by
    unfold strings_Cut.f cutSf; rw [if_pos (by omega)]
  have hb := cutS_bare s 35
  refine ev_let eC ?_
  generalize cutS s (⟨#[35]⟩ : ByteArray) = C at *
  have hbl := bareL_len 35 s.data.toList
  rw [ba_len] at hbl
  have hC : C.1 = mkB (bareL 35 s.data.toList) := by rw [← hb, mkB_data]
  generalize bareL 35 s.data.toList = B at *
  have hCs : C.1.size = B.length := by rw [hC, mkB_size]
  have L1 : B.all okW = true → Ev (fun k => impl_cutWords.l0 k (B.length : Int) C) (cutO (goP (pcs 32 B) [])) := fun _ => by
    refine Ev.step (fun k => by rw [impl_cutWords.l0]) (ev_neg (by omega) ?_)
    have eS : strings_Split.f C.1 (⟨#[32]⟩ : ByteArray) = some (splitS C.1 (⟨#[32]⟩ : ByteArray)) := by
      unfold strings_Split.f splitSf; rw [if_pos ⟨by omega, by decide⟩]
    refine ev_let eS ?_
    have hm := splitS_map C.1 32
    rw [hb] at hm
    have hlen : (splitS C.1 (⟨#[32]⟩ : ByteArray)).length ≤ 4294967296 := by
      have h1 := Lib.splitB_length_le (⟨#[32]⟩ : ByteArray) 0 (Lib.countB C.1 (⟨#[32]⟩ : ByteArray)) C.1
      have h2 := Lib.countB_le (⟨#[32]⟩ : ByteArray) (by decide) C.1.size C.1 (Nat.le_refl _)
      unfold splitS; omega
    generalize splitS C.1 (⟨#[32]⟩ : ByteArray) = ws at *
    rw [← hm]
    have key := loopL ByteArray.empty ws (P := fun i r => i ≤ ws.length → ∀ out : List ByteArray, out.length ≤ i → Ev (fun k => impl_cutWords.l1 k out (i : Int) ws) (cutO (goP (r.map (fun x => x.data.toList)) out)))
      (fun _ out _ => by refine Ev.step (fun k => by rw [impl_cutWords.l1]) ?_; exact ev_neg (by omega) (ev_ret rfl)) (fun i x r hi hx hmm _ ih _ out ho => ?_)
    · exact key (by omega) [] (by simp)
    refine Ev.step (fun k => by rw [impl_cutWords.l1]) (ev_pos (by omega) (ev_pos (by omega) ?_))
    rw [rdOf_nat, hx, wsucc hi (by omega), List.map_cons, goP]
    have hxl := ba_len x
    refine ev_split (fun c => ?_) (fun c => ?_)
    · have : x.data.toList = [] := by rw [ba_iff.1 c]
      rw [if_pos this]
      exact ih (by omega) out (by omega)
    · have : ¬ x.data.toList = [] := fun e => c (ba_iff.2 (by rw [← mkB_data x, e]; rfl))
      rw [if_neg this]
      refine ev_split (fun c2 => ?_) (fun c2 => ?_)
      · rw [if_pos (by omega)]; exact ev_ret rfl
      · rw [if_neg (by omega), mkB_data]
        exact ev_pos (by omega) (ih (by omega) _ (by simp; omega))
  have key := loopL (0 : UInt8) B (P := fun i r => (r.all okW = true → B.all okW = true) → i ≤ B.length → Ev (fun k => impl_cutWords.l0 k (i : Int) C) (cutO (if r.all okW = true then goP (pcs 32 B) [] else none)))
    (fun h _ => by rw [if_pos (by rfl)]; exact L1 (h rfl)) (fun i x r hi hx hm _ ih h _ => ?_)
  · exact key (fun h => h) (by omega)
  have hbt : bt C.1 (i : Int) = (x.toNat : Int) := by rw [bt_list _ i (by omega), hb, hx]
  refine Ev.step (fun k => by rw [impl_cutWords.l0]) (ev_pos (by omega) (ev_pos (by omega) ?_))
  rw [hbt, wsucc hi (by omega), List.all_cons]
  refine ev_split (fun c => ?_) (fun c => ev_split (fun c2 => ?_) (fun c2 => ?_))
  · have ok : okW x = false := decide_eq_false (by omega)
    rw [ok]; exact ev_ret rfl
  · have ok : okW x = false := decide_eq_false (by omega)
    rw [ok]; exact ev_ret rfl
  · have ok : okW x = true := decide_eq_true (by omega)
    rw [ok, Bool.true_and]
    exact ih (fun q => h (by rw [List.all_cons, ok, Bool.true_and]; exact q)) (by omega)
/-! ### lines -/
def finL : List UInt8 → List UInt8 → List ByteArray
  | cur, [] => if cur = [] then [] else [mkB cur]
  | cur, b :: r => if b = 10 then mkB cur :: finL [] r else finL (cur ++ [b]) r
def dl : List (List UInt8) → List ByteArray
  | [] => []
  | [p] => if p = [] then [] else [mkB p]
  | p :: q :: r => mkB p :: dl (q :: r)
theorem finL_dl : ∀ (l cur : List UInt8), finL cur l = dl ((cur ++ (pcs 10 l).headD []) :: (pcs 10 l).tail)
  | [], cur => by simp [finL, pcs, dl]
  | b :: l, cur => by
    by_cases h : b = 10
    · subst h
      have ih := finL_dl l []
      have hne := pcs_ne 10 l
      cases hp : pcs 10 l with
      | nil => exact absurd hp hne
      | cons p ps =>
        rw [hp] at ih
        simp only [List.headD_cons, List.tail_cons, List.nil_append] at ih
        simp [finL, pcs, hp, dl, ih]
    · have ih := finL_dl l (cur ++ [b])
      simp only [finL, pcs, if_neg h, List.headD_cons, List.tail_cons]
      rw [ih]; simp
theorem finL_pcs (l : List UInt8) : finL [] l = dl (pcs 10 l) := by
  have h := finL_dl l []
  have hne := pcs_ne 10 l
  cases hp : pcs 10 l with
  | nil => exact absurd hp hne
  | cons p ps => rw [hp] at h; simpa using h
theorem extract_mid (s : ByteArray) (a i : Nat) (h : i ≤ s.size) : s.extract a i = mkB ((s.data.toList.drop a).take (i - a)) := by
  apply ByteArray.ext
  apply Array.ext'
  simp [ByteArray.data_extract, mkB, List.extract_eq_take_drop]
theorem l43Lines_ev (s : ByteArray) (hs : s.size ≤ 1048576) : Ev (fun k => spec_l43Lines.f k s) (finL [] s.data.toList) := by
  unfold spec_l43Lines.f
  have hl := ba_len s
  have key := loopL (0 : UInt8) s.data.toList (P := fun i r => i ≤ s.data.toList.length → ∀ (out : List ByteArray) (a : Nat), a ≤ i → out.length ≤ i → Ev (fun k => spec_l43Lines.l0 k s out (a : Int) (i : Int)) (out ++ finL ((s.data.toList.drop a).take (i - a)) r))
    (fun _ out a ha ho => by
      refine Ev.step (fun k => by rw [spec_l43Lines.l0]) ?_
      refine ev_neg (by omega) ?_
      have e : (s.data.toList.drop a).take (s.data.toList.length - a) = s.data.toList.drop a := List.take_of_length_le (by rw [List.length_drop]; omega)
      rw [e, finL]
      refine ev_split (fun c => ?_) (fun c => ?_)
      · have hne : ¬ s.data.toList.drop a = [] := fun q => by have := List.drop_eq_nil_iff.1 q; omega
        rw [if_neg hne]
        refine ev_pos (by omega) (ev_pos (by omega) (ev_pos (by omega) (ev_ret ?_)))
        rw [Int.toNat_natCast, extract_mid _ _ _ (Nat.le_refl _), List.take_of_length_le (by rw [List.length_drop]; omega)]
      · have he : s.data.toList.drop a = [] := List.drop_eq_nil_iff.2 (by omega)
        rw [if_pos he, List.append_nil]; exact ev_ret rfl) (fun i x r hi hx hm _ ih _ out a ha ho => ?_)
  · have := key (by omega) [] 0 (by omega) (by simp)
    simpa using this
  have hxb := u8_lt x
  refine Ev.step (fun k => by rw [spec_l43Lines.l0]) ?_
  refine ev_pos (by omega) (ev_pos (by omega) ?_)
  rw [bt_list s i (by omega), hx, wsucc hi (by omega), finL]
  refine ev_split (fun c => ?_) (fun c => ?_)
  · have h10 : x = 10 := UInt8.toNat_inj.1 (by show x.toNat = 10; omega)
    rw [if_pos h10]
    refine ev_pos (by omega) (ev_pos (by omega) (ev_pos (by omega) (ev_pos (by omega) ?_)))
    rw [Int.toNat_natCast, Int.toNat_natCast, extract_mid _ _ _ (by omega)]
    have := ih (by omega) (out ++ [mkB ((s.data.toList.drop a).take (i - a))]) (i + 1) (Nat.le_refl _) (by simp; omega)
    rw [Nat.sub_self, List.take_zero] at this
    refine ev_eq this ?_
    simp
  · have h10 : ¬ x = 10 := fun e => c (by rw [e]; rfl)
    rw [if_neg h10]
    refine ev_eq (ih (by omega) out a (by omega) (by omega)) ?_
    have e : (s.data.toList.drop a).take (i + 1 - a) = (s.data.toList.drop a).take (i - a) ++ [x] := by
      rw [show i + 1 - a = (i - a) + 1 by omega, List.take_succ_eq_append_getElem (by rw [List.length_drop]; omega), List.getElem_drop]
      rw [getD_eq _ _ _ hi] at hx
      simp only [show a + (i - a) = i by omega, hx]
    rw [e]
theorem dl_len : ∀ l : List (List UInt8), (dl l).length ≤ l.length
  | [] => Nat.le_refl _
  | [p] => by unfold dl; split <;> simp
  | p :: q :: r => by have := dl_len (q :: r); simp only [dl, List.length_cons] at this ⊢; omega
theorem dl_last : ∀ (ws : List ByteArray), ws ≠ [] → dl (ws.map fun x => x.data.toList) = if ws.getD (ws.length - 1) ByteArray.empty = (⟨#[]⟩ : ByteArray) then ws.take (ws.length - 1) else ws
  | [], h => absurd rfl h
  | [x], _ => by
    simp only [List.map_cons, List.map_nil, dl, List.length_cons, List.length_nil]
    by_cases h : x = (⟨#[]⟩ : ByteArray)
    · subst h; simp
    · have : ¬ x.data.toList = [] := fun e => h (by rw [← mkB_data x, e]; rfl)
      simp [this, h, mkB_data]
  | x :: y :: r, _ => by
    have ih := dl_last (y :: r) (by simp)
    simp only [List.map_cons] at ih ⊢
    rw [dl, ih, mkB_data]
    have e1 : (x :: y :: r).length - 1 = (y :: r).length - 1 + 1 := by simp
    rw [e1, List.getD_cons_succ, List.take_succ_cons]
    split <;> rfl
theorem cutLines_ev (s : ByteArray) (hs : s.size ≤ 1048576) : Ev (fun _ => impl_cutLines.f s) (finL [] s.data.toList) := by
  unfold impl_cutLines.f
  have eS : strings_Split.f s (⟨#[10]⟩ : ByteArray) = some (splitS s (⟨#[10]⟩ : ByteArray)) := by
    unfold strings_Split.f splitSf; rw [if_pos ⟨by omega, by decide⟩]
  refine ev_let eS ?_
  have hm := splitS_map s 10
  have hlen : (splitS s (⟨#[10]⟩ : ByteArray)).length ≤ 4294967296 := by
    have h1 := Lib.splitB_length_le (⟨#[10]⟩ : ByteArray) 0 (Lib.countB s (⟨#[10]⟩ : ByteArray)) s
    have h2 := Lib.countB_le (⟨#[10]⟩ : ByteArray) (by decide) s.size s (Nat.le_refl _)
    unfold splitS; omega
  rw [finL_pcs, ← hm]
  have hne : splitS s (⟨#[10]⟩ : ByteArray) ≠ [] := fun e => by rw [e] at hm; exact pcs_ne 10 _ hm.symm
  generalize splitS s (⟨#[10]⟩ : ByteArray) = ws at *
  rw [dl_last ws hne]
  have hpos := List.length_pos_iff.2 hne
  have hw : wrap64 ((ws.length : Int) - 1) = ((ws.length - 1 : Nat) : Int) := by rw [w64 (by omega) (by omega)]; omega
  rw [hw, rdOf_nat]
  refine ev_pos (by omega) (ev_pos (by omega) (ev_split (fun c => ?_) (fun c => ?_)))
  · rw [if_pos (ba_iff.1 c), Int.toNat_natCast]
    exact ev_pos (by omega) (ev_ret rfl)
  · rw [if_neg (fun e => c (ba_iff.2 e))]; exact ev_ret rfl
theorem finL_len (s : ByteArray) (hs : s.size ≤ 1048576) : (finL [] s.data.toList).length ≤ 4294967296 := by
  have hm := splitS_map s 10
  have h1 := Lib.splitB_length_le (⟨#[10]⟩ : ByteArray) 0 (Lib.countB s (⟨#[10]⟩ : ByteArray)) s
  have h2 := Lib.countB_le (⟨#[10]⟩ : ByteArray) (by decide) s.size s (Nat.le_refl _)
  have h3 := dl_len (pcs 10 s.data.toList)
  rw [finL_pcs]
  rw [← hm, List.length_map] at h3
  rw [← hm]
  unfold splitS at *; omega
/-- each line is no longer than the text -/
theorem finL_mem : ∀ (l cur : List UInt8), ∀ x ∈ finL cur l, x.size ≤ cur.length + l.length
  | [], cur, x, hx => by
    unfold finL at hx
    split at hx
    · cases hx
    · rw [List.mem_singleton] at hx; subst hx; rw [mkB_size]; simp
  | b :: l, cur, x, hx => by
    unfold finL at hx
    split at hx
    · rcases List.mem_cons.1 hx with rfl | hx
      · rw [mkB_size]; simp
      · have := finL_mem l [] x hx; simp at this ⊢; omega
    · have := finL_mem l (cur ++ [b]) x hx; simp at this ⊢; omega
/-! ### words, as the reference cuts them -/
def hsh : List UInt8 → List UInt8
  | [] => []
  | b :: l => if b = 35 then [32] else b :: hsh l
theorem hsh_bare : ∀ B : List UInt8, hsh (B ++ [32]) = bareL 35 B ++ [32]
  | [] => by decide
  | b :: B => by
    rw [List.cons_append, hsh, bareL]
    split
    · rfl
    · rw [hsh_bare B]; rfl
theorem words_j {S : ByteArray} {i : Nat} {x : UInt8} {cur : List UInt8} {out : List ByteArray} {R : List ByteArray × Bool} (hi : i < S.size) (hS : S.size ≤ 2000000) (hx : S.data.toList.getD i 0 = x) (hc : cur.length ≤ 24) (ho : out.length ≤ i)
    (h1 : x = 32 → cur = [] → Ev (fun k => spec_l43Words.l0 k out (mkB cur) S ((i + 1 : Nat) : Int)) R) (h2 : x = 32 → cur ≠ [] → Ev (fun k => spec_l43Words.l0 k (out ++ [mkB cur]) (⟨#[]⟩ : ByteArray) S ((i + 1 : Nat) : Int)) R)
    (h3 : x ≠ 32 → (33 ≤ x.toNat ∧ x.toNat ≤ 126) ∧ cur.length + 1 ≤ 24 → Ev (fun k => spec_l43Words.l0 k out (mkB (cur ++ [x])) S ((i + 1 : Nat) : Int)) R) (h4 : x ≠ 32 → ¬ ((33 ≤ x.toNat ∧ x.toNat ≤ 126) ∧ cur.length + 1 ≤ 24) → R = ([], false)) :
    Ev (fun k => spec_l43Words.j0 k out (mkB cur) S (i : Int)) R := by
  have hx8 := u8_lt x
  have hl := ba_len S
  have hbt : bt S (i : Int) = (x.toNat : Int) := by rw [bt_list _ i hi, hx]
  have hex : S.extract ((i : Int)).toNat ((i + 1 : Nat) : Int).toNat = mkB [x] := by
    rw [Int.toNat_natCast, Int.toNat_natCast, extract_one _ i hi, hx]
  refine Ev.step (fun k => by rw [spec_l43Words.j0]) ?_
  rw [wsucc hi (by omega), hbt, hex, mkB_app]
  refine ev_pos (by omega) (ev_pos (by omega) ?_)
  refine ev_split (fun c => ?_) (fun c => ?_)
  · have hx32 : x = 32 := u8_32.2 (by omega)
    refine ev_split (fun c2 => h1 hx32 (mkB_nil.1 (ba_iff.1 c2))) (fun c2 => ?_)
    exact ev_pos (by omega) (h2 hx32 (fun e => c2 (ba_iff.2 (mkB_nil.2 e))))
  · have hx32 : x ≠ 32 := fun e => c (by rw [u8_32.1 e]; rfl)
    refine ev_pos (by omega) (ev_pos (by omega) (ev_pos (by rw [mkB_size, mkB_size]; simp; omega) ?_))
    rw [w64 (by omega) (by omega)]
    refine Ev.bind (l41In_ev _ _ _) (ev_b (fun c1 => ?_) (fun c1 => ?_))
    · have hv : 33 ≤ x.toNat ∧ x.toNat ≤ 126 := by have := of_decide_eq_true c1; omega
      refine ev_split (fun c2 => ?_) (fun c2 => ?_)
      · rw [mkB_size] at c2; simp at c2
        rw [h4 hx32 (fun q => by omega)]; exact ev_ret rfl
      · rw [mkB_size] at c2; simp at c2
        exact h3 hx32 ⟨hv, by omega⟩
    · have hv : ¬ (33 ≤ x.toNat ∧ x.toNat ≤ 126) := by have := of_decide_eq_false c1; omega
      rw [h4 hx32 (fun q => hv q.1)]; exact ev_ret rfl
theorem l43Words_ev (s : ByteArray) (hs : s.size ≤ 1048576) : Ev (fun k => spec_l43Words.f k s) (cutO (wsp (bareL 35 s.data.toList ++ [32]) [] [])) := by
  unfold spec_l43Words.f
  have e32 : (⟨#[32]⟩ : ByteArray) = mkB [32] := rfl
  have z1 : (⟨#[32]⟩ : ByteArray).size = 1 := rfl
  refine ev_pos (by omega) ?_
  rw [← hsh_bare]
  have hS : s ++ (⟨#[32]⟩ : ByteArray) = mkB (s.data.toList ++ [32]) := by rw [← mkB_app, mkB_data]; rfl
  rw [hS]
  have hBl : (s.data.toList ++ [32]).length ≤ 1048577 := by rw [List.length_append, ba_len]; simp; omega
  generalize s.data.toList ++ [32] = B at *
  have hsz : (mkB B).size = B.length := mkB_size _
  have key := loopL (0 : UInt8) B (P := fun i r => i ≤ B.length → ∀ (cur : List UInt8) (out : List ByteArray), cur.length ≤ 24 → out.length ≤ i → Ev (fun k => spec_l43Words.l0 k out (mkB cur) (mkB B) (i : Int)) (cutO (wsp (hsh r) cur out)))
    (fun _ cur out hc ho => by
      refine Ev.step (fun k => by rw [spec_l43Words.l0]) ?_
      exact ev_neg (by omega) (ev_ret rfl)) (fun i x r hi hx hm _ ih _ cur out hc ho => ?_)
  · exact key (by omega) [] [] (by simp) (by simp)
  have hx8 := u8_lt x
  refine Ev.step (fun k => by rw [spec_l43Words.l0]) ?_
  rw [bt_list (mkB B) i (by omega), data_mkB, hx]
  refine ev_pos (by omega) (ev_pos (by omega) ?_)
  rw [hsh]
  refine ev_split (fun c => ?_) (fun c => ?_)
  · rw [if_pos (u8_35.2 (by omega))]
    rw [extract_to, Int.toNat_natCast, data_mkB, e32, mkB_app]
    have hsz2 : (mkB (B.take i ++ [32])).size = i + 1 := by rw [mkB_size]; simp; omega
    refine ev_pos (by omega) (ev_pos (by simp only [mkB_size, List.length_take, List.length_cons, List.length_nil]; omega) ?_)
    have endR : ∀ (o : List ByteArray) (c : ByteArray), Ev (fun k => spec_l43Words.l0 k o c (mkB (B.take i ++ [32])) ((i + 1 : Nat) : Int)) (o, true) := fun o c => by
      refine Ev.step (fun k => by rw [spec_l43Words.l0]) ?_
      exact ev_neg (by omega) (ev_ret rfl)
    have hg : (mkB (B.take i ++ [32])).data.toList.getD i 0 = 32 := by
      rw [data_mkB, List.getD_eq_getElem?_getD, List.getElem?_append_right (by simp; omega)]
      simp [show i - min i B.length = 0 by omega]
    refine words_j (x := 32) (by omega) (by omega) hg hc ho (fun _ hcur => ?_) (fun _ hcur => ?_) (fun h => absurd rfl h) (fun h => absurd rfl h)
    · refine ev_eq (endR out _) ?_
      simp [wsp, hcur, cutO]
    · refine ev_eq (endR _ _) ?_
      simp [wsp, hcur, cutO]
  · rw [if_neg (fun e => c (by rw [u8_35.1 e]; rfl))]
    rw [wsp]
    refine words_j (x := x) (by omega) (by omega) (by rw [data_mkB, hx]) hc ho (fun h hcur => ?_) (fun h hcur => ?_) (fun h hv => ?_) (fun h hv => ?_)
    · rw [if_pos h, if_pos hcur]; exact ih (by omega) cur out hc (by omega)
    · rw [if_pos h, if_neg hcur]; exact ih (by omega) [] _ (by simp) (by simp; omega)
    · rw [if_neg h, if_pos hv]; exact ih (by omega) _ out (by simp; omega) (by omega)
    · rw [if_neg h, if_neg hv]; rfl
theorem cutWords2_ev (s : ByteArray) (hs : s.size ≤ 1048576) : Ev (fun k => impl_cutWords.f k s) (cutO (wsp (bareL 35 s.data.toList ++ [32]) [] [])) := by
  rw [wsp_same]; exact cutWords_ev s hs
/-! ### numbers, read -/
theorem exp_ev {α β : Type} {g : Nat → Option α} {a : α} {f : Nat → α → Option β} {Q : β → Prop} (h : Ev g a) (k : ExP (fun n => f n a) Q) : ExP (fun n => (g n).bind (f n)) Q := by
  obtain ⟨q, e, hq⟩ := k
  exact ⟨q, Ev.bind h e, hq⟩
def numG : List UInt8 → Int → Option Int
  | [], n => some n
  | b :: r, n => if 48 ≤ b.toNat ∧ b.toNat ≤ 57 then numG r (10 * n + ((b.toNat : Int) - 48)) else none
theorem numG_pos : ∀ (r : List UInt8) (n v : Int), 0 ≤ n → numG r n = some v → 0 ≤ v
  | [], n, v, h0, h => by injection h with h; omega
  | b :: r, n, v, h0, h => by
    rw [numG] at h
    split at h
    · exact numG_pos r _ v (by omega) h
    · cases h
def numO (s : ByteArray) : Int := if 1 ≤ s.size ∧ s.size ≤ 4 then (if s.size > 1 ∧ s.data.toList.getD 0 0 = 48 then -1 else (numG s.data.toList 0).getD (-1)) else -1
def numR : Option Int → Int × Bool
  | some v => (v, true)
  | none => (0, false)
def decR (s : ByteArray) : Int × Bool := if 0 ≤ numO s then (numO s, true) else (0, false)
def smallAt (i : Nat) (n : Int) : Prop := 0 ≤ n ∧ n ≤ 9999 ∧ (i = 0 → n ≤ 0) ∧ (i = 1 → n ≤ 9) ∧ (i = 2 → n ≤ 99) ∧ (i = 3 → n ≤ 999)
theorem smallAt_step {i : Nat} {n : Int} (h : smallAt i n) (hi : i < 4) {c : Nat} (h0 : 48 ≤ c) (h1 : c ≤ 57) : smallAt (i + 1) (10 * n + ((c : Int) - 48)) := by
  obtain ⟨a, b, c0, c1, c2, c3⟩ := h
  unfold smallAt; omega
theorem u8_48 {b : UInt8} : b = 48 ↔ b.toNat = 48 := ⟨fun h => by subst h; rfl, fun h => UInt8.toNat_inj.1 (by rw [h]; rfl)⟩
theorem u8sub (c : Int) (h0 : 48 ≤ c) (h1 : c ≤ 57) : IntKind.wrap .u8 (c - 48) = c - 48 := by
  have : c = 48 ∨ c = 49 ∨ c = 50 ∨ c = 51 ∨ c = 52 ∨ c = 53 ∨ c = 54 ∨ c = 55 ∨ c = 56 ∨ c = 57 := by omega
  rcases this with rfl | rfl | rfl | rfl | rfl | rfl | rfl | rfl | rfl | rfl <;> decide +kernel
theorem sNum0 (s : ByteArray) (hs : s.size ≤ 4) : Ev (fun k => spec_l43Number.l0 k s 0 0) ((numG s.data.toList 0).getD (-1)) := by
  have hl := ba_len s
  have key := loopL (0 : UInt8) s.data.toList (P := fun i r => ∀ n : Int, smallAt i n → Ev (fun k => spec_l43Number.l0 k s n (i : Int)) ((numG r n).getD (-1)))
    (fun n _ => by refine Ev.step (fun k => by rw [spec_l43Number.l0]) ?_; exact ev_neg (by omega) (ev_ret rfl)) (fun i x r hi hx hm _ ih n hn => ?_)
  · exact key 0 (by unfold smallAt; omega)
  have hx8 := u8_lt x
  refine Ev.step (fun k => by rw [spec_l43Number.l0]) (ev_pos (by omega) (ev_pos (by omega) ?_))
  rw [bt_list s i (by omega), hx, wsucc hi (by omega), numG]
  refine ev_split (fun c => ?_) (fun c => ev_split (fun c2 => ?_) (fun c2 => ?_))
  · rw [if_neg (by omega)]; exact ev_ret rfl
  · rw [if_neg (by omega)]; exact ev_ret rfl
  · rw [if_pos ⟨by omega, by omega⟩]
    have hn' := smallAt_step hn (by omega) (c := x.toNat) (by omega) (by omega)
    obtain ⟨a, b, _⟩ := hn
    rw [w64 (x := n * 10) (by omega) (by omega), w64 (x := (x.toNat : Int)) (by omega) (by omega), w64 (x := n * 10 + (x.toNat : Int)) (by omega) (by omega), w64 (x := n * 10 + (x.toNat : Int) - 48) (by omega) (by omega), show n * 10 + (x.toNat : Int) - 48 = 10 * n + ((x.toNat : Int) - 48) by omega]
    exact ih _ hn'
theorem sNum1 (s : ByteArray) (hs : s.size ≤ 4) : Ev (fun k => spec_l43Number.l1 k s 0 0) ((numG s.data.toList 0).getD (-1)) := by
  have hl := ba_len s
  have key := loopL (0 : UInt8) s.data.toList (P := fun i r => ∀ n : Int, smallAt i n → Ev (fun k => spec_l43Number.l1 k s n (i : Int)) ((numG r n).getD (-1)))
    (fun n _ => by refine Ev.step (fun k => by rw [spec_l43Number.l1]) ?_; exact ev_neg (by omega) (ev_ret rfl)) (fun i x r hi hx hm _ ih n hn => ?_)
  · exact key 0 (by unfold smallAt; omega)
  have hx8 := u8_lt x
  refine Ev.step (fun k => by rw [spec_l43Number.l1]) (ev_pos (by omega) (ev_pos (by omega) ?_))
  rw [bt_list s i (by omega), hx, wsucc hi (by omega), numG]
  refine ev_split (fun c => ?_) (fun c => ev_split (fun c2 => ?_) (fun c2 => ?_))
  · rw [if_neg (by omega)]; exact ev_ret rfl
  · rw [if_neg (by omega)]; exact ev_ret rfl
  · rw [if_pos ⟨by omega, by omega⟩]
    have hn' := smallAt_step hn (by omega) (c := x.toNat) (by omega) (by omega)
    obtain ⟨a, b, _⟩ := hn
    rw [w64 (x := n * 10) (by omega) (by omega), w64 (x := (x.toNat : Int)) (by omega) (by omega), w64 (x := n * 10 + (x.toNat : Int)) (by omega) (by omega), w64 (x := n * 10 + (x.toNat : Int) - 48) (by omega) (by omega), show n * 10 + (x.toNat : Int) - 48 = 10 * n + ((x.toNat : Int) - 48) by omega]
    exact ih _ hn'
theorem l43Number_ev (s : ByteArray) : Ev (fun k => spec_l43Number.f k s) (numO s) := by
  unfold spec_l43Number.f numO
  refine Ev.bind (l41In_ev _ _ _) (ev_b (fun c => ?_) (fun c => ?_))
  · have := of_decide_eq_true c
    rw [if_pos (by omega)]
    refine ev_split (fun c1 => ev_pos (by omega) ?_) (fun c1 => ?_)
    · have hb : bt s 0 = ((s.data.toList.getD 0 0).toNat : Int) := bt_list s 0 (by omega)
      rw [hb]
      refine ev_split (fun c2 => ?_) (fun c2 => ?_)
      · rw [if_pos ⟨by omega, u8_48.2 (by omega)⟩]; exact ev_ret rfl
      · rw [if_neg (fun q => c2 (by rw [u8_48.1 q.2]; rfl))]; exact sNum0 s (by omega)
    · rw [if_neg (fun q => by omega)]; exact sNum1 s (by omega)
  · have := of_decide_eq_false c
    rw [if_neg (by omega)]; exact ev_ret rfl
theorem iNum0 (s : ByteArray) (hs : s.size ≤ 4) : Ev (fun k => impl_decimal.l0 k s 0 0) (numR (numG s.data.toList 0)) := by
  have hl := ba_len s
  have key := loopL (0 : UInt8) s.data.toList (P := fun i r => ∀ n : Int, smallAt i n → Ev (fun k => impl_decimal.l0 k s n (i : Int)) (numR (numG r n)))
    (fun n _ => by refine Ev.step (fun k => by rw [impl_decimal.l0]) ?_; exact ev_neg (by omega) (ev_ret rfl)) (fun i x r hi hx hm _ ih n hn => ?_)
  · exact key 0 (by unfold smallAt; omega)
  have hx8 := u8_lt x
  refine Ev.step (fun k => by rw [impl_decimal.l0]) (ev_pos (by omega) (ev_pos (by omega) ?_))
  rw [bt_list s i (by omega), hx, wsucc hi (by omega), numG]
  refine ev_split (fun c => ?_) (fun c => ev_split (fun c2 => ?_) (fun c2 => ?_))
  · rw [if_neg (by omega)]; exact ev_ret rfl
  · rw [if_neg (by omega)]; exact ev_ret rfl
  · rw [if_pos ⟨by omega, by omega⟩]
    have hn' := smallAt_step hn (by omega) (c := x.toNat) (by omega) (by omega)
    obtain ⟨a, b, _⟩ := hn
    rw [u8sub _ (by omega) (by omega), w64 (x := 10 * n) (by omega) (by omega), w64 (x := (x.toNat : Int) - 48) (by omega) (by omega), w64 (x := 10 * n + ((x.toNat : Int) - 48)) (by omega) (by omega)]
    exact ih _ hn'
theorem iNum1 (s : ByteArray) (hs : s.size ≤ 4) : Ev (fun k => impl_decimal.l1 k s 0 0) (numR (numG s.data.toList 0)) := by
  have hl := ba_len s
  have key := loopL (0 : UInt8) s.data.toList (P := fun i r => ∀ n : Int, smallAt i n → Ev (fun k => impl_decimal.l1 k s n (i : Int)) (numR (numG r n)))
    (fun n _ => by refine Ev.step (fun k => by rw [impl_decimal.l1]) ?_; exact ev_neg (by omega) (ev_ret rfl)) (fun i x r hi hx hm _ ih n hn => ?_)
  · exact key 0 (by unfold smallAt; omega)
  have hx8 := u8_lt x
  refine Ev.step (fun k => by rw [impl_decimal.l1]) (ev_pos (by omega) (ev_pos (by omega) ?_))
  rw [bt_list s i (by omega), hx, wsucc hi (by omega), numG]
  refine ev_split (fun c => ?_) (fun c => ev_split (fun c2 => ?_) (fun c2 => ?_))
  · rw [if_neg (by omega)]; exact ev_ret rfl
  · rw [if_neg (by omega)]; exact ev_ret rfl
  · rw [if_pos ⟨by omega, by omega⟩]
    have hn' := smallAt_step hn (by omega) (c := x.toNat) (by omega) (by omega)
    obtain ⟨a, b, _⟩ := hn
    rw [u8sub _ (by omega) (by omega), w64 (x := 10 * n) (by omega) (by omega), w64 (x := (x.toNat : Int) - 48) (by omega) (by omega), w64 (x := 10 * n + ((x.toNat : Int) - 48)) (by omega) (by omega)]
    exact ih _ hn'
theorem numR_get (o : Option Int) (h : ∀ v, o = some v → 0 ≤ v) : numR o = if 0 ≤ o.getD (-1) then (o.getD (-1), true) else (0, false) := by
  cases o with
  | none => rfl
  | some v => have := h v rfl; simp [numR, this]
theorem dec_ev (s : ByteArray) : Ev (fun k => impl_decimal.f k s) (decR s) := by
  unfold impl_decimal.f decR numO
  have hp : ∀ v, numG s.data.toList 0 = some v → 0 ≤ v := fun v h => numG_pos _ _ _ (by omega) h
  refine ev_split (fun c => ?_) (fun c => ev_split (fun c1 => ?_) (fun c1 => ?_))
  · rw [if_neg (by omega)]; exact ev_ret rfl
  · rw [if_neg (by omega)]; exact ev_ret rfl
  · rw [if_pos (show 1 ≤ s.size ∧ s.size ≤ 4 by omega)]
    refine ev_split (fun c2 => ev_pos (by omega) ?_) (fun c2 => ?_)
    · have hb : bt s 0 = ((s.data.toList.getD 0 0).toNat : Int) := bt_list s 0 (by omega)
      rw [hb]
      refine ev_split (fun c3 => ?_) (fun c3 => ?_)
      · have e : (if s.size > 1 ∧ s.data.toList.getD 0 0 = 48 then (-1 : Int) else (numG s.data.toList 0).getD (-1)) = -1 := if_pos ⟨by omega, u8_48.2 (by omega)⟩
        rw [e]; exact ev_ret (by simp)
      · have e : (if s.size > 1 ∧ s.data.toList.getD 0 0 = 48 then (-1 : Int) else (numG s.data.toList 0).getD (-1)) = (numG s.data.toList 0).getD (-1) := if_neg (fun q => c3 (by rw [u8_48.1 q.2]; rfl))
        rw [e, ← numR_get _ hp]; exact iNum0 s (by omega)
    · have e : (if s.size > 1 ∧ s.data.toList.getD 0 0 = 48 then (-1 : Int) else (numG s.data.toList 0).getD (-1)) = (numG s.data.toList 0).getD (-1) := if_neg (fun q => by omega)
      rw [e, ← numR_get _ hp]; exact iNum1 s (by omega)
theorem decR_ok {s : ByteArray} : (decR s).2 = true ↔ 0 ≤ numO s := by
  unfold decR
  split <;> simp_all
theorem decR_val {s : ByteArray} (h : 0 ≤ numO s) : (decR s).1 = numO s := by unfold decR; rw [if_pos h]
/-! ### a phase, read -/
def gw (l : List ByteArray) (i : Nat) : ByteArray := l.getD i ByteArray.empty
theorem gw_end {l : List ByteArray} {i : Nat} (h : l.length ≤ i) : gw l i = (⟨#[]⟩ : ByteArray) := by
  unfold gw; rw [List.getD_eq_getElem?_getD, List.getElem?_eq_none h]; rfl
theorem gw_drop (l : List ByteArray) (n i : Nat) : rdOf ByteArray.empty (l.drop n) (i : Int) = gw l (n + i) := by
  rw [rdOf_nat]; unfold gw
  rw [List.getD_eq_getElem?_getD, List.getD_eq_getElem?_getD, List.getElem?_drop]
theorem next_eq (l : List ByteArray) (n : Nat) (hl : l.length ≤ 1000000) : impl_phaseOf_1.f (l.drop n) = some (gw l n, l.drop (n + 1)) := by
  unfold impl_phaseOf_1.f
  have h0 : rdOf ByteArray.empty (l.drop n) 0 = gw l n := gw_drop l n 0
  have h1 : (l.drop n).drop (1 : Int).toNat = l.drop (n + 1) := by rw [List.drop_drop]; rfl
  rw [h0, h1]
  by_cases c : ((l.drop n).length : Int) = 0
  · rw [if_pos c]
    rw [List.length_drop] at c
    rw [gw_end (by omega), List.drop_eq_nil_iff.2 (by omega : l.length ≤ n), List.drop_eq_nil_iff.2 (by omega : l.length ≤ n + 1)]
  · rw [if_neg c, if_pos (by omega), if_pos (by omega)]
def wWithin : ByteArray := (⟨#[119, 105, 116, 104, 105, 110]⟩ : ByteArray)
def wThen : ByteArray := (⟨#[116, 104, 101, 110]⟩ : ByteArray)
def wElse : ByteArray := (⟨#[101, 108, 115, 101]⟩ : ByteArray)
def mTT (l : List ByteArray) (q : Int) : S_impl_RecPhase := ⟨gw l 0, q, gw l 2, gw l 3, numO (gw l 4), numO (gw l 6), gw l 8, gw l 10⟩
def mFT (l : List ByteArray) (q : Int) : S_impl_RecPhase := ⟨gw l 0, q, gw l 2, (⟨#[]⟩ : ByteArray), numO (gw l 3), numO (gw l 5), gw l 7, gw l 9⟩
def mFF (l : List ByteArray) (q : Int) : S_impl_RecPhase := ⟨gw l 0, q, gw l 2, (⟨#[]⟩ : ByteArray), 0, numO (gw l 4), gw l 6, gw l 8⟩
structure OkX (l : List ByteArray) (o : Nat) (p : S_impl_RecPhase) : Prop where
  a : gw l o = wWithin
  b : gw l (o + 2) = wThen
  c : gw l (o + 4) = wElse
  n : l.length = o + 6
  p : phaseB p = true
abbrev Tup := ByteArray × Int × ByteArray × ByteArray × Int × Int × ByteArray × ByteArray × Bool
def tupP (p : S_impl_RecPhase) (b : Bool) : Tup := (p.f0, p.f1, p.f2, p.f3, p.f4, p.f5, p.f6, p.f7, b)
def flagT (t : Tup) : Bool := t.2.2.2.2.2.2.2.2
def Res (O : Prop) (p : S_impl_RecPhase) (t : Tup) : Prop := (O → t = tupP p true) ∧ (¬ O → flagT t = false)
theorem res_no {O : Prop} {p : S_impl_RecPhase} {t : Tup} (h : ¬ O) (k : flagT t = false) : Res O p t := ⟨fun q => absurd q h, fun _ => k⟩
theorem phaseB_within {x : S_impl_RecPhase} (h : phaseB x = true) : 1 ≤ x.f5 ∧ x.f7 ≠ (⟨#[]⟩ : ByteArray) := by
  unfold phaseB at h
  simp only [Bool.and_eq_true] at h
  obtain ⟨_, h5, _, _, h7⟩ := h
  refine ⟨(of_decide_eq_true h5).1, fun e => ?_⟩
  rw [e] at h7
  unfold nameB at h7
  simp at h7
  exact absurd h7.1.1 (by decide)
theorem phaseB_num {x : S_impl_RecPhase} (h : phaseB x = true) (hk : x.f1 = 1 ∨ x.f1 = 2 ∨ x.f1 = 3) : 1 ≤ x.f4 := by
  unfold phaseB at h
  simp only [Bool.and_eq_true] at h
  obtain ⟨_, _, ⟨_, ha⟩, _⟩ := h
  unfold argsB at ha
  split at ha
  · simp only [Bool.and_eq_true] at ha; exact (of_decide_eq_true ha.2).1
  · split at ha
    · simp only [Bool.and_eq_true] at ha; exact (of_decide_eq_true ha.2.2).1
    · split at ha
      · simp only [Bool.and_eq_true] at ha; exact (of_decide_eq_true ha.2).1
      · omega
theorem phaseB_n0 {x : S_impl_RecPhase} (h : phaseB x = true) : 1 ≤ x.f5 := (phaseB_within h).1
theorem gw_size (l : List ByteArray) (hz : ∀ w ∈ l, w.size ≤ 1000000) (i : Nat) : (gw l i).size ≤ 140737488351232 := by
  by_cases c : i < l.length
  · have := hz _ (mem_getD ByteArray.empty l i c)
    unfold gw; omega
  · rw [gw_end (by omega)]; decide
section
variable (l : List ByteArray) (hl : l.length ≤ 1000000) (hz : ∀ w ∈ l, w.size ≤ 1000000) (h2 : 2 ≤ l.length)
include hl hz h2
theorem phTT (q : Int) (hq : q = 1 ∨ q = 2) : ExP (fun k => impl_phaseOf.j6 k l true true q) (Res (OkX l 5 (mTT l q)) (mTT l q)) := by
  have e2 : (2 : Int).toNat = 2 := rfl
  have nn : OkX l 5 (mTT l q) → 0 ≤ numO (gw l 4) ∧ 0 ≤ numO (gw l 6) := fun h => by
    have a1 := phaseB_num h.p (by rcases hq with e | e <;> simp [mTT, e])
    have a2 := phaseB_n0 h.p
    simp only [mTT] at a1 a2
    omega
  refine exp_step (fun k => by rw [impl_phaseOf.j6]) (exp_pos (by omega) ?_)
  rw [e2]
  refine exp_let (next_eq l 2 hl) (exp_pos rfl (exp_let (next_eq l 3 hl) (exp_pos rfl (exp_let (next_eq l 4 hl) (exp_ev (dec_ev _) (exp_ite (fun n4 => ?_) (fun n4 => ?_)))))))
  · have n4' := decR_ok.1 n4
    refine exp_let (next_eq l 5 hl) (exp_let (next_eq l 6 hl) (exp_ev (dec_ev _) (exp_ite (fun a5 => exp_ite (fun n6 => ?_) (fun n6 => ?_)) (fun a5 => ?_))))
    · have n6' := decR_ok.1 n6
      refine exp_let (next_eq l 7 hl) ?_
      refine exp_step (fun k => by rw [impl_phaseOf.j0]) (exp_let (next_eq l 8 hl) (exp_ite (fun a7 => ?_) (fun a7 => ?_)))
      · refine exp_let (next_eq l 9 hl) (exp_let (next_eq l 10 hl) (exp_ite (fun a9 => exp_ite (fun a11 => ?_) (fun a11 => ?_)) (fun a9 => ?_)))
        · refine exp_ev (implPhase_ev (mTT l q) ⟨gw_size l hz _, gw_size l hz _, gw_size l hz _, gw_size l hz _, gw_size l hz _⟩ |> fun h => by
            have v4 := decR_val n4'; have v6 := decR_val n6'
            dsimp only at v4 v6 ⊢
            rw [v4, v6]; exact h) (exp_ret ?_)
          have v4 := decR_val n4'; have v6 := decR_val n6'
          dsimp only at v4 v6 a11 ⊢
          rw [v4, v6]
          rw [List.length_drop] at a11
          cases hp : phaseB (mTT l q) with
          | false => exact res_no (fun h => by rw [h.p] at hp; cases hp) rfl
          | true =>
            have hlen : l.length = 11 := by
              have := (phaseB_within hp).2
              simp only [mTT] at this
              by_cases c : 11 ≤ l.length
              · omega
              · exact absurd (gw_end (by omega)) this
            have O : OkX l 5 (mTT l q) := ⟨ba_iff.1 a5, ba_iff.1 (of_decide_eq_true a7), ba_iff.1 a9, hlen, hp⟩
            exact ⟨fun _ => rfl, fun h => absurd O h⟩
        · exact exp_ret (res_no (fun h => a11 (by dsimp only; rw [List.length_drop]; have := h.n; omega)) rfl)
        · exact exp_ret (res_no (fun h => a9 (ba_iff.2 h.c)) rfl)
      · exact exp_let (next_eq l 9 hl) (exp_ret (res_no (fun h => a7 (decide_eq_true (ba_iff.2 h.b))) rfl))
    · refine exp_step (fun k => by rw [impl_phaseOf.j0]) ?_
      refine exp_let (next_eq l 7 hl) ?_
      refine exp_neg Bool.false_ne_true ?_
      refine exp_let (next_eq l 8 hl) ?_
      exact exp_ret (res_no (fun h => n6 (decR_ok.2 (nn h).2)) rfl)
    · refine exp_step (fun k => by rw [impl_phaseOf.j0]) ?_
      refine exp_let (next_eq l 7 hl) ?_
      refine exp_neg Bool.false_ne_true ?_
      refine exp_let (next_eq l 8 hl) ?_
      exact exp_ret (res_no (fun h => a5 (ba_iff.2 h.a)) rfl)
  · refine exp_let (next_eq l 5 hl) ?_
    refine exp_ev (dec_ev _) ?_
    refine exp_step (fun k => by rw [impl_phaseOf.j1]) ?_
    refine exp_let (next_eq l 6 hl) ?_
    refine exp_let (next_eq l 7 hl) ?_
    exact exp_ret (res_no (fun h => n4 (decR_ok.2 (nn h).1)) rfl)
theorem phFT (q : Int) (hq : q = 3) : ExP (fun k => impl_phaseOf.j6 k l false true q) (Res (OkX l 4 (mFT l q)) (mFT l q)) := by
  have e2 : (2 : Int).toNat = 2 := rfl
  have nn : OkX l 4 (mFT l q) → 0 ≤ numO (gw l 3) ∧ 0 ≤ numO (gw l 5) := fun h => by
    have a1 := phaseB_num h.p (by simp [mFT, hq])
    have a2 := phaseB_n0 h.p
    simp only [mFT] at a1 a2
    omega
  refine exp_step (fun k => by rw [impl_phaseOf.j6]) (exp_pos (by omega) ?_)
  rw [e2]
  refine exp_let (next_eq l 2 hl) (exp_neg (by simp) (exp_pos rfl (exp_let (next_eq l 3 hl) (exp_ev (dec_ev _) (exp_ite (fun n4 => ?_) (fun n4 => ?_))))))
  · have n4' := decR_ok.1 n4
    refine exp_let (next_eq l 4 hl) (exp_let (next_eq l 5 hl) (exp_ev (dec_ev _) (exp_ite (fun a5 => exp_ite (fun n6 => ?_) (fun n6 => ?_)) (fun a5 => ?_))))
    · have n6' := decR_ok.1 n6
      refine exp_let (next_eq l 6 hl) ?_
      refine exp_step (fun k => by rw [impl_phaseOf.j3]) (exp_let (next_eq l 7 hl) (exp_ite (fun a7 => ?_) (fun a7 => ?_)))
      · refine exp_let (next_eq l 8 hl) (exp_let (next_eq l 9 hl) (exp_ite (fun a9 => exp_ite (fun a11 => ?_) (fun a11 => ?_)) (fun a9 => ?_)))
        · refine exp_ev (implPhase_ev (mFT l q) ⟨gw_size l hz _, gw_size l hz _, (by simp only [mFT]; decide), gw_size l hz _, gw_size l hz _⟩ |> fun h => by
            have v4 := decR_val n4'; have v6 := decR_val n6'
            dsimp only at v4 v6 ⊢
            rw [v4, v6]; exact h) (exp_ret ?_)
          have v4 := decR_val n4'; have v6 := decR_val n6'
          dsimp only at v4 v6 a11 ⊢
          rw [v4, v6]
          rw [List.length_drop] at a11
          cases hp : phaseB (mFT l q) with
          | false => exact res_no (fun h => by rw [h.p] at hp; cases hp) rfl
          | true =>
            have hlen : l.length = 10 := by
              have := (phaseB_within hp).2
              simp only [mFT] at this
              by_cases c : 10 ≤ l.length
              · omega
              · exact absurd (gw_end (by omega)) this
            have O : OkX l 4 (mFT l q) := ⟨ba_iff.1 a5, ba_iff.1 (of_decide_eq_true a7), ba_iff.1 a9, hlen, hp⟩
            exact ⟨fun _ => rfl, fun h => absurd O h⟩
        · exact exp_ret (res_no (fun h => a11 (by dsimp only; rw [List.length_drop]; have := h.n; omega)) rfl)
        · exact exp_ret (res_no (fun h => a9 (ba_iff.2 h.c)) rfl)
      · exact exp_let (next_eq l 8 hl) (exp_ret (res_no (fun h => a7 (decide_eq_true (ba_iff.2 h.b))) rfl))
    · refine exp_step (fun k => by rw [impl_phaseOf.j3]) ?_
      refine exp_let (next_eq l 6 hl) ?_
      refine exp_neg Bool.false_ne_true ?_
      refine exp_let (next_eq l 7 hl) ?_
      exact exp_ret (res_no (fun h => n6 (decR_ok.2 (nn h).2)) rfl)
    · refine exp_step (fun k => by rw [impl_phaseOf.j3]) ?_
      refine exp_let (next_eq l 6 hl) ?_
      refine exp_neg Bool.false_ne_true ?_
      refine exp_let (next_eq l 7 hl) ?_
      exact exp_ret (res_no (fun h => a5 (ba_iff.2 h.a)) rfl)
  · refine exp_let (next_eq l 4 hl) ?_
    refine exp_ev (dec_ev _) ?_
    refine exp_step (fun k => by rw [impl_phaseOf.j4]) ?_
    refine exp_let (next_eq l 5 hl) ?_
    refine exp_let (next_eq l 6 hl) ?_
    exact exp_ret (res_no (fun h => n4 (decR_ok.2 (nn h).1)) rfl)
theorem phFF (q : Int) : ExP (fun k => impl_phaseOf.j6 k l false false q) (Res (OkX l 3 (mFF l q)) (mFF l q)) := by
  have e2 : (2 : Int).toNat = 2 := rfl
  have nn : OkX l 3 (mFF l q) → 0 ≤ numO (gw l 4) := fun h => by
    have a2 := phaseB_n0 h.p
    simp only [mFF] at a2
    omega
  refine exp_step (fun k => by rw [impl_phaseOf.j6]) (exp_pos (by omega) ?_)
  rw [e2]
  refine exp_let (next_eq l 2 hl) (exp_neg (by simp) (exp_neg (by simp) (exp_let (next_eq l 3 hl) (exp_let (next_eq l 4 hl) (exp_ev (dec_ev _) (exp_ite (fun a5 => exp_ite (fun n6 => ?_) (fun n6 => ?_)) (fun a5 => ?_)))))))
  · have n6' := decR_ok.1 n6
    refine exp_let (next_eq l 5 hl) ?_
    refine exp_step (fun k => by rw [impl_phaseOf.j5]) (exp_let (next_eq l 6 hl) (exp_ite (fun a7 => ?_) (fun a7 => ?_)))
    · refine exp_let (next_eq l 7 hl) (exp_let (next_eq l 8 hl) (exp_ite (fun a9 => exp_ite (fun a11 => ?_) (fun a11 => ?_)) (fun a9 => ?_)))
      · refine exp_ev (implPhase_ev (mFF l q) ⟨gw_size l hz _, gw_size l hz _, (by simp only [mFF]; decide), gw_size l hz _, gw_size l hz _⟩ |> fun h => by
          have v6 := decR_val n6'
          dsimp only at v6 ⊢
          rw [v6]; exact h) (exp_ret ?_)
        have v6 := decR_val n6'
        dsimp only at v6 a11 ⊢
        rw [v6]
        rw [List.length_drop] at a11
        cases hp : phaseB (mFF l q) with
        | false => exact res_no (fun h => by rw [h.p] at hp; cases hp) rfl
        | true =>
          have hlen : l.length = 9 := by
            have := (phaseB_within hp).2
            simp only [mFF] at this
            by_cases c : 9 ≤ l.length
            · omega
            · exact absurd (gw_end (by omega)) this
          have O : OkX l 3 (mFF l q) := ⟨ba_iff.1 a5, ba_iff.1 (of_decide_eq_true a7), ba_iff.1 a9, hlen, hp⟩
          exact ⟨fun _ => rfl, fun h => absurd O h⟩
      · exact exp_ret (res_no (fun h => a11 (by dsimp only; rw [List.length_drop]; have := h.n; omega)) rfl)
      · exact exp_ret (res_no (fun h => a9 (ba_iff.2 h.c)) rfl)
    · exact exp_let (next_eq l 7 hl) (exp_ret (res_no (fun h => a7 (decide_eq_true (ba_iff.2 h.b))) rfl))
  · refine exp_step (fun k => by rw [impl_phaseOf.j5]) ?_
    refine exp_let (next_eq l 5 hl) ?_
    refine exp_neg Bool.false_ne_true ?_
    refine exp_let (next_eq l 6 hl) ?_
    exact exp_ret (res_no (fun h => n6 (decR_ok.2 (nn h))) rfl)
  · refine exp_step (fun k => by rw [impl_phaseOf.j5]) ?_
    refine exp_let (next_eq l 5 hl) ?_
    refine exp_neg Bool.false_ne_true ?_
    refine exp_let (next_eq l 6 hl) ?_
    exact exp_ret (res_no (fun h => a5 (ba_iff.2 h.a)) rfl)
end
/-! ### what a line says -/
def wFill : ByteArray := (⟨#[102, 105, 108, 108]⟩ : ByteArray)
def wMove : ByteArray := (⟨#[109, 111, 118, 101]⟩ : ByteArray)
def wHold : ByteArray := (⟨#[104, 111, 108, 100]⟩ : ByteArray)
def wClean : ByteArray := (⟨#[99, 108, 101, 97, 110]⟩ : ByteArray)
def wTest : ByteArray := (⟨#[116, 101, 115, 116]⟩ : ByteArray)
def kO (l : List ByteArray) : Prop × S_impl_RecPhase :=
  if gw l 1 = wFill then (OkX l 5 (mTT l 1), mTT l 1) else if gw l 1 = wMove then (OkX l 5 (mTT l 2), mTT l 2) else if gw l 1 = wHold then (OkX l 4 (mFT l 3), mFT l 3) else
  if gw l 1 = wClean then (OkX l 3 (mFF l 4), mFF l 4) else if gw l 1 = wTest then (OkX l 3 (mFF l 5), mFF l 5) else (False, z_impl_RecPhase)
theorem kO_len {l : List ByteArray} (h : (kO l).1) : 9 ≤ l.length := by
  unfold kO at h
  split at h
  · have := h.n; omega
  · split at h
    · have := h.n; omega
    · split at h
      · have := h.n; omega
      · split at h
        · have := h.n; omega
        · split at h
          · have := h.n; omega
          · exact h.elim
theorem kO_p {l : List ByteArray} (h : (kO l).1) : phaseB (kO l).2 = true := by
  unfold kO at h ⊢
  split at h
  · rename_i c; rw [if_pos c]; exact h.p
  · rename_i c; rw [if_neg c]
    split at h
    · rename_i c; rw [if_pos c]; exact h.p
    · rename_i c; rw [if_neg c]
      split at h
      · rename_i c; rw [if_pos c]; exact h.p
      · rename_i c; rw [if_neg c]
        split at h
        · rename_i c; rw [if_pos c]; exact h.p
        · rename_i c; rw [if_neg c]
          split at h
          · rename_i c; rw [if_pos c]; exact h.p
          · exact h.elim
theorem gw_rd (l : List ByteArray) (i : Nat) : rdOf ByteArray.empty l (i : Int) = gw l i := rdOf_nat _ _ _
theorem phaseOf_ok (l : List ByteArray) (hl : l.length ≤ 1000000) (hz : ∀ w ∈ l, w.size ≤ 1000000) : ExP (fun k => impl_phaseOf.f k l) (Res (kO l).1 (kO l).2) := by
  unfold impl_phaseOf.f
  refine exp_ite (fun c => exp_ret (res_no (fun h => by have := kO_len h; omega) rfl)) (fun c => exp_pos (by omega) (exp_pos (by omega) ?_))
  have e1 : rdOf ByteArray.empty l 1 = gw l 1 := gw_rd l 1
  rw [e1]
  refine exp_ite (fun c1 => ?_) (fun c1 => exp_ite (fun c2 => ?_) (fun c2 => exp_ite (fun c3 => ?_) (fun c3 => exp_ite (fun c4 => ?_) (fun c4 => exp_ite (fun c5 => ?_) (fun c5 => ?_)))))
  · have k1 : gw l 1 = wFill := ba_iff.1 c1
    rw [show kO l = (OkX l 5 (mTT l 1), mTT l 1) by unfold kO; rw [if_pos k1]]
    exact phTT l hl hz (by omega) 1 (.inl rfl)
  · have k1 : ¬ gw l 1 = wFill := fun e => c1 (ba_iff.2 e)
    have k2 : gw l 1 = wMove := ba_iff.1 c2
    rw [show kO l = (OkX l 5 (mTT l 2), mTT l 2) by unfold kO; rw [if_neg k1, if_pos k2]]
    exact phTT l hl hz (by omega) 2 (.inr rfl)
  · have k1 : ¬ gw l 1 = wFill := fun e => c1 (ba_iff.2 e)
    have k2 : ¬ gw l 1 = wMove := fun e => c2 (ba_iff.2 e)
    have k3 : gw l 1 = wHold := ba_iff.1 c3
    rw [show kO l = (OkX l 4 (mFT l 3), mFT l 3) by unfold kO; rw [if_neg k1, if_neg k2, if_pos k3]]
    exact phFT l hl hz (by omega) 3 rfl
  · have k1 : ¬ gw l 1 = wFill := fun e => c1 (ba_iff.2 e)
    have k2 : ¬ gw l 1 = wMove := fun e => c2 (ba_iff.2 e)
    have k3 : ¬ gw l 1 = wHold := fun e => c3 (ba_iff.2 e)
    have k4 : gw l 1 = wClean := ba_iff.1 c4
    rw [show kO l = (OkX l 3 (mFF l 4), mFF l 4) by unfold kO; rw [if_neg k1, if_neg k2, if_neg k3, if_pos k4]]
    exact phFF l hl hz (by omega) 4
  · have k1 : ¬ gw l 1 = wFill := fun e => c1 (ba_iff.2 e)
    have k2 : ¬ gw l 1 = wMove := fun e => c2 (ba_iff.2 e)
    have k3 : ¬ gw l 1 = wHold := fun e => c3 (ba_iff.2 e)
    have k4 : ¬ gw l 1 = wClean := fun e => c4 (ba_iff.2 e)
    have k5 : gw l 1 = wTest := ba_iff.1 c5
    rw [show kO l = (OkX l 3 (mFF l 5), mFF l 5) by unfold kO; rw [if_neg k1, if_neg k2, if_neg k3, if_neg k4, if_pos k5]]
    exact phFF l hl hz (by omega) 5
  · have k1 : ¬ gw l 1 = wFill := fun e => c1 (ba_iff.2 e)
    have k2 : ¬ gw l 1 = wMove := fun e => c2 (ba_iff.2 e)
    have k3 : ¬ gw l 1 = wHold := fun e => c3 (ba_iff.2 e)
    have k4 : ¬ gw l 1 = wClean := fun e => c4 (ba_iff.2 e)
    have k5 : ¬ gw l 1 = wTest := fun e => c5 (ba_iff.2 e)
    rw [show kO l = (False, z_impl_RecPhase) by unfold kO; rw [if_neg k1, if_neg k2, if_neg k3, if_neg k4, if_neg k5]]
    exact exp_ret (res_no (fun h => h) rfl)
/-! ### the same, by the reference -/
theorem exp_of {α : Type} {g : Nat → Option α} {a : α} {Q : α → Prop} (h : Ev g a) (k : Q a) : ExP g Q := ⟨a, h, k⟩
theorem specJ0 (p : S_impl_RecPhase) (b : Bool) : Ev (fun k => spec_l43Phase.j0 k b p.f0 p.f1 p.f2 p.f3 p.f4 p.f5 p.f6 p.f7) (tupP p (b && phaseB p)) := by
  refine Ev.step (fun k => by rw [spec_l43Phase.j0]) ?_
  cases b
  · exact ev_neg Bool.false_ne_true (ev_ret rfl)
  · exact ev_pos rfl (Ev.bind (specPhase_ev p) (ev_ret rfl))
theorem tail_ev (l : List ByteArray) (o : Nat) (p : S_impl_RecPhase) (hn : l.length = o + 6) : Ev (fun k => spec_l43Tail.f k p.f0 p.f1 p.f2 p.f3 p.f4 p.f5 p.f6 p.f7 (l.drop o))
    (if gw l o = wWithin ∧ gw l (o + 2) = wThen ∧ gw l (o + 4) = wElse then tupP ⟨p.f0, p.f1, p.f2, p.f3, p.f4, numO (gw l (o + 1)), gw l (o + 3), gw l (o + 5)⟩ true else tupP p false) := by
  unfold spec_l43Tail.f
  have hd : (l.drop o).length = 6 := by rw [List.length_drop]; omega
  have d0 : rdOf ByteArray.empty (l.drop o) 0 = gw l o := gw_drop l o 0
  have d1 : rdOf ByteArray.empty (l.drop o) 1 = gw l (o + 1) := gw_drop l o 1
  have d2 : rdOf ByteArray.empty (l.drop o) 2 = gw l (o + 2) := gw_drop l o 2
  have d3 : rdOf ByteArray.empty (l.drop o) 3 = gw l (o + 3) := gw_drop l o 3
  have d4 : rdOf ByteArray.empty (l.drop o) 4 = gw l (o + 4) := gw_drop l o 4
  have d5 : rdOf ByteArray.empty (l.drop o) 5 = gw l (o + 5) := gw_drop l o 5
  rw [hd, d0, d1, d2, d3, d4, d5]
  refine ev_pos rfl (ev_pos (by omega) (ev_split (fun a => ev_pos (by omega) (ev_split (fun b => ev_pos (by omega) (ev_split (fun c => ev_pos (by omega) (Ev.bind (l43Number_ev _) (ev_pos (by omega) (ev_pos (by omega) (ev_ret ?_))))) (fun c => ev_ret ?_))) (fun b => ev_ret ?_))) (fun a => ev_ret ?_)))
  · rw [if_pos ⟨ba_iff.1 a, ba_iff.1 b, ba_iff.1 c⟩]; rfl
  · rw [if_neg (fun q => c (ba_iff.2 q.2.2))]; rfl
  · rw [if_neg (fun q => b (ba_iff.2 q.2.1))]; rfl
  · rw [if_neg (fun q => a (ba_iff.2 q.1))]; rfl
/-- behind the tail -/
theorem fin_ok (l : List ByteArray) (o : Nat) (p p' : S_impl_RecPhase) (hn : l.length = o + 6) (hp : p' = ⟨p.f0, p.f1, p.f2, p.f3, p.f4, numO (gw l (o + 1)), gw l (o + 3), gw l (o + 5)⟩) :
    ExP (fun k => (spec_l43Tail.f k p.f0 p.f1 p.f2 p.f3 p.f4 p.f5 p.f6 p.f7 (l.drop o)).bind fun t => spec_l43Phase.j0 k t.2.2.2.2.2.2.2.2 t.1 t.2.1 t.2.2.1 t.2.2.2.1 t.2.2.2.2.1 t.2.2.2.2.2.1 t.2.2.2.2.2.2.1 t.2.2.2.2.2.2.2.1) (Res (OkX l o p') p') := by
  refine exp_ev (tail_ev l o p hn) ?_
  by_cases C : gw l o = wWithin ∧ gw l (o + 2) = wThen ∧ gw l (o + 4) = wElse
  · rw [if_pos C, ← hp]
    refine exp_of (specJ0 p' true) ?_
    cases hb : phaseB p' with
    | true => exact ⟨fun _ => rfl, fun h => absurd ⟨C.1, C.2.1, C.2.2, hn, hb⟩ h⟩
    | false => exact res_no (fun h => by rw [h.p] at hb; cases hb) rfl
  · rw [if_neg C]
    exact exp_of (specJ0 p false) (res_no (fun h => C ⟨h.a, h.b, h.c⟩) rfl)
theorem j0F (p : S_impl_RecPhase) {O : Prop} {q : S_impl_RecPhase} (h : ¬ O) : ExP (fun k => spec_l43Phase.j0 k false p.f0 p.f1 p.f2 p.f3 p.f4 p.f5 p.f6 p.f7) (Res O q) := exp_of (specJ0 p false) (res_no h rfl)
theorem j1F (l : List ByteArray) {O : Prop} {q : S_impl_RecPhase} (h : ¬ O) : ExP (fun k => spec_l43Phase.j1 k l false) (Res O q) :=
  exp_step (fun k => by rw [spec_l43Phase.j1]) (exp_neg Bool.false_ne_true (j0F ⟨rdOf ByteArray.empty l 0, 0, rdOf ByteArray.empty l 2, (⟨#[]⟩ : ByteArray), 0, 0, (⟨#[]⟩ : ByteArray), (⟨#[]⟩ : ByteArray)⟩ h))
theorem sTT (l : List ByteArray) (q : Int) (hn : l.length = 11) (hq : gw l 1 = wFill ∧ q = 1 ∨ gw l 1 = wMove ∧ q = 2) : ExP (fun k => spec_l43Phase.j3 k l true) (Res (OkX l 5 (mTT l q)) (mTT l q)) := by
  have e1 : rdOf ByteArray.empty l 1 = gw l 1 := gw_rd l 1
  refine exp_step (fun k => by rw [spec_l43Phase.j3]) (exp_pos rfl (exp_pos (by omega) ?_))
  rw [e1]
  rcases hq with ⟨k1, rfl⟩ | ⟨k1, rfl⟩
  · refine exp_neg (fun c => absurd (k1.symm.trans (ba_iff.1 c)) (by decide)) (exp_pos (by omega) (exp_pos (by omega) (exp_ev (l43Number_ev _) (exp_pos (by omega) ?_))))
    exact fin_ok l 5 ⟨gw l 0, 1, gw l 2, gw l 3, numO (gw l 4), 0, (⟨#[]⟩ : ByteArray), (⟨#[]⟩ : ByteArray)⟩ _ hn rfl
  · refine exp_pos (ba_iff.2 k1) (exp_pos (by omega) (exp_pos (by omega) (exp_ev (l43Number_ev _) (exp_pos (by omega) ?_))))
    exact fin_ok l 5 ⟨gw l 0, 2, gw l 2, gw l 3, numO (gw l 4), 0, (⟨#[]⟩ : ByteArray), (⟨#[]⟩ : ByteArray)⟩ _ hn rfl
theorem sFT (l : List ByteArray) (hn : l.length = 10) : ExP (fun k => spec_l43Phase.j2 k l true) (Res (OkX l 4 (mFT l 3)) (mFT l 3)) := by
  refine exp_step (fun k => by rw [spec_l43Phase.j2]) ?_
  refine exp_pos rfl ?_
  refine exp_pos (by omega) ?_
  refine exp_ev (l43Number_ev _) ?_
  refine exp_pos (by omega) ?_
  exact fin_ok l 4 ⟨gw l 0, 3, gw l 2, (⟨#[]⟩ : ByteArray), numO (gw l 3), 0, (⟨#[]⟩ : ByteArray), (⟨#[]⟩ : ByteArray)⟩ _ hn rfl
theorem sFF (l : List ByteArray) (q : Int) (hn : l.length = 9) (hq : gw l 1 = wClean ∧ q = 4 ∨ gw l 1 = wTest ∧ q = 5) : ExP (fun k => spec_l43Phase.j1 k l true) (Res (OkX l 3 (mFF l q)) (mFF l q)) := by
  have e1 : rdOf ByteArray.empty l 1 = gw l 1 := gw_rd l 1
  refine exp_step (fun k => by rw [spec_l43Phase.j1]) (exp_pos rfl (exp_pos (by omega) ?_))
  rw [e1]
  rcases hq with ⟨k1, rfl⟩ | ⟨k1, rfl⟩
  · refine exp_neg (fun c => absurd (k1.symm.trans (ba_iff.1 c)) (by decide)) (exp_pos (by omega) ?_)
    exact fin_ok l 3 ⟨gw l 0, 4, gw l 2, (⟨#[]⟩ : ByteArray), 0, 0, (⟨#[]⟩ : ByteArray), (⟨#[]⟩ : ByteArray)⟩ _ hn rfl
  · refine exp_pos (ba_iff.2 k1) (exp_pos (by omega) ?_)
    exact fin_ok l 3 ⟨gw l 0, 5, gw l 2, (⟨#[]⟩ : ByteArray), 0, 0, (⟨#[]⟩ : ByteArray), (⟨#[]⟩ : ByteArray)⟩ _ hn rfl
section
variable (l : List ByteArray) (h9 : 9 ≤ l.length)
include h9
/-- no phase with four numbers: what is left -/
theorem s2 {O : Prop} {p : S_impl_RecPhase} (hc : gw l 1 = wClean → l.length = 9 → O = OkX l 3 (mFF l 4) ∧ p = mFF l 4) (ht : gw l 1 = wTest → l.length = 9 → O = OkX l 3 (mFF l 5) ∧ p = mFF l 5) (hno : ¬ (gw l 1 = wClean ∧ l.length = 9) → ¬ (gw l 1 = wTest ∧ l.length = 9) → ¬ O) :
    ExP (fun k => spec_l43Phase.j2 k l false) (Res O p) := by
  have e1 : rdOf ByteArray.empty l 1 = gw l 1 := gw_rd l 1
  refine exp_step (fun k => by rw [spec_l43Phase.j2]) (exp_neg Bool.false_ne_true (exp_pos (by omega) ?_))
  rw [e1]
  refine exp_ite (fun c => exp_ite (fun n => ?_) (fun n => exp_ite (fun c2 => ?_) (fun c2 => ?_))) (fun c => exp_ite (fun c2 => ?_) (fun c2 => ?_))
  · obtain ⟨rfl, rfl⟩ := hc (ba_iff.1 c) (by omega)
    exact sFF l 4 (by omega) (.inl ⟨ba_iff.1 c, rfl⟩)
  · exact absurd ((ba_iff.1 c).symm.trans (ba_iff.1 c2)) (by decide)
  · exact j1F l (hno (fun q => n (by omega)) (fun q => c2 (ba_iff.2 q.1)))
  · by_cases n : l.length = 9
    · obtain ⟨rfl, rfl⟩ := ht (ba_iff.1 c2) n
      rw [decide_eq_true (show (l.length : Int) = 9 by omega)]
      exact sFF l 5 n (.inr ⟨ba_iff.1 c2, rfl⟩)
    · rw [decide_eq_false (show ¬ (l.length : Int) = 9 by omega)]
      exact j1F l (hno (fun q => n q.2) (fun q => n q.2))
  · exact j1F l (hno (fun q => c (ba_iff.2 q.1)) (fun q => c2 (ba_iff.2 q.1)))
theorem s3 {O : Prop} {p : S_impl_RecPhase} (hh : gw l 1 = wHold → l.length = 10 → O = OkX l 4 (mFT l 3) ∧ p = mFT l 3) (hc : gw l 1 = wClean → l.length = 9 → O = OkX l 3 (mFF l 4) ∧ p = mFF l 4) (ht : gw l 1 = wTest → l.length = 9 → O = OkX l 3 (mFF l 5) ∧ p = mFF l 5)
    (hno : ¬ (gw l 1 = wHold ∧ l.length = 10) → ¬ (gw l 1 = wClean ∧ l.length = 9) → ¬ (gw l 1 = wTest ∧ l.length = 9) → ¬ O) : ExP (fun k => spec_l43Phase.j3 k l false) (Res O p) := by
  have e1 : rdOf ByteArray.empty l 1 = gw l 1 := gw_rd l 1
  refine exp_step (fun k => by rw [spec_l43Phase.j3]) (exp_neg Bool.false_ne_true (exp_pos (by omega) ?_))
  rw [e1]
  refine exp_ite (fun c => ?_) (fun c => ?_)
  · by_cases n : l.length = 10
    · obtain ⟨rfl, rfl⟩ := hh (ba_iff.1 c) n
      rw [decide_eq_true (show (l.length : Int) = 10 by omega)]
      exact sFT l n
    · rw [decide_eq_false (show ¬ (l.length : Int) = 10 by omega)]
      exact s2 l h9 hc ht (fun a b => hno (fun q => n q.2) a b)
  · exact s2 l h9 hc ht (fun a b => hno (fun q => c (ba_iff.2 q.1)) a b)
end
theorem l43Phase_ok (l : List ByteArray) : ExP (fun k => spec_l43Phase.f k l) (Res (kO l).1 (kO l).2) := by
  unfold spec_l43Phase.f
  refine exp_ite (fun c => exp_ret (res_no (fun h => by have := kO_len h; omega) rfl)) (fun c => exp_pos (by omega) (exp_pos (by omega) (exp_pos (by omega) ?_)))
  have e1 : rdOf ByteArray.empty l 1 = gw l 1 := gw_rd l 1
  rw [e1]
  have h9 : 9 ≤ l.length := by omega
  have rest : ∀ (hf : ¬ (gw l 1 = wFill ∧ l.length = 11)) (hm : ¬ (gw l 1 = wMove ∧ l.length = 11)), ExP (fun k => spec_l43Phase.j3 k l false) (Res (kO l).1 (kO l).2) := fun hf hm => by
    refine s3 l h9 (fun k _ => ?_) (fun k _ => ?_) (fun k _ => ?_) (fun a b d h => ?_)
    · have n1 : ¬ gw l 1 = wFill := by rw [k]; decide
      have n2 : ¬ gw l 1 = wMove := by rw [k]; decide
      unfold kO; rw [if_neg n1, if_neg n2, if_pos k]; exact ⟨rfl, rfl⟩
    · have n1 : ¬ gw l 1 = wFill := by rw [k]; decide
      have n2 : ¬ gw l 1 = wMove := by rw [k]; decide
      have n3 : ¬ gw l 1 = wHold := by rw [k]; decide
      unfold kO; rw [if_neg n1, if_neg n2, if_neg n3, if_pos k]; exact ⟨rfl, rfl⟩
    · have n1 : ¬ gw l 1 = wFill := by rw [k]; decide
      have n2 : ¬ gw l 1 = wMove := by rw [k]; decide
      have n3 : ¬ gw l 1 = wHold := by rw [k]; decide
      have n4 : ¬ gw l 1 = wClean := by rw [k]; decide
      unfold kO; rw [if_neg n1, if_neg n2, if_neg n3, if_neg n4, if_pos k]; exact ⟨rfl, rfl⟩
    · unfold kO at h
      split at h
      · rename_i k; exact hf ⟨k, h.n⟩
      · split at h
        · rename_i k; exact hm ⟨k, h.n⟩
        · split at h
          · rename_i k; exact a ⟨k, h.n⟩
          · split at h
            · rename_i k; exact b ⟨k, h.n⟩
            · split at h
              · rename_i k; exact d ⟨k, h.n⟩
              · exact h
  refine exp_ite (fun c1 => exp_ite (fun n => ?_) (fun n => exp_ite (fun c2 => ?_) (fun c2 => ?_))) (fun c1 => exp_ite (fun c2 => ?_) (fun c2 => ?_))
  · have k : gw l 1 = wFill := ba_iff.1 c1
    rw [show kO l = (OkX l 5 (mTT l 1), mTT l 1) by unfold kO; rw [if_pos k]]
    exact sTT l 1 (by omega) (.inl ⟨k, rfl⟩)
  · exact absurd ((ba_iff.1 c1).symm.trans (ba_iff.1 c2)) (by decide)
  · exact rest (fun q => n (by omega)) (fun q => c2 (ba_iff.2 q.1))
  · have k : gw l 1 = wMove := ba_iff.1 c2
    have n1 : ¬ gw l 1 = wFill := fun e => c1 (ba_iff.2 e)
    by_cases n : l.length = 11
    · rw [decide_eq_true (show (l.length : Int) = 11 by omega), show kO l = (OkX l 5 (mTT l 2), mTT l 2) by unfold kO; rw [if_neg n1, if_pos k]]
      exact sTT l 2 n (.inr ⟨k, rfl⟩)
    · rw [decide_eq_false (show ¬ (l.length : Int) = 11 by omega)]
      exact rest (fun q => n q.2) (fun q => n q.2)
  · exact rest (fun q => c1 (ba_iff.2 q.1)) (fun q => c2 (ba_iff.2 q.1))
/-! ### a recipe, read -/
theorem wfI {x : Int} (h0 : -9223372036854775808 ≤ x) (h1 : x ≤ 9223372036854775807) : (Lit.int .i64 x).wf = true := by
  simp [Lit.wf, IntKind.min, IntKind.max, IntKind.signed, IntKind.bits]
  exact ⟨h0, h1⟩
theorem nameB_size {s : ByteArray} (h : nameB s = true) : s.size ≤ 8 := by
  unfold nameB at h
  rw [Bool.and_eq_true, decide_eq_true_iff] at h
  exact h.1.2
theorem phaseB_ok {x : S_impl_RecPhase} (h : phaseB x = true) : ok_impl_RecPhase x := by
  unfold phaseB at h
  simp only [Bool.and_eq_true] at h
  obtain ⟨⟨h0, _⟩, h5, ⟨h2, ha⟩, h6, h7⟩ := h
  have h5' : 1 ≤ x.f5 ∧ x.f5 ≤ 1000 := of_decide_eq_true h5
  have key : x.f3.size ≤ 8 ∧ (0 ≤ x.f1 ∧ x.f1 < 6) ∧ (0 ≤ x.f4 ∧ x.f4 ≤ 1000) := by
    unfold argsB at ha
    split at ha
    · simp only [Bool.and_eq_true] at ha
      have : 1 ≤ x.f4 ∧ x.f4 ≤ 1000 := of_decide_eq_true ha.2
      exact ⟨nameB_size ha.1, by omega, by omega⟩
    · split at ha
      · simp only [Bool.and_eq_true] at ha
        have : 1 ≤ x.f4 ∧ x.f4 ≤ 1000 := of_decide_eq_true ha.2.2
        exact ⟨nameB_size ha.1, by omega, by omega⟩
      · split at ha
        · simp only [Bool.and_eq_true, decide_eq_true_eq] at ha
          have : 1 ≤ x.f4 ∧ x.f4 ≤ x.f5 := of_decide_eq_true ha.2
          exact ⟨by rw [ha.1]; decide, by omega, by omega⟩
        · split at ha
          · simp only [Bool.and_eq_true, decide_eq_true_eq] at ha
            exact ⟨by rw [ha.1]; decide, by omega, by omega⟩
          · cases ha
  have a0 := nameB_size h0; have a2 := nameB_size h2; have a6 := nameB_size h6; have a7 := nameB_size h7
  exact ⟨by omega, wfI (by omega) (by omega), by omega, by omega, wfI (by omega) (by omega), wfI (by omega) (by omega), by omega, by omega⟩
abbrev RR := List S_impl_RecPhase × Int × Int
def Good (R : RR) : Prop := (R.1.length ≤ 12 ∧ ∀ z ∈ R.1, ok_impl_RecPhase z) ∧ (0 ≤ R.2.1 ∧ R.2.1 ≤ 1000000000000) ∧ (0 ≤ R.2.2 ∧ R.2.2 ≤ 100)
theorem refers_both (r : List S_impl_RecPhase) (at_ : List Int) (hr : r.length ≤ 12) (ha : at_.length = r.length) (hv : ∀ v ∈ at_, 0 ≤ v ∧ v ≤ 1000000000000) (hok : ∀ z ∈ r, ok_impl_RecPhase z) :
    ∃ f : Int × Int, Ev (fun k => spec_l43Refers.f k r at_) f ∧ (f = (0, 0) ∧ Ev (fun k => impl_RecParse.l1 k r at_ 0) (if r.length = 0 then (([], 0, 6) : RR) else (r, 0, 0)) ∨ (f.2 = 4 ∧ (0 ≤ f.1 ∧ f.1 ≤ 1000000000000) ∧ Ev (fun k => impl_RecParse.l1 k r at_ 0) (([], f.1, 4) : RR))) := by
  unfold spec_l43Refers.f
  refine loopL z_impl_RecPhase r (P := fun i _ => ∃ f : Int × Int, Ev (fun k => spec_l43Refers.l0 k r at_ (i : Int)) f ∧ (f = (0, 0) ∧ Ev (fun k => impl_RecParse.l1 k r at_ (i : Int)) (if r.length = 0 then (([], 0, 6) : RR) else (r, 0, 0)) ∨ (f.2 = 4 ∧ (0 ≤ f.1 ∧ f.1 ≤ 1000000000000) ∧ Ev (fun k => impl_RecParse.l1 k r at_ (i : Int)) (([], f.1, 4) : RR))))
    ⟨(0, 0), by refine Ev.step (fun k => by rw [spec_l43Refers.l0]) ?_; exact ev_neg (by omega) (ev_ret rfl), .inl ⟨rfl, by
      refine Ev.step (fun k => by rw [impl_RecParse.l1]) ?_
      refine ev_neg (by omega) (ev_split (fun c => ev_ret (by rw [if_pos (by omega)])) (fun c => ev_ret (by rw [if_neg (by omega)])))⟩⟩ (fun i x rest hi hx hm _ ih => ?_)
  have hrl : r.length ≤ 140737488351232 := by omega
  have hat : rd at_ (i : Int) = at_.getD i 0 := rd_nat _ _
  have hav := hv _ (mem_getD 0 at_ i (by omega))
  have e6 : rdOf ByteArray.empty ([x.f6, x.f7] : List ByteArray) 0 = x.f6 := rfl
  have e7 : rdOf ByteArray.empty ([x.f6, x.f7] : List ByteArray) 1 = x.f7 := rfl
  have w0 : wrap64 (0 + 1) = 1 := by unfold wrap64; omega
  have w1 : wrap64 (1 + 1) = 2 := by unfold wrap64; omega
  -- the three ways
  have fault : (endOf x.f6 = 0 ∧ phIx x.f6 r 0 ≤ (i : Int)) ∨ (¬ (endOf x.f6 = 0 ∧ phIx x.f6 r 0 ≤ (i : Int)) ∧ endOf x.f7 = 0 ∧ phIx x.f7 r 0 ≤ (i : Int)) →
      Ev (fun k => spec_l43Refers.l0 k r at_ (i : Int)) (at_.getD i 0, 4) ∧ Ev (fun k => impl_RecParse.l1 k r at_ (i : Int)) (([], at_.getD i 0, 4) : RR) := fun h => by
    constructor
    · refine Ev.step (fun k => by rw [spec_l43Refers.l0]) (ev_pos (by omega) (ev_pos (by omega) ?_))
      rw [rdRP, hx, hat]
      refine Ev.bind (specEnd_ev _) (ev_split (fun c => Ev.bind (l42At_ev r x.f6 hrl) (ev_split (fun c2 => ev_pos (by omega) (ev_ret rfl)) (fun c2 => ?_))) (fun c => ?_))
      · rcases h with h | ⟨_, h1, h2⟩
        · exact absurd h.2 c2
        · exact Ev.bind (specEnd_ev _) (ev_pos h1 (Ev.bind (l42At_ev r x.f7 hrl) (ev_pos h2 (ev_pos (by omega) (ev_ret rfl)))))
      · rcases h with h | ⟨_, h1, h2⟩
        · exact absurd h.1 c
        · exact Ev.bind (specEnd_ev _) (ev_pos h1 (Ev.bind (l42At_ev r x.f7 hrl) (ev_pos h2 (ev_pos (by omega) (ev_ret rfl)))))
    · refine Ev.step (fun k => by rw [impl_RecParse.l1]) (ev_pos (by omega) (ev_pos (by omega) ?_))
      refine Ev.step (fun k => by rw [impl_RecParse.l2]) (ev_pos (by omega) (ev_pos (by omega) (ev_pos (by omega) ?_)))
      rw [rdRP, hx, hat, e6, w0]
      have q1 : (endOf x.f7 = 0 ∧ phIx x.f7 r 0 ≤ (i : Int)) → Ev (fun k => impl_RecParse.l2 k r at_ (i : Int) 1) (([], at_.getD i 0, 4) : RR) := fun h => by
        refine Ev.step (fun k => by rw [impl_RecParse.l2]) (ev_pos (by omega) (ev_pos (by omega) (ev_pos (by omega) ?_)))
        rw [rdRP, hx, hat, e7]
        exact Ev.bind (implEnd_ev _) (ev_pos h.1 (Ev.bind (phase_ev r x.f7 hrl) (ev_pos h.2 (ev_pos (by omega) (ev_ret rfl)))))
      refine Ev.bind (implEnd_ev _) (ev_split (fun c => Ev.bind (phase_ev r x.f6 hrl) (ev_split (fun c2 => ev_pos (by omega) (ev_ret rfl)) (fun c2 => ?_))) (fun c => ?_))
      · rcases h with h | ⟨_, h⟩
        · exact absurd h.2 c2
        · exact q1 h
      · rcases h with h | ⟨_, h⟩
        · exact absurd h.1 c
        · exact q1 h
  by_cases A : endOf x.f6 = 0 ∧ phIx x.f6 r 0 ≤ (i : Int)
  · obtain ⟨g1, g2⟩ := fault (.inl A)
    exact ⟨_, g1, .inr ⟨rfl, hav, g2⟩⟩
  by_cases B : endOf x.f7 = 0 ∧ phIx x.f7 r 0 ≤ (i : Int)
  · obtain ⟨g1, g2⟩ := fault (.inr ⟨A, B⟩)
    exact ⟨_, g1, .inr ⟨rfl, hav, g2⟩⟩
  obtain ⟨f, g1, g2⟩ := ih
  have hs : Ev (fun k => spec_l43Refers.l0 k r at_ (i : Int)) f := by
    refine Ev.step (fun k => by rw [spec_l43Refers.l0]) (ev_pos (by omega) (ev_pos (by omega) ?_))
    rw [rdRP, hx, wsucc hi (by omega)]
    have tl : Ev (fun k => (spec_RecEnd.f x.f7).bind fun t => if t = 0 then (spec_l42At.f k r x.f7).bind fun t2 => if t2 ≤ (i : Int) then (if (i : Int) < (at_.length : Int) then some (rd at_ (i : Int), 4) else none) else spec_l43Refers.l0 k r at_ ((i + 1 : Nat) : Int) else spec_l43Refers.l0 k r at_ ((i + 1 : Nat) : Int)) f := by
      refine Ev.bind (specEnd_ev _) (ev_split (fun c => Ev.bind (l42At_ev r x.f7 hrl) (ev_neg (fun q => B ⟨c, q⟩) g1)) (fun c => g1))
    refine Ev.bind (specEnd_ev _) (ev_split (fun c => Ev.bind (l42At_ev r x.f6 hrl) (ev_neg (fun q => A ⟨c, q⟩) tl)) (fun c => tl))
  have hi2 : ∀ R : RR, Ev (fun k => impl_RecParse.l1 k r at_ ((i + 1 : Nat) : Int)) R → Ev (fun k => impl_RecParse.l1 k r at_ (i : Int)) R := fun R hR => by
    have q2 : Ev (fun k => impl_RecParse.l2 k r at_ (i : Int) 2) R := by
      refine Ev.step (fun k => by rw [impl_RecParse.l2]) ?_
      rw [wsucc hi (by omega)]
      exact ev_neg (by omega) hR
    have q1 : Ev (fun k => impl_RecParse.l2 k r at_ (i : Int) 1) R := by
      refine Ev.step (fun k => by rw [impl_RecParse.l2]) (ev_pos (by omega) (ev_pos (by omega) (ev_pos (by omega) ?_)))
      rw [rdRP, hx, e7, w1]
      exact Ev.bind (implEnd_ev _) (ev_split (fun c => Ev.bind (phase_ev r x.f7 hrl) (ev_neg (fun q => B ⟨c, q⟩) q2)) (fun c => q2))
    refine Ev.step (fun k => by rw [impl_RecParse.l1]) (ev_pos (by omega) (ev_pos (by omega) ?_))
    refine Ev.step (fun k => by rw [impl_RecParse.l2]) (ev_pos (by omega) (ev_pos (by omega) (ev_pos (by omega) ?_)))
    rw [rdRP, hx, e6, w0]
    exact Ev.bind (implEnd_ev _) (ev_split (fun c => Ev.bind (phase_ev r x.f6 hrl) (ev_neg (fun q => A ⟨c, q⟩) q1)) (fun c => q1))
  refine ⟨f, hs, ?_⟩
  rcases g2 with ⟨e, g⟩ | ⟨e, b, g⟩
  · exact .inl ⟨e, hi2 _ g⟩
  · exact .inr ⟨e, b, hi2 _ g⟩
theorem wsp_lens : ∀ (bs cur : List UInt8) (out o : List ByteArray), (∀ w ∈ out, w.size ≤ 24) → cur.length ≤ 24 → wsp bs cur out = some o → o.length ≤ out.length + bs.length ∧ ∀ w ∈ o, w.size ≤ 24
  | [], cur, out, o, ho, _, h => by injection h with h; subst h; exact ⟨by simp, ho⟩
  | b :: l, cur, out, o, ho, hc, h => by
    rw [wsp] at h
    split at h
    · split at h
      · have := wsp_lens l cur out o ho hc h; exact ⟨by simp; omega, this.2⟩
      · have := wsp_lens l [] (out ++ [mkB cur]) o (fun w hw => by
          rcases List.mem_append.1 hw with hw | hw
          · exact ho w hw
          · rw [List.mem_singleton] at hw; subst hw; rw [mkB_size]; exact hc) (by simp) h
        refine ⟨?_, this.2⟩
        have h1 := this.1
        simp at h1 ⊢; omega
    · split at h
      · rename_i hv
        have := wsp_lens l (cur ++ [b]) out o ho (by simp; omega) h; exact ⟨by simp; omega, this.2⟩
      · cases h
theorem lines_both (ls : List ByteArray) (hls : ls.length ≤ 60) (hz : ∀ x ∈ ls, x.size ≤ 4000) : ∃ R : RR, Good R ∧ Ev (fun k => spec_RecParse.l0 k [] [] 0 ls) R ∧ Ev (fun k => impl_RecParse.l0 k [] [] 0 ls) R := by
  have key := loopL ByteArray.empty ls (P := fun i _ => ∀ (r : List S_impl_RecPhase) (at_ : List Int), r.length ≤ 12 → at_.length = r.length → (∀ v ∈ at_, 0 ≤ v ∧ v ≤ 1000000000000) → (∀ z ∈ r, ok_impl_RecPhase z) →
      ∃ R : RR, Good R ∧ Ev (fun k => spec_RecParse.l0 k r at_ (i : Int) ls) R ∧ Ev (fun k => impl_RecParse.l0 k r at_ (i : Int) ls) R)
    (fun r at_ hr ha hv hok => by
      obtain ⟨f, g1, g2⟩ := refers_both r at_ hr ha hv hok
      rcases g2 with ⟨rfl, g⟩ | ⟨e, b, g⟩
      · refine ⟨if r.length = 0 then (([], 0, 6) : RR) else (r, 0, 0), ?_, ?_, ?_⟩
        · split
          · exact ⟨⟨by simp, fun z hz => by cases hz⟩, by simp, by simp⟩
          · exact ⟨⟨hr, hok⟩, by simp, by simp⟩
        · refine Ev.step (fun k => by rw [spec_RecParse.l0]) ?_
          refine ev_neg (by omega) (Ev.bind g1 (ev_pos rfl (ev_split (fun c => ev_ret ?_) (fun c => ev_ret ?_))))
          · rw [if_pos (by omega)]
            have : r = [] := List.eq_nil_of_length_eq_zero (by omega)
            rw [this]
          · rw [if_neg (by omega)]
        · refine Ev.step (fun k => by rw [impl_RecParse.l0]) ?_
          exact ev_neg (by omega) g
      · refine ⟨([], f.1, 4), ⟨⟨by simp, fun z hz => by cases hz⟩, b, by simp⟩, ?_, ?_⟩
        · refine Ev.step (fun k => by rw [spec_RecParse.l0]) ?_
          refine ev_neg (by omega) (Ev.bind g1 (ev_neg (by omega) (ev_ret (by rw [e]))))
        · refine Ev.step (fun k => by rw [impl_RecParse.l0]) ?_
          exact ev_neg (by omega) g) (fun i x rest hi hx hm _ ih r at_ hr ha hv hok => ?_)
  · exact key [] [] (by simp) rfl (fun v hv => by cases hv) (fun z hz => by cases hz)
  have hxs := hz x hm
  have hs := l43Words_ev x (by omega)
  have hi' := cutWords2_ev x (by omega)
  have hbl := bareL_len 35 x.data.toList
  rw [ba_len] at hbl
  -- what comes of a fault
  have bad : ∀ c : Int, 0 ≤ c → c ≤ 100 → Good (([], ((i + 1 : Nat) : Int), c) : RR) := fun c h0 h1 => ⟨⟨by simp, fun z hz => by cases hz⟩, ⟨by simp only; omega, by simp only; omega⟩, ⟨h0, h1⟩⟩
  cases ho : wsp (bareL 35 x.data.toList ++ [32]) [] [] with
  | none =>
    rw [ho] at hs hi'
    refine ⟨_, bad 1 (by omega) (by omega), ?_, ?_⟩
    · refine Ev.step (fun k => by rw [spec_RecParse.l0]) (ev_pos (by omega) (ev_pos (by omega) ?_))
      rw [rdOf_nat, hx, wsucc hi (by omega)]
      exact Ev.bind hs (ev_neg Bool.false_ne_true (ev_ret rfl))
    · refine Ev.step (fun k => by rw [impl_RecParse.l0]) (ev_pos (by omega) (ev_pos (by omega) ?_))
      rw [rdOf_nat, hx, wsucc hi (by omega)]
      exact Ev.bind hi' (ev_neg Bool.false_ne_true (ev_ret rfl))
  | some ws =>
    rw [ho] at hs hi'
    obtain ⟨wl, wz⟩ := wsp_lens _ [] [] ws (fun w hw => by cases hw) (by simp) ho
    have wl' : ws.length ≤ 1000000 := by simp at wl; omega
    by_cases c0 : ws.length = 0
    · obtain ⟨R, g0, g1, g2⟩ := ih r at_ hr ha hv hok
      refine ⟨R, g0, ?_, ?_⟩
      · refine Ev.step (fun k => by rw [spec_RecParse.l0]) (ev_pos (by omega) (ev_pos (by omega) ?_))
        rw [rdOf_nat, hx, wsucc hi (by omega)]
        exact Ev.bind hs (ev_pos rfl (ev_pos (by show ((ws.length : Nat) : Int) = 0; omega) g1))
      · refine Ev.step (fun k => by rw [impl_RecParse.l0]) (ev_pos (by omega) (ev_pos (by omega) ?_))
        rw [rdOf_nat, hx, wsucc hi (by omega)]
        exact Ev.bind hi' (ev_pos rfl (ev_pos (by show ((ws.length : Nat) : Int) = 0; omega) g2))
    · obtain ⟨ts, s1, s2⟩ := l43Phase_ok ws
      obtain ⟨ti, i1, i2⟩ := phaseOf_ok ws wl' (fun w hw => by have := wz w hw; omega)
      have cn : ¬ ((ws.length : Nat) : Int) = 0 := by omega
      by_cases K : (kO ws).1
      · have et := s2.1 K
        have ei := i2.1 K
        subst et; subst ei
        have hp := kO_p K
        generalize (kO ws).2 = p at *
        have hpk := phaseB_ok hp
        have a1 := l42At_ev r p.f0 (by omega)
        have a2 := phase_ev r p.f0 (by omega)
        by_cases c1 : phIx p.f0 r 0 ≥ 0
        · refine ⟨_, bad 3 (by omega) (by omega), ?_, ?_⟩
          · refine Ev.step (fun k => by rw [spec_RecParse.l0]) (ev_pos (by omega) (ev_pos (by omega) ?_))
            rw [rdOf_nat, hx, wsucc hi (by omega)]
            exact Ev.bind hs (ev_pos rfl (ev_neg cn (Ev.bind s1 (ev_pos rfl (Ev.bind a1 (ev_pos c1 (ev_ret rfl)))))))
          · refine Ev.step (fun k => by rw [impl_RecParse.l0]) (ev_pos (by omega) (ev_pos (by omega) ?_))
            rw [rdOf_nat, hx, wsucc hi (by omega)]
            exact Ev.bind hi' (ev_pos rfl (ev_neg cn (Ev.bind i1 (ev_pos rfl (Ev.bind a2 (ev_pos c1 (ev_ret rfl)))))))
        · by_cases c2 : (r.length : Int) ≥ 12
          · refine ⟨_, bad 5 (by omega) (by omega), ?_, ?_⟩
            · refine Ev.step (fun k => by rw [spec_RecParse.l0]) (ev_pos (by omega) (ev_pos (by omega) ?_))
              rw [rdOf_nat, hx, wsucc hi (by omega)]
              exact Ev.bind hs (ev_pos rfl (ev_neg cn (Ev.bind s1 (ev_pos rfl (Ev.bind a1 (ev_neg c1 (ev_pos c2 (ev_ret rfl))))))))
            · refine Ev.step (fun k => by rw [impl_RecParse.l0]) (ev_pos (by omega) (ev_pos (by omega) ?_))
              rw [rdOf_nat, hx, wsucc hi (by omega)]
              exact Ev.bind hi' (ev_pos rfl (ev_neg cn (Ev.bind i1 (ev_pos rfl (Ev.bind a2 (ev_neg c1 (ev_pos c2 (ev_ret rfl))))))))
          · obtain ⟨R, g0, g1, g2⟩ := ih (r ++ [p]) (at_ ++ [((i + 1 : Nat) : Int)]) (by simp; omega) (by simp; omega) (fun v hv' => by
                rcases List.mem_append.1 hv' with hv' | hv'
                · exact hv v hv'
                · rw [List.mem_singleton] at hv'; subst hv'; omega) (fun z hz' => by
                rcases List.mem_append.1 hz' with hz' | hz'
                · exact hok z hz'
                · rw [List.mem_singleton] at hz'; subst hz'; exact hpk)
            refine ⟨R, g0, ?_, ?_⟩
            · refine Ev.step (fun k => by rw [spec_RecParse.l0]) (ev_pos (by omega) (ev_pos (by omega) ?_))
              rw [rdOf_nat, hx, wsucc hi (by omega)]
              exact Ev.bind hs (ev_pos rfl (ev_neg cn (Ev.bind s1 (ev_pos rfl (Ev.bind a1 (ev_neg c1 (ev_neg c2 (ev_pos (by omega) (ev_pos (by omega) g1)))))))))
            · refine Ev.step (fun k => by rw [impl_RecParse.l0]) (ev_pos (by omega) (ev_pos (by omega) ?_))
              rw [rdOf_nat, hx, wsucc hi (by omega)]
              exact Ev.bind hi' (ev_pos rfl (ev_neg cn (Ev.bind i1 (ev_pos rfl (Ev.bind a2 (ev_neg c1 (ev_neg c2 (ev_pos (by omega) (ev_pos (by omega) g2)))))))))
      · have fs : ¬ ts.2.2.2.2.2.2.2.2 = true := by have := s2.2 K; unfold flagT at this; rw [this]; exact Bool.false_ne_true
        have fi : ¬ ti.2.2.2.2.2.2.2.2 = true := by have := i2.2 K; unfold flagT at this; rw [this]; exact Bool.false_ne_true
        refine ⟨_, bad 2 (by omega) (by omega), ?_, ?_⟩
        · refine Ev.step (fun k => by rw [spec_RecParse.l0]) (ev_pos (by omega) (ev_pos (by omega) ?_))
          rw [rdOf_nat, hx, wsucc hi (by omega)]
          exact Ev.bind hs (ev_pos rfl (ev_neg cn (Ev.bind s1 (ev_neg fs (ev_ret rfl)))))
        · refine Ev.step (fun k => by rw [impl_RecParse.l0]) (ev_pos (by omega) (ev_pos (by omega) ?_))
          rw [rdOf_nat, hx, wsucc hi (by omega)]
          exact Ev.bind hi' (ev_pos rfl (ev_neg cn (Ev.bind i1 (ev_neg fi (ev_ret rfl)))))
theorem parse_both (s : ByteArray) (hs : s.size ≤ 1048576) : ∃ R : RR, Good R ∧ Ev (fun k => spec_RecParse.f k s) R ∧ Ev (fun k => impl_RecParse.f k s) R := by
  have h1 := l43Lines_ev s hs
  have h2 := cutLines_ev s hs
  have hm := finL_mem s.data.toList []
  have long : Good (([], 0, 7) : RR) := ⟨⟨by simp, fun z hz => by cases hz⟩, by simp, by simp⟩
  unfold spec_RecParse.f impl_RecParse.f
  by_cases c : (s.size : Int) > 4000
  · exact ⟨_, long, Ev.bind h1 (ev_pos c (ev_ret rfl)), Ev.bind h2 (ev_pos c (ev_ret rfl))⟩
  by_cases c2 : ((finL [] s.data.toList).length : Int) > 60
  · exact ⟨_, long, Ev.bind h1 (ev_neg c (ev_pos c2 (ev_ret rfl))), Ev.bind h2 (ev_neg c (ev_pos c2 (ev_ret rfl)))⟩
  have hsz : ∀ x ∈ finL [] s.data.toList, x.size ≤ 4000 := fun x hx => by
    have := hm x hx
    rw [ba_len] at this
    simp at this; omega
  obtain ⟨R, g0, g1, g2⟩ := lines_both (finL [] s.data.toList) (by omega) hsz
  exact ⟨R, g0, Ev.bind h1 (ev_neg c (ev_neg c2 g1)), Ev.bind h2 (ev_neg c (ev_neg c2 g2))⟩
theorem FnExactRecParse : ∀ (x0 : ByteArray), (x0.size ≤ 140737488351232) → ∃ k, laws_FnExactRecParse.f k x0 = some true := by
  intro x hx
  refine Ev.rounds ?_
  unfold laws_FnExactRecParse.f
  refine ev_split (fun _ => ev_ret rfl) (fun hs => ?_)
  obtain ⟨R, ⟨⟨g1, g2⟩, g3, g4⟩, eS, eI⟩ := parse_both x (by omega)
  have e2 := eqRecPhaseS_ev R.1 (by omega) g2
  have eF := eqRecFault_ev R.2.1 R.2.2 (wfI (by omega) (by omega)) (wfI (by omega) (by omega))
  have e3 := markRecPhaseS_ev R.1 1 (by omega) (by omega) (by omega)
  have e4 := heldRecPhaseS_ev R.1.length 1 (by omega) (by omega) (by omega)
  refine Ev.bind eS (Ev.bind eI (Ev.bind e2 (ev_pos rfl (Ev.bind eF (ev_pos rfl ?_)))))
  refine Ev.bind e3 (Ev.bind e4 (ev_neg (by first | omega | (dsimp only; omega)) (ev_pos rfl ?_)))
  exact Ev.bind eI (Ev.bind e2 (ev_pos rfl (Ev.bind eF (ev_pos rfl (Ev.bind e4 (ev_neg (by first | omega | (dsimp only; omega)) (ev_pos rfl (ev_ret rfl))))))))
end Go.Proofs.YteflhnpcgoijfaaDoor.Pure
