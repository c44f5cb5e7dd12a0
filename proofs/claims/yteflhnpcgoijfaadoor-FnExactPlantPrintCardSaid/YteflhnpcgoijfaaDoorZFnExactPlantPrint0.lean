import Derived.Test.YteflhnpcgoijfaaDoorY1
set_option linter.unusedVariables false
namespace Go.Proofs.YteflhnpcgoijfaaDoor.PP
open Go Go.RowKit Go.Aw
structure S_laws_PlantFoe where
  f0 : ByteArray
  f1 : ByteArray
def z_laws_PlantFoe : S_laws_PlantFoe := ⟨(⟨#[]⟩ : ByteArray), (⟨#[]⟩ : ByteArray)⟩
def rd_laws_PlantFoe (xs : List S_laws_PlantFoe) (i : Int) : S_laws_PlantFoe := xs.getD i.toNat z_laws_PlantFoe
structure S_laws_PlantPlace where
  f0 : ByteArray
  f1 : Int
  f2 : ByteArray
def z_laws_PlantPlace : S_laws_PlantPlace := ⟨(⟨#[]⟩ : ByteArray), (0 : Int), (⟨#[]⟩ : ByteArray)⟩
def rd_laws_PlantPlace (xs : List S_laws_PlantPlace) (i : Int) : S_laws_PlantPlace := xs.getD i.toNat z_laws_PlantPlace
structure S_laws_PlantValve where
  f0 : ByteArray
  f1 : ByteArray
  f2 : ByteArray
  f3 : ByteArray
def z_laws_PlantValve : S_laws_PlantValve := ⟨(⟨#[]⟩ : ByteArray), (⟨#[]⟩ : ByteArray), (⟨#[]⟩ : ByteArray), (⟨#[]⟩ : ByteArray)⟩
def rd_laws_PlantValve (xs : List S_laws_PlantValve) (i : Int) : S_laws_PlantValve := xs.getD i.toNat z_laws_PlantValve
structure S_impl_PlantFoe where
  f0 : ByteArray
  f1 : ByteArray
def z_impl_PlantFoe : S_impl_PlantFoe := ⟨(⟨#[]⟩ : ByteArray), (⟨#[]⟩ : ByteArray)⟩
def rd_impl_PlantFoe (xs : List S_impl_PlantFoe) (i : Int) : S_impl_PlantFoe := xs.getD i.toNat z_impl_PlantFoe
structure S_impl_PlantPlace where
  f0 : ByteArray
  f1 : Int
  f2 : ByteArray
def z_impl_PlantPlace : S_impl_PlantPlace := ⟨(⟨#[]⟩ : ByteArray), (0 : Int), (⟨#[]⟩ : ByteArray)⟩
def rd_impl_PlantPlace (xs : List S_impl_PlantPlace) (i : Int) : S_impl_PlantPlace := xs.getD i.toNat z_impl_PlantPlace
structure S_impl_PlantValve where
  f0 : ByteArray
  f1 : ByteArray
  f2 : ByteArray
  f3 : ByteArray
def z_impl_PlantValve : S_impl_PlantValve := ⟨(⟨#[]⟩ : ByteArray), (⟨#[]⟩ : ByteArray), (⟨#[]⟩ : ByteArray), (⟨#[]⟩ : ByteArray)⟩
def rd_impl_PlantValve (xs : List S_impl_PlantValve) (i : Int) : S_impl_PlantValve := xs.getD i.toNat z_impl_PlantValve
structure S_A2_string where
  f0 : ByteArray
  f1 : ByteArray
def z_A2_string : S_A2_string := ⟨(⟨#[]⟩ : ByteArray), (⟨#[]⟩ : ByteArray)⟩
def rd_A2_string (xs : List S_A2_string) (i : Int) : S_A2_string := xs.getD i.toNat z_A2_string
structure S_laws_Plant where
  f0 : List ByteArray
  f1 : List S_laws_PlantFoe
  f2 : List S_laws_PlantPlace
  f3 : List S_laws_PlantValve
def z_laws_Plant : S_laws_Plant := ⟨([] : List ByteArray), ([] : List S_laws_PlantFoe), ([] : List S_laws_PlantPlace), ([] : List S_laws_PlantValve)⟩
def rd_laws_Plant (xs : List S_laws_Plant) (i : Int) : S_laws_Plant := xs.getD i.toNat z_laws_Plant
def ok_laws_PlantFoe (y : S_laws_PlantFoe) : Prop := (y.f0.size ≤ 140737488351232) ∧ (y.f1.size ≤ 140737488351232)
def ok_laws_PlantPlace (y : S_laws_PlantPlace) : Prop := (y.f0.size ≤ 140737488351232) ∧ ((Lit.int .i64 y.f1).wf = true) ∧ (y.f2.size ≤ 140737488351232)
def ok_laws_PlantValve (y : S_laws_PlantValve) : Prop := (y.f0.size ≤ 140737488351232) ∧ (y.f1.size ≤ 140737488351232) ∧ (y.f2.size ≤ 140737488351232) ∧ (y.f3.size ≤ 140737488351232)
def ok_laws_Plant (y : S_laws_Plant) : Prop := ((y.f0.length ≤ 9223372036854775807 ∧ y.f0.length * 16 ≤ 140737488351232) ∧ ∀ z ∈ y.f0, z.size ≤ 140737488351232) ∧ ((y.f1.length ≤ 9223372036854775807 ∧ y.f1.length * 32 ≤ 140737488351232) ∧ ∀ z ∈ y.f1, ok_laws_PlantFoe z) ∧ ((y.f2.length ≤ 9223372036854775807 ∧ y.f2.length * 40 ≤ 140737488351232) ∧ ∀ z ∈ y.f2, ok_laws_PlantPlace z) ∧ ((y.f3.length ≤ 9223372036854775807 ∧ y.f3.length * 64 ≤ 140737488351232) ∧ ∀ z ∈ y.f3, ok_laws_PlantValve z)
def laws_szStringS.l0 : Nat → List ByteArray → Int → Int → Option (Int)
  | 0, _, _, _ => none
  | k + 1, l0, x1, x5 => (if x5 < (l0.length : Int) then (if 0 ≤ x5 then (if (wrap64 (x1 - ((rdOf ByteArray.empty l0 x5).size : Int))) < 0 then (some (-1)) else (laws_szStringS.l0 k l0 (wrap64 (x1 - ((rdOf ByteArray.empty l0 x5).size : Int))) (wrap64 (x5 + 1)))) else none) else (some x1))
def laws_szStringS.f (k : Nat) (l0 : List ByteArray) (a1 : Int) : Option (Int) := (if (wrap64 (a1 - (l0.length : Int))) < 0 then (some (-1)) else (laws_szStringS.l0 k l0 (wrap64 (a1 - (l0.length : Int))) 0))
def laws_szPlantFoe.f (a0_0 : ByteArray) (a0_1 : ByteArray) (a1 : Int) : Option (Int) := (if (wrap64 (a1 - (a0_0.size : Int))) < 0 then (some (-1)) else (if (wrap64 ((wrap64 (a1 - (a0_0.size : Int))) - (a0_1.size : Int))) < 0 then (some (-1)) else (some (wrap64 ((wrap64 (a1 - (a0_0.size : Int))) - (a0_1.size : Int))))))
def laws_szPlantFoeS.l0 : Nat → List S_laws_PlantFoe → Int → Int → Option (Int)
  | 0, _, _, _ => none
  | k + 1, l0, x1, x5 => (if x5 < (l0.length : Int) then (if 0 ≤ x5 then ((laws_szPlantFoe.f ((rd_laws_PlantFoe l0 x5).f0) ((rd_laws_PlantFoe l0 x5).f1) x1).bind fun t8 => (if t8 < 0 then (some (-1)) else (laws_szPlantFoeS.l0 k l0 t8 (wrap64 (x5 + 1))))) else none) else (some x1))
def laws_szPlantFoeS.f (k : Nat) (l0 : List S_laws_PlantFoe) (a1 : Int) : Option (Int) := (if (wrap64 (a1 - (l0.length : Int))) < 0 then (some (-1)) else (laws_szPlantFoeS.l0 k l0 (wrap64 (a1 - (l0.length : Int))) 0))
def laws_szPlantPlace.f (a0_0 : ByteArray) (a0_1 : Int) (a0_2 : ByteArray) (a1 : Int) : Option (Int) := (if (wrap64 (a1 - (a0_0.size : Int))) < 0 then (some (-1)) else (if (wrap64 ((wrap64 (a1 - (a0_0.size : Int))) - (a0_2.size : Int))) < 0 then (some (-1)) else (some (wrap64 ((wrap64 (a1 - (a0_0.size : Int))) - (a0_2.size : Int))))))
def laws_szPlantPlaceS.l0 : Nat → List S_laws_PlantPlace → Int → Int → Option (Int)
  | 0, _, _, _ => none
  | k + 1, l0, x1, x5 => (if x5 < (l0.length : Int) then (if 0 ≤ x5 then ((laws_szPlantPlace.f ((rd_laws_PlantPlace l0 x5).f0) ((rd_laws_PlantPlace l0 x5).f1) ((rd_laws_PlantPlace l0 x5).f2) x1).bind fun t20 => (if t20 < 0 then (some (-1)) else (laws_szPlantPlaceS.l0 k l0 t20 (wrap64 (x5 + 1))))) else none) else (some x1))
def laws_szPlantPlaceS.f (k : Nat) (l0 : List S_laws_PlantPlace) (a1 : Int) : Option (Int) := (if (wrap64 (a1 - (l0.length : Int))) < 0 then (some (-1)) else (laws_szPlantPlaceS.l0 k l0 (wrap64 (a1 - (l0.length : Int))) 0))
def laws_szPlantValve.f (a0_0 : ByteArray) (a0_1 : ByteArray) (a0_2 : ByteArray) (a0_3 : ByteArray) (a1 : Int) : Option (Int) := (if (wrap64 (a1 - (a0_0.size : Int))) < 0 then (some (-1)) else (if (wrap64 ((wrap64 (a1 - (a0_0.size : Int))) - (a0_1.size : Int))) < 0 then (some (-1)) else (if (wrap64 ((wrap64 ((wrap64 (a1 - (a0_0.size : Int))) - (a0_1.size : Int))) - (a0_2.size : Int))) < 0 then (some (-1)) else (if (wrap64 ((wrap64 ((wrap64 ((wrap64 (a1 - (a0_0.size : Int))) - (a0_1.size : Int))) - (a0_2.size : Int))) - (a0_3.size : Int))) < 0 then (some (-1)) else (some (wrap64 ((wrap64 ((wrap64 ((wrap64 (a1 - (a0_0.size : Int))) - (a0_1.size : Int))) - (a0_2.size : Int))) - (a0_3.size : Int))))))))
def laws_szPlantValveS.l0 : Nat → List S_laws_PlantValve → Int → Int → Option (Int)
  | 0, _, _, _ => none
  | k + 1, l0, x1, x5 => (if x5 < (l0.length : Int) then (if 0 ≤ x5 then ((laws_szPlantValve.f ((rd_laws_PlantValve l0 x5).f0) ((rd_laws_PlantValve l0 x5).f1) ((rd_laws_PlantValve l0 x5).f2) ((rd_laws_PlantValve l0 x5).f3) x1).bind fun t36 => (if t36 < 0 then (some (-1)) else (laws_szPlantValveS.l0 k l0 t36 (wrap64 (x5 + 1))))) else none) else (some x1))
def laws_szPlantValveS.f (k : Nat) (l0 : List S_laws_PlantValve) (a1 : Int) : Option (Int) := (if (wrap64 (a1 - (l0.length : Int))) < 0 then (some (-1)) else (laws_szPlantValveS.l0 k l0 (wrap64 (a1 - (l0.length : Int))) 0))
def laws_szPlant.f (k : Nat) (a0_0 : List ByteArray) (a0_1 : List S_laws_PlantFoe) (a0_2 : List S_laws_PlantPlace) (a0_3 : List S_laws_PlantValve) (a1 : Int) : Option (Int) := ((laws_szStringS.f k a0_0 a1).bind fun t38 => (if t38 < 0 then (some (-1)) else ((laws_szPlantFoeS.f k a0_1 t38).bind fun t40 => (if t40 < 0 then (some (-1)) else ((laws_szPlantPlaceS.f k a0_2 t40).bind fun t42 => (if t42 < 0 then (some (-1)) else ((laws_szPlantValveS.f k a0_3 t42).bind fun t44 => (if t44 < 0 then (some (-1)) else (some t44)))))))))
def laws_toStringS.l0 : Nat → List ByteArray → List ByteArray → Int → Option (List ByteArray)
  | 0, _, _, _ => none
  | k + 1, l0, x3, x4 => (if x4 < (l0.length : Int) then (if 0 ≤ x4 then (if x4 < (x3.length : Int) then (laws_toStringS.l0 k l0 (x3.set (x4).toNat (rdOf ByteArray.empty l0 x4)) (wrap64 (x4 + 1))) else none) else none) else (some x3))
def laws_toStringS.f (k : Nat) (l0 : List ByteArray) : Option (List ByteArray) := (if (l0.length : Int) * 16 ≤ 140737488355328 then (laws_toStringS.l0 k l0 (List.replicate ((l0.length : Int)).toNat (⟨#[]⟩ : ByteArray)) 0) else none)
def laws_toPlantFoe.f (a0_0 : ByteArray) (a0_1 : ByteArray) : Option (ByteArray × ByteArray) := (some (a0_0, a0_1))
def laws_toPlantFoeS.l0 : Nat → List S_laws_PlantFoe → List S_impl_PlantFoe → Int → Option (List S_impl_PlantFoe)
  | 0, _, _, _ => none
  | k + 1, l0, x3, x4 => (if x4 < (l0.length : Int) then (if 0 ≤ x4 then ((laws_toPlantFoe.f ((rd_laws_PlantFoe l0 x4).f0) ((rd_laws_PlantFoe l0 x4).f1)).bind fun t61 => (if x4 < (x3.length : Int) then (laws_toPlantFoeS.l0 k l0 (x3.set (x4).toNat (⟨t61.1, t61.2⟩ : S_impl_PlantFoe)) (wrap64 (x4 + 1))) else none)) else none) else (some x3))
def laws_toPlantFoeS.f (k : Nat) (l0 : List S_laws_PlantFoe) : Option (List S_impl_PlantFoe) := (if (l0.length : Int) * 32 ≤ 140737488355328 then (laws_toPlantFoeS.l0 k l0 (List.replicate ((l0.length : Int)).toNat z_impl_PlantFoe) 0) else none)
def laws_toPlantPlace.f (a0_0 : ByteArray) (a0_1 : Int) (a0_2 : ByteArray) : Option (ByteArray × Int × ByteArray) := (some (a0_0, a0_1, a0_2))
def laws_toPlantPlaceS.l0 : Nat → List S_laws_PlantPlace → List S_impl_PlantPlace → Int → Option (List S_impl_PlantPlace)
  | 0, _, _, _ => none
  | k + 1, l0, x3, x4 => (if x4 < (l0.length : Int) then (if 0 ≤ x4 then ((laws_toPlantPlace.f ((rd_laws_PlantPlace l0 x4).f0) ((rd_laws_PlantPlace l0 x4).f1) ((rd_laws_PlantPlace l0 x4).f2)).bind fun t78 => (if x4 < (x3.length : Int) then (laws_toPlantPlaceS.l0 k l0 (x3.set (x4).toNat (⟨t78.1, t78.2.1, t78.2.2⟩ : S_impl_PlantPlace)) (wrap64 (x4 + 1))) else none)) else none) else (some x3))
def laws_toPlantPlaceS.f (k : Nat) (l0 : List S_laws_PlantPlace) : Option (List S_impl_PlantPlace) := (if (l0.length : Int) * 40 ≤ 140737488355328 then (laws_toPlantPlaceS.l0 k l0 (List.replicate ((l0.length : Int)).toNat z_impl_PlantPlace) 0) else none)
def laws_toPlantValve.f (a0_0 : ByteArray) (a0_1 : ByteArray) (a0_2 : ByteArray) (a0_3 : ByteArray) : Option (ByteArray × ByteArray × ByteArray × ByteArray) := (some (a0_0, a0_1, a0_2, a0_3))
def laws_toPlantValveS.l0 : Nat → List S_laws_PlantValve → List S_impl_PlantValve → Int → Option (List S_impl_PlantValve)
  | 0, _, _, _ => none
  | k + 1, l0, x3, x4 => (if x4 < (l0.length : Int) then (if 0 ≤ x4 then ((laws_toPlantValve.f ((rd_laws_PlantValve l0 x4).f0) ((rd_laws_PlantValve l0 x4).f1) ((rd_laws_PlantValve l0 x4).f2) ((rd_laws_PlantValve l0 x4).f3)).bind fun t99 => (if x4 < (x3.length : Int) then (laws_toPlantValveS.l0 k l0 (x3.set (x4).toNat (⟨t99.1, t99.2.1, t99.2.2.1, t99.2.2.2⟩ : S_impl_PlantValve)) (wrap64 (x4 + 1))) else none)) else none) else (some x3))
def laws_toPlantValveS.f (k : Nat) (l0 : List S_laws_PlantValve) : Option (List S_impl_PlantValve) := (if (l0.length : Int) * 64 ≤ 140737488355328 then (laws_toPlantValveS.l0 k l0 (List.replicate ((l0.length : Int)).toNat z_impl_PlantValve) 0) else none)
def laws_toPlant.f (k : Nat) (a0_0 : List ByteArray) (a0_1 : List S_laws_PlantFoe) (a0_2 : List S_laws_PlantPlace) (a0_3 : List S_laws_PlantValve) : Option ((List ByteArray) × (List S_impl_PlantFoe) × (List S_impl_PlantPlace) × (List S_impl_PlantValve)) := ((laws_toStringS.f k a0_0).bind fun t101 => ((laws_toPlantFoeS.f k a0_1).bind fun t103 => ((laws_toPlantPlaceS.f k a0_2).bind fun t105 => ((laws_toPlantValveS.f k a0_3).bind fun t107 => (some (t101, t103, t105, t107))))))
def spec_l1In.f (a0 : Int) (a1 : Int) (a2 : Int) : Option (Bool) := (if a0 ≥ a1 then (some (decide (a0 ≤ a2))) else (some false))
def spec_l2NameOk.l0 : Nat → ByteArray → Int → Option (Bool)
  | 0, _, _ => none
  | k + 1, a0, x3 => (if x3 < (a0.size : Int) then (if 0 ≤ x3 then (if (bt a0 x3) ≥ 97 then (if (bt a0 x3) ≤ 122 then (spec_l2NameOk.l0 k a0 (wrap64 (x3 + 1))) else (if (bt a0 x3) ≥ 48 then (if (bt a0 x3) ≤ 57 then (spec_l2NameOk.l0 k a0 (wrap64 (x3 + 1))) else (if (bt a0 x3) = 45 then (spec_l2NameOk.l0 k a0 (wrap64 (x3 + 1))) else (some false))) else (if (bt a0 x3) = 45 then (spec_l2NameOk.l0 k a0 (wrap64 (x3 + 1))) else (some false)))) else (if (bt a0 x3) ≥ 48 then (if (bt a0 x3) ≤ 57 then (spec_l2NameOk.l0 k a0 (wrap64 (x3 + 1))) else (if (bt a0 x3) = 45 then (spec_l2NameOk.l0 k a0 (wrap64 (x3 + 1))) else (some false))) else (if (bt a0 x3) = 45 then (spec_l2NameOk.l0 k a0 (wrap64 (x3 + 1))) else (some false)))) else none) else (some true))
def spec_l2NameOk.f (k : Nat) (a0 : ByteArray) : Option (Bool) := ((spec_l1In.f (a0.size : Int) 1 8).bind fun t125 => (if t125 = true then (spec_l2NameOk.l0 k a0 0) else (some false)))
def spec_l2Has.l0 : Nat → List ByteArray → ByteArray → Int → Option (Bool)
  | 0, _, _, _ => none
  | k + 1, l0, a1, x5 => (if x5 < (l0.length : Int) then (if 0 ≤ x5 then (if (rdOf ByteArray.empty l0 x5).toList = a1.toList then (some true) else (spec_l2Has.l0 k l0 a1 (wrap64 (x5 + 1)))) else none) else (some false))
def spec_l2Has.f (k : Nat) (l0 : List ByteArray) (a1 : ByteArray) : Option (Bool) := (spec_l2Has.l0 k l0 a1 0)
def spec_l2Before.f (a0_0 : ByteArray) (a0_1 : ByteArray) (a1_0 : ByteArray) (a1_1 : ByteArray) : Option (Bool) := (if (Op.bytesLess a0_0.toList a1_0.toList) = true then (some true) else (if a0_0.toList = a1_0.toList then (some (Op.bytesLess a0_1.toList a1_1.toList)) else (some false)))
def spec_l2StuffsOk.l1 : Nat → List ByteArray → List S_impl_PlantFoe → Int → Option (Bool)
  | 0, _, _, _ => none
  | k + 1, a0_0, a0_1, x4 => (if x4 < (a0_1.length : Int) then (if 0 ≤ x4 then (if (Op.bytesLess ((rd_impl_PlantFoe a0_1 x4).f0).toList ((rd_impl_PlantFoe a0_1 x4).f1).toList) = true then ((spec_l2Has.f k a0_0 ((rd_impl_PlantFoe a0_1 x4).f0)).bind fun t155 => (if t155 = true then ((spec_l2Has.f k a0_0 ((rd_impl_PlantFoe a0_1 x4).f1)).bind fun t156 => (if t156 = true then (if x4 > 0 then (if 0 ≤ (wrap64 (x4 - 1)) then (if (wrap64 (x4 - 1)) < (a0_1.length : Int) then ((spec_l2Before.f ((rd_impl_PlantFoe a0_1 (wrap64 (x4 - 1))).f0) ((rd_impl_PlantFoe a0_1 (wrap64 (x4 - 1))).f1) ((rd_impl_PlantFoe a0_1 x4).f0) ((rd_impl_PlantFoe a0_1 x4).f1)).bind fun t157 => (if t157 = true then (spec_l2StuffsOk.l1 k a0_0 a0_1 (wrap64 (x4 + 1))) else (some false))) else none) else none) else (spec_l2StuffsOk.l1 k a0_0 a0_1 (wrap64 (x4 + 1)))) else (some false))) else (some false))) else (some false)) else none) else (some true))
def spec_l2StuffsOk.l0 : Nat → List ByteArray → List S_impl_PlantFoe → Int → Option (Bool)
  | 0, _, _, _ => none
  | k + 1, a0_0, a0_1, x3 => (if x3 < (a0_0.length : Int) then (if 0 ≤ x3 then ((spec_l2NameOk.f k (rdOf ByteArray.empty a0_0 x3)).bind fun t145 => (if t145 = true then (if x3 > 0 then (if 0 ≤ (wrap64 (x3 - 1)) then (if (wrap64 (x3 - 1)) < (a0_0.length : Int) then (if (Op.bytesLess (rdOf ByteArray.empty a0_0 (wrap64 (x3 - 1))).toList (rdOf ByteArray.empty a0_0 x3).toList) = true then (spec_l2StuffsOk.l0 k a0_0 a0_1 (wrap64 (x3 + 1))) else (some false)) else none) else none) else (spec_l2StuffsOk.l0 k a0_0 a0_1 (wrap64 (x3 + 1)))) else (some false))) else none) else (spec_l2StuffsOk.l1 k a0_0 a0_1 0))
def spec_l2StuffsOk.f (k : Nat) (a0_0 : List ByteArray) (a0_1 : List S_impl_PlantFoe) (a0_2 : List S_impl_PlantPlace) (a0_3 : List S_impl_PlantValve) : Option (Bool) := (if (a0_0.length : Int) > 8 then (some false) else (if (a0_1.length : Int) > 12 then (some false) else (spec_l2StuffsOk.l0 k a0_0 a0_1 0)))
def spec_l2PlacesOk.l0 : Nat → List S_impl_PlantPlace → Int → Option (Bool)
  | 0, _, _ => none
  | k + 1, a0_2, x3 => (if x3 < (a0_2.length : Int) then (if 0 ≤ x3 then ((spec_l2NameOk.f k ((rd_impl_PlantPlace a0_2 x3).f0)).bind fun t177 => (if t177 = true then (if x3 > 0 then (if 0 ≤ (wrap64 (x3 - 1)) then (if (wrap64 (x3 - 1)) < (a0_2.length : Int) then (if (Op.bytesLess ((rd_impl_PlantPlace a0_2 (wrap64 (x3 - 1))).f0).toList ((rd_impl_PlantPlace a0_2 x3).f0).toList) = true then ((spec_l1In.f ((rd_impl_PlantPlace a0_2 x3).f1) 0 1000).bind fun t178 => (if t178 = true then ((spec_l2NameOk.f k ((rd_impl_PlantPlace a0_2 x3).f2)).bind fun t179 => (if t179 = true then (spec_l2PlacesOk.l0 k a0_2 (wrap64 (x3 + 1))) else (some false))) else (some false))) else (some false)) else none) else none) else ((spec_l1In.f ((rd_impl_PlantPlace a0_2 x3).f1) 0 1000).bind fun t180 => (if t180 = true then ((spec_l2NameOk.f k ((rd_impl_PlantPlace a0_2 x3).f2)).bind fun t181 => (if t181 = true then (spec_l2PlacesOk.l0 k a0_2 (wrap64 (x3 + 1))) else (some false))) else (some false)))) else (some false))) else none) else (some true))
def spec_l2PlacesOk.f (k : Nat) (a0_0 : List ByteArray) (a0_1 : List S_impl_PlantFoe) (a0_2 : List S_impl_PlantPlace) (a0_3 : List S_impl_PlantValve) : Option (Bool) := (if (a0_2.length : Int) > 14 then (some false) else (spec_l2PlacesOk.l0 k a0_2 0))
def spec_l2Place.l0 : Nat → List S_impl_PlantPlace → ByteArray → Int → Option (Int)
  | 0, _, _, _ => none
  | k + 1, a0_2, a1, x5 => (if x5 < (a0_2.length : Int) then (if 0 ≤ x5 then (if ((rd_impl_PlantPlace a0_2 x5).f0).toList = a1.toList then (some x5) else (spec_l2Place.l0 k a0_2 a1 (wrap64 (x5 + 1)))) else none) else (some (-1)))
def spec_l2Place.f (k : Nat) (a0_0 : List ByteArray) (a0_1 : List S_impl_PlantFoe) (a0_2 : List S_impl_PlantPlace) (a0_3 : List S_impl_PlantValve) (a1 : ByteArray) : Option (Int) := (spec_l2Place.l0 k a0_2 a1 0)
def spec_l2ValvesOk.l0 : Nat → List ByteArray → List S_impl_PlantFoe → List S_impl_PlantPlace → List S_impl_PlantValve → Int → Option (Bool)
  | 0, _, _, _, _, _ => none
  | k + 1, a0_0, a0_1, a0_2, a0_3, x3 => (if x3 < (a0_3.length : Int) then (if 0 ≤ x3 then ((spec_l2NameOk.f k ((rd_impl_PlantValve a0_3 x3).f0)).bind fun t214 => (if t214 = true then (if x3 > 0 then (if 0 ≤ (wrap64 (x3 - 1)) then (if (wrap64 (x3 - 1)) < (a0_3.length : Int) then (if (Op.bytesLess ((rd_impl_PlantValve a0_3 (wrap64 (x3 - 1))).f0).toList ((rd_impl_PlantValve a0_3 x3).f0).toList) = true then (if (Op.bytesLess ((rd_impl_PlantValve a0_3 x3).f1).toList ((rd_impl_PlantValve a0_3 x3).f2).toList) = true then ((spec_l2Place.f k a0_0 a0_1 a0_2 a0_3 ((rd_impl_PlantValve a0_3 x3).f1)).bind fun t215 => (if t215 < 0 then (some false) else ((spec_l2Place.f k a0_0 a0_1 a0_2 a0_3 ((rd_impl_PlantValve a0_3 x3).f2)).bind fun t216 => (if t216 < 0 then (some false) else ((spec_l2NameOk.f k ((rd_impl_PlantValve a0_3 x3).f3)).bind fun t217 => (if t217 = true then (spec_l2ValvesOk.l0 k a0_0 a0_1 a0_2 a0_3 (wrap64 (x3 + 1))) else (some false))))))) else (some false)) else (some false)) else none) else none) else (if (Op.bytesLess ((rd_impl_PlantValve a0_3 x3).f1).toList ((rd_impl_PlantValve a0_3 x3).f2).toList) = true then ((spec_l2Place.f k a0_0 a0_1 a0_2 a0_3 ((rd_impl_PlantValve a0_3 x3).f1)).bind fun t218 => (if t218 < 0 then (some false) else ((spec_l2Place.f k a0_0 a0_1 a0_2 a0_3 ((rd_impl_PlantValve a0_3 x3).f2)).bind fun t219 => (if t219 < 0 then (some false) else ((spec_l2NameOk.f k ((rd_impl_PlantValve a0_3 x3).f3)).bind fun t220 => (if t220 = true then (spec_l2ValvesOk.l0 k a0_0 a0_1 a0_2 a0_3 (wrap64 (x3 + 1))) else (some false))))))) else (some false))) else (some false))) else none) else (some true))
def spec_l2ValvesOk.f (k : Nat) (a0_0 : List ByteArray) (a0_1 : List S_impl_PlantFoe) (a0_2 : List S_impl_PlantPlace) (a0_3 : List S_impl_PlantValve) : Option (Bool) := (if (a0_3.length : Int) > 18 then (some false) else (spec_l2ValvesOk.l0 k a0_0 a0_1 a0_2 a0_3 0))
def spec_PlantValid.f (k : Nat) (a0_0 : List ByteArray) (a0_1 : List S_impl_PlantFoe) (a0_2 : List S_impl_PlantPlace) (a0_3 : List S_impl_PlantValve) : Option (Bool) := ((spec_l2StuffsOk.f k a0_0 a0_1 a0_2 a0_3).bind fun t224 => (if t224 = true then ((spec_l2PlacesOk.f k a0_0 a0_1 a0_2 a0_3).bind fun t225 => (if t225 = true then ((spec_l2ValvesOk.f k a0_0 a0_1 a0_2 a0_3).bind fun t226 => (some t226)) else (some false))) else (some false)))
def spec_l3Dec.f : Nat → Int → Option (ByteArray)
  | 0, _ => none
  | k + 1, a0 => (if a0 < 10 then (some (⟨#[UInt8.ofNat (IntKind.wrap .u8 (wrap64 (48 + a0))).toNat]⟩ : ByteArray)) else ((spec_l3Dec.f k (wrap64 (Int.tdiv a0 10))).bind fun t234 => (if ((t234.size + (⟨#[UInt8.ofNat (IntKind.wrap .u8 (wrap64 (48 + (Int.tmod a0 10)))).toNat]⟩ : ByteArray).size : Nat) : Int) ≤ 9223372036854775807 then (some (t234 ++ (⟨#[UInt8.ofNat (IntKind.wrap .u8 (wrap64 (48 + (Int.tmod a0 10)))).toNat]⟩ : ByteArray))) else none)))
def spec_PlantPrint.l3 : Nat → List S_impl_PlantValve → ByteArray → Int → Option (ByteArray)
  | 0, _, _, _ => none
  | k + 1, a0_3, x3_3, x8 => (if x8 < (a0_3.length : Int) then (if 0 ≤ x8 then (if ((x3_3.size + (⟨#[118, 97, 108, 118, 101, 32]⟩ : ByteArray).size : Nat) : Int) ≤ 9223372036854775807 then (if (((x3_3 ++ (⟨#[118, 97, 108, 118, 101, 32]⟩ : ByteArray)).size + ((rd_impl_PlantValve a0_3 x8).f0).size : Nat) : Int) ≤ 9223372036854775807 then (if ((((x3_3 ++ (⟨#[118, 97, 108, 118, 101, 32]⟩ : ByteArray)) ++ ((rd_impl_PlantValve a0_3 x8).f0)).size + (⟨#[32]⟩ : ByteArray).size : Nat) : Int) ≤ 9223372036854775807 then (if (((((x3_3 ++ (⟨#[118, 97, 108, 118, 101, 32]⟩ : ByteArray)) ++ ((rd_impl_PlantValve a0_3 x8).f0)) ++ (⟨#[32]⟩ : ByteArray)).size + ((rd_impl_PlantValve a0_3 x8).f1).size : Nat) : Int) ≤ 9223372036854775807 then (if ((((((x3_3 ++ (⟨#[118, 97, 108, 118, 101, 32]⟩ : ByteArray)) ++ ((rd_impl_PlantValve a0_3 x8).f0)) ++ (⟨#[32]⟩ : ByteArray)) ++ ((rd_impl_PlantValve a0_3 x8).f1)).size + (⟨#[32]⟩ : ByteArray).size : Nat) : Int) ≤ 9223372036854775807 then (if (((((((x3_3 ++ (⟨#[118, 97, 108, 118, 101, 32]⟩ : ByteArray)) ++ ((rd_impl_PlantValve a0_3 x8).f0)) ++ (⟨#[32]⟩ : ByteArray)) ++ ((rd_impl_PlantValve a0_3 x8).f1)) ++ (⟨#[32]⟩ : ByteArray)).size + ((rd_impl_PlantValve a0_3 x8).f2).size : Nat) : Int) ≤ 9223372036854775807 then (if ((((((((x3_3 ++ (⟨#[118, 97, 108, 118, 101, 32]⟩ : ByteArray)) ++ ((rd_impl_PlantValve a0_3 x8).f0)) ++ (⟨#[32]⟩ : ByteArray)) ++ ((rd_impl_PlantValve a0_3 x8).f1)) ++ (⟨#[32]⟩ : ByteArray)) ++ ((rd_impl_PlantValve a0_3 x8).f2)).size + (⟨#[32]⟩ : ByteArray).size : Nat) : Int) ≤ 9223372036854775807 then (if (((((((((x3_3 ++ (⟨#[118, 97, 108, 118, 101, 32]⟩ : ByteArray)) ++ ((rd_impl_PlantValve a0_3 x8).f0)) ++ (⟨#[32]⟩ : ByteArray)) ++ ((rd_impl_PlantValve a0_3 x8).f1)) ++ (⟨#[32]⟩ : ByteArray)) ++ ((rd_impl_PlantValve a0_3 x8).f2)) ++ (⟨#[32]⟩ : ByteArray)).size + ((rd_impl_PlantValve a0_3 x8).f3).size : Nat) : Int) ≤ 9223372036854775807 then (if ((((((((((x3_3 ++ (⟨#[118, 97, 108, 118, 101, 32]⟩ : ByteArray)) ++ ((rd_impl_PlantValve a0_3 x8).f0)) ++ (⟨#[32]⟩ : ByteArray)) ++ ((rd_impl_PlantValve a0_3 x8).f1)) ++ (⟨#[32]⟩ : ByteArray)) ++ ((rd_impl_PlantValve a0_3 x8).f2)) ++ (⟨#[32]⟩ : ByteArray)) ++ ((rd_impl_PlantValve a0_3 x8).f3)).size + (⟨#[10]⟩ : ByteArray).size : Nat) : Int) ≤ 9223372036854775807 then (spec_PlantPrint.l3 k a0_3 (((((((((x3_3 ++ (⟨#[118, 97, 108, 118, 101, 32]⟩ : ByteArray)) ++ ((rd_impl_PlantValve a0_3 x8).f0)) ++ (⟨#[32]⟩ : ByteArray)) ++ ((rd_impl_PlantValve a0_3 x8).f1)) ++ (⟨#[32]⟩ : ByteArray)) ++ ((rd_impl_PlantValve a0_3 x8).f2)) ++ (⟨#[32]⟩ : ByteArray)) ++ ((rd_impl_PlantValve a0_3 x8).f3)) ++ (⟨#[10]⟩ : ByteArray)) (wrap64 (x8 + 1))) else none) else none) else none) else none) else none) else none) else none) else none) else none) else none) else (some x3_3))
def spec_PlantPrint.l2 : Nat → List S_impl_PlantPlace → List S_impl_PlantValve → ByteArray → Int → Option (ByteArray)
  | 0, _, _, _, _ => none
  | k + 1, a0_2, a0_3, x3_2, x6 => (if x6 < (a0_2.length : Int) then (if 0 ≤ x6 then (if ((rd_impl_PlantPlace a0_2 x6).f1) > 0 then (if ((x3_2.size + (⟨#[118, 101, 115, 115, 101, 108, 32]⟩ : ByteArray).size : Nat) : Int) ≤ 9223372036854775807 then (if (((x3_2 ++ (⟨#[118, 101, 115, 115, 101, 108, 32]⟩ : ByteArray)).size + ((rd_impl_PlantPlace a0_2 x6).f0).size : Nat) : Int) ≤ 9223372036854775807 then (if ((((x3_2 ++ (⟨#[118, 101, 115, 115, 101, 108, 32]⟩ : ByteArray)) ++ ((rd_impl_PlantPlace a0_2 x6).f0)).size + (⟨#[32]⟩ : ByteArray).size : Nat) : Int) ≤ 9223372036854775807 then ((spec_l3Dec.f k ((rd_impl_PlantPlace a0_2 x6).f1)).bind fun t240 => (if (((((x3_2 ++ (⟨#[118, 101, 115, 115, 101, 108, 32]⟩ : ByteArray)) ++ ((rd_impl_PlantPlace a0_2 x6).f0)) ++ (⟨#[32]⟩ : ByteArray)).size + t240.size : Nat) : Int) ≤ 9223372036854775807 then (if ((((((x3_2 ++ (⟨#[118, 101, 115, 115, 101, 108, 32]⟩ : ByteArray)) ++ ((rd_impl_PlantPlace a0_2 x6).f0)) ++ (⟨#[32]⟩ : ByteArray)) ++ t240).size + (⟨#[32]⟩ : ByteArray).size : Nat) : Int) ≤ 9223372036854775807 then (if (((((((x3_2 ++ (⟨#[118, 101, 115, 115, 101, 108, 32]⟩ : ByteArray)) ++ ((rd_impl_PlantPlace a0_2 x6).f0)) ++ (⟨#[32]⟩ : ByteArray)) ++ t240) ++ (⟨#[32]⟩ : ByteArray)).size + ((rd_impl_PlantPlace a0_2 x6).f2).size : Nat) : Int) ≤ 9223372036854775807 then (if ((((((((x3_2 ++ (⟨#[118, 101, 115, 115, 101, 108, 32]⟩ : ByteArray)) ++ ((rd_impl_PlantPlace a0_2 x6).f0)) ++ (⟨#[32]⟩ : ByteArray)) ++ t240) ++ (⟨#[32]⟩ : ByteArray)) ++ ((rd_impl_PlantPlace a0_2 x6).f2)).size + (⟨#[10]⟩ : ByteArray).size : Nat) : Int) ≤ 9223372036854775807 then (spec_PlantPrint.l2 k a0_2 a0_3 (((((((x3_2 ++ (⟨#[118, 101, 115, 115, 101, 108, 32]⟩ : ByteArray)) ++ ((rd_impl_PlantPlace a0_2 x6).f0)) ++ (⟨#[32]⟩ : ByteArray)) ++ t240) ++ (⟨#[32]⟩ : ByteArray)) ++ ((rd_impl_PlantPlace a0_2 x6).f2)) ++ (⟨#[10]⟩ : ByteArray)) (wrap64 (x6 + 1))) else none) else none) else none) else none)) else none) else none) else none) else (if ((x3_2.size + (⟨#[106, 111, 105, 110, 116, 32]⟩ : ByteArray).size : Nat) : Int) ≤ 9223372036854775807 then (if (((x3_2 ++ (⟨#[106, 111, 105, 110, 116, 32]⟩ : ByteArray)).size + ((rd_impl_PlantPlace a0_2 x6).f0).size : Nat) : Int) ≤ 9223372036854775807 then (if ((((x3_2 ++ (⟨#[106, 111, 105, 110, 116, 32]⟩ : ByteArray)) ++ ((rd_impl_PlantPlace a0_2 x6).f0)).size + (⟨#[32]⟩ : ByteArray).size : Nat) : Int) ≤ 9223372036854775807 then (if (((((x3_2 ++ (⟨#[106, 111, 105, 110, 116, 32]⟩ : ByteArray)) ++ ((rd_impl_PlantPlace a0_2 x6).f0)) ++ (⟨#[32]⟩ : ByteArray)).size + ((rd_impl_PlantPlace a0_2 x6).f2).size : Nat) : Int) ≤ 9223372036854775807 then (if ((((((x3_2 ++ (⟨#[106, 111, 105, 110, 116, 32]⟩ : ByteArray)) ++ ((rd_impl_PlantPlace a0_2 x6).f0)) ++ (⟨#[32]⟩ : ByteArray)) ++ ((rd_impl_PlantPlace a0_2 x6).f2)).size + (⟨#[10]⟩ : ByteArray).size : Nat) : Int) ≤ 9223372036854775807 then (spec_PlantPrint.l2 k a0_2 a0_3 (((((x3_2 ++ (⟨#[106, 111, 105, 110, 116, 32]⟩ : ByteArray)) ++ ((rd_impl_PlantPlace a0_2 x6).f0)) ++ (⟨#[32]⟩ : ByteArray)) ++ ((rd_impl_PlantPlace a0_2 x6).f2)) ++ (⟨#[10]⟩ : ByteArray)) (wrap64 (x6 + 1))) else none) else none) else none) else none) else none)) else none) else (spec_PlantPrint.l3 k a0_3 x3_2 0))
def spec_PlantPrint.l1 : Nat → List S_impl_PlantFoe → List S_impl_PlantPlace → List S_impl_PlantValve → ByteArray → Int → Option (ByteArray)
  | 0, _, _, _, _, _ => none
  | k + 1, a0_1, a0_2, a0_3, x3_1, x5 => (if x5 < (a0_1.length : Int) then (if ((x3_1.size + (⟨#[102, 111, 101, 32]⟩ : ByteArray).size : Nat) : Int) ≤ 9223372036854775807 then (if 0 ≤ x5 then (if (((x3_1 ++ (⟨#[102, 111, 101, 32]⟩ : ByteArray)).size + ((rd_impl_PlantFoe a0_1 x5).f0).size : Nat) : Int) ≤ 9223372036854775807 then (if ((((x3_1 ++ (⟨#[102, 111, 101, 32]⟩ : ByteArray)) ++ ((rd_impl_PlantFoe a0_1 x5).f0)).size + (⟨#[32]⟩ : ByteArray).size : Nat) : Int) ≤ 9223372036854775807 then (if (((((x3_1 ++ (⟨#[102, 111, 101, 32]⟩ : ByteArray)) ++ ((rd_impl_PlantFoe a0_1 x5).f0)) ++ (⟨#[32]⟩ : ByteArray)).size + ((rd_impl_PlantFoe a0_1 x5).f1).size : Nat) : Int) ≤ 9223372036854775807 then (if ((((((x3_1 ++ (⟨#[102, 111, 101, 32]⟩ : ByteArray)) ++ ((rd_impl_PlantFoe a0_1 x5).f0)) ++ (⟨#[32]⟩ : ByteArray)) ++ ((rd_impl_PlantFoe a0_1 x5).f1)).size + (⟨#[10]⟩ : ByteArray).size : Nat) : Int) ≤ 9223372036854775807 then (spec_PlantPrint.l1 k a0_1 a0_2 a0_3 (((((x3_1 ++ (⟨#[102, 111, 101, 32]⟩ : ByteArray)) ++ ((rd_impl_PlantFoe a0_1 x5).f0)) ++ (⟨#[32]⟩ : ByteArray)) ++ ((rd_impl_PlantFoe a0_1 x5).f1)) ++ (⟨#[10]⟩ : ByteArray)) (wrap64 (x5 + 1))) else none) else none) else none) else none) else none) else none) else (spec_PlantPrint.l2 k a0_2 a0_3 x3_1 0))
def spec_PlantPrint.l0 : Nat → List ByteArray → List S_impl_PlantFoe → List S_impl_PlantPlace → List S_impl_PlantValve → ByteArray → Int → Option (ByteArray)
  | 0, _, _, _, _, _, _ => none
  | k + 1, a0_0, a0_1, a0_2, a0_3, x3, x4 => (if x4 < (a0_0.length : Int) then (if ((x3.size + (⟨#[115, 116, 117, 102, 102, 32]⟩ : ByteArray).size : Nat) : Int) ≤ 9223372036854775807 then (if 0 ≤ x4 then (if (((x3 ++ (⟨#[115, 116, 117, 102, 102, 32]⟩ : ByteArray)).size + (rdOf ByteArray.empty a0_0 x4).size : Nat) : Int) ≤ 9223372036854775807 then (if ((((x3 ++ (⟨#[115, 116, 117, 102, 102, 32]⟩ : ByteArray)) ++ (rdOf ByteArray.empty a0_0 x4)).size + (⟨#[10]⟩ : ByteArray).size : Nat) : Int) ≤ 9223372036854775807 then (spec_PlantPrint.l0 k a0_0 a0_1 a0_2 a0_3 (((x3 ++ (⟨#[115, 116, 117, 102, 102, 32]⟩ : ByteArray)) ++ (rdOf ByteArray.empty a0_0 x4)) ++ (⟨#[10]⟩ : ByteArray)) (wrap64 (x4 + 1))) else none) else none) else none) else none) else (spec_PlantPrint.l1 k a0_1 a0_2 a0_3 x3 0))
def spec_PlantPrint.f (k : Nat) (a0_0 : List ByteArray) (a0_1 : List S_impl_PlantFoe) (a0_2 : List S_impl_PlantPlace) (a0_3 : List S_impl_PlantValve) : Option (ByteArray) := ((spec_PlantValid.f k a0_0 a0_1 a0_2 a0_3).bind fun t237 => (if t237 = true then (spec_PlantPrint.l0 k a0_0 a0_1 a0_2 a0_3 (⟨#[]⟩ : ByteArray) 0) else (some (⟨#[]⟩ : ByteArray))))
def impl_isName.l0 : Nat → ByteArray → Int → Option (Bool)
  | 0, _, _ => none
  | k + 1, a0, x7 => (if x7 < (a0.size : Int) then (if 0 ≤ x7 then (if (bt a0 x7) < 97 then (if (bt a0 x7) < 48 then (if (bt a0 x7) = 45 then (impl_isName.l0 k a0 (wrap64 (x7 + 1))) else (some false)) else (if (bt a0 x7) > 57 then (if (bt a0 x7) = 45 then (impl_isName.l0 k a0 (wrap64 (x7 + 1))) else (some false)) else (impl_isName.l0 k a0 (wrap64 (x7 + 1))))) else (if (bt a0 x7) > 122 then (if (bt a0 x7) < 48 then (if (bt a0 x7) = 45 then (impl_isName.l0 k a0 (wrap64 (x7 + 1))) else (some false)) else (if (bt a0 x7) > 57 then (if (bt a0 x7) = 45 then (impl_isName.l0 k a0 (wrap64 (x7 + 1))) else (some false)) else (impl_isName.l0 k a0 (wrap64 (x7 + 1))))) else (impl_isName.l0 k a0 (wrap64 (x7 + 1))))) else none) else (if (a0.size : Int) ≥ 1 then (some (decide ((a0.size : Int) ≤ 8))) else (some false)))
def impl_isName.f (k : Nat) (a0 : ByteArray) : Option (Bool) := (impl_isName.l0 k a0 0)
def impl_rising.l0 : Nat → List ByteArray → Int → Option (Bool)
  | 0, _, _ => none
  | k + 1, l0, x3 => (if x3 < (l0.length : Int) then (if 0 ≤ (wrap64 (x3 - 1)) then (if (wrap64 (x3 - 1)) < (l0.length : Int) then (if 0 ≤ x3 then (if (Op.bytesLess (rdOf ByteArray.empty l0 (wrap64 (x3 - 1))).toList (rdOf ByteArray.empty l0 x3).toList) = true then (impl_rising.l0 k l0 (wrap64 (x3 + 1))) else (some false)) else none) else none) else none) else (some true))
def impl_rising.f (k : Nat) (l0 : List ByteArray) : Option (Bool) := (impl_rising.l0 k l0 1)
def impl_names.l0 : Nat → List ByteArray → Int → Option (Bool)
  | 0, _, _ => none
  | k + 1, l0, x7 => (if x7 < (l0.length : Int) then (if 0 ≤ x7 then ((impl_isName.f k (rdOf ByteArray.empty l0 x7)).bind fun t288 => (if t288 = true then (impl_names.l0 k l0 (wrap64 (x7 + 1))) else (some false))) else none) else ((impl_rising.f k l0).bind fun t290 => (some t290)))
def impl_names.f (k : Nat) (l0 : List ByteArray) : Option (Bool) := (impl_names.l0 k l0 0)
def impl_Plant_pairs.l0 : Nat → List S_impl_PlantFoe → List S_A2_string → Int → Option (List S_A2_string)
  | 0, _, _, _ => none
  | k + 1, a0_1, x2, x8 => (if x8 < (a0_1.length : Int) then (if 0 ≤ x8 then (if (x2.length + 1) * 32 ≤ 140737488355328 then (impl_Plant_pairs.l0 k a0_1 (x2 ++ ([(⟨(rd_impl_PlantFoe a0_1 x8).f0, (rd_impl_PlantFoe a0_1 x8).f1⟩ : S_A2_string)] : List S_A2_string)) (wrap64 (x8 + 1))) else none) else none) else (some x2))
def impl_Plant_pairs.f (k : Nat) (a0_0 : List ByteArray) (a0_1 : List S_impl_PlantFoe) (a0_2 : List S_impl_PlantPlace) (a0_3 : List S_impl_PlantValve) : Option (List S_A2_string) := (impl_Plant_pairs.l0 k a0_1 [] 0)
def impl_foesOk.l0 : Nat → List S_A2_string → Int → Int → Option (Bool)
  | 0, _, _, _ => none
  | k + 1, l0, a1, x9 => (if x9 < (l0.length : Int) then (if 0 ≤ x9 then ((impl_isName.f k ((rd_A2_string l0 x9).f0)).bind fun t318 => (if t318 = true then ((impl_isName.f k ((rd_A2_string l0 x9).f1)).bind fun t319 => (if t319 = true then (if (Op.bytesLess ((rd_A2_string l0 x9).f0).toList ((rd_A2_string l0 x9).f1).toList) = true then (if x9 > 0 then (if 0 ≤ (wrap64 (x9 - 1)) then (if (wrap64 (x9 - 1)) < (l0.length : Int) then (if (Op.bytesLess ((rd_A2_string l0 x9).f0).toList ((rd_A2_string l0 (wrap64 (x9 - 1))).f0).toList) = true then (some false) else (if ((rd_A2_string l0 (wrap64 (x9 - 1))).f0).toList = ((rd_A2_string l0 x9).f0).toList then (if (Op.bytesLess ((rd_A2_string l0 (wrap64 (x9 - 1))).f1).toList ((rd_A2_string l0 x9).f1).toList) = true then (impl_foesOk.l0 k l0 a1 (wrap64 (x9 + 1))) else (some false)) else (impl_foesOk.l0 k l0 a1 (wrap64 (x9 + 1))))) else none) else none) else (impl_foesOk.l0 k l0 a1 (wrap64 (x9 + 1)))) else (some false)) else (some false))) else (some false))) else none) else (some (decide ((l0.length : Int) ≤ a1))))
def impl_foesOk.f (k : Nat) (l0 : List S_A2_string) (a1 : Int) : Option (Bool) := (impl_foesOk.l0 k l0 a1 0)
def slices_Index_string_string.l0 : Nat → List ByteArray → ByteArray → Int → Option (Int)
  | 0, _, _, _ => none
  | k + 1, l0, a1, x8 => (if x8 < (l0.length : Int) then (if 0 ≤ x8 then (if a1.toList = (rdOf ByteArray.empty l0 x8).toList then (some x8) else (slices_Index_string_string.l0 k l0 a1 (wrap64 (x8 + 1)))) else none) else (some (-1)))
def slices_Index_string_string.f (k : Nat) (l0 : List ByteArray) (a1 : ByteArray) : Option (Int) := (slices_Index_string_string.l0 k l0 a1 0)
def slices_Contains_string_string.f (k : Nat) (l0 : List ByteArray) (a1 : ByteArray) : Option (Bool) := ((slices_Index_string_string.f k l0 a1).bind fun t372 => (some (decide (t372 ≥ 0))))
def impl_has.f (k : Nat) (l0 : List ByteArray) (a1 : ByteArray) : Option (Bool) := ((slices_Contains_string_string.f k l0 a1).bind fun t374 => (some t374))
def impl_Plant_place.l0 : Nat → List S_impl_PlantPlace → ByteArray → Int → Option (ByteArray × Int × ByteArray × Bool)
  | 0, _, _, _ => none
  | k + 1, a0_2, a1, x11 => (if x11 < (a0_2.length : Int) then (if 0 ≤ x11 then (if ((rd_impl_PlantPlace a0_2 x11).f0).toList = a1.toList then (some ((rd_impl_PlantPlace a0_2 x11).f0, (rd_impl_PlantPlace a0_2 x11).f1, (rd_impl_PlantPlace a0_2 x11).f2, true)) else (impl_Plant_place.l0 k a0_2 a1 (wrap64 (x11 + 1)))) else none) else (some ((⟨#[]⟩ : ByteArray), 0, (⟨#[]⟩ : ByteArray), false)))
def impl_Plant_place.f (k : Nat) (a0_0 : List ByteArray) (a0_1 : List S_impl_PlantFoe) (a0_2 : List S_impl_PlantPlace) (a0_3 : List S_impl_PlantValve) (a1 : ByteArray) : Option (ByteArray × Int × ByteArray × Bool) := (impl_Plant_place.l0 k a0_2 a1 0)
mutual
def impl_PlantValid.j0 : Nat → List ByteArray → List S_impl_PlantFoe → List S_impl_PlantPlace → List S_impl_PlantValve → Int → Bool → Option (Bool)
  | 0, _, _, _, _, _, _ => none
  | k + 1, a0_0, a0_1, a0_2, a0_3, x111, x170 => (if x170 = true then (some false) else (impl_PlantValid.l2 k a0_0 a0_1 a0_2 a0_3 (wrap64 (x111 + 1))))
def impl_PlantValid.l2 : Nat → List ByteArray → List S_impl_PlantFoe → List S_impl_PlantPlace → List S_impl_PlantValve → Int → Option (Bool)
  | 0, _, _, _, _, _ => none
  | k + 1, a0_0, a0_1, a0_2, a0_3, x111 => (if x111 < (a0_3.length : Int) then (if 0 ≤ x111 then ((impl_Plant_place.f k a0_0 a0_1 a0_2 a0_3 ((rd_impl_PlantValve a0_3 x111).f1)).bind fun t449 => ((impl_Plant_place.f k a0_0 a0_1 a0_2 a0_3 ((rd_impl_PlantValve a0_3 x111).f2)).bind fun t450 => ((impl_isName.f k ((rd_impl_PlantValve a0_3 x111).f0)).bind fun t453 => (if t453 = true then (if t449.2.2.2 = true then (if t450.2.2.2 = true then (if (Op.bytesLess ((rd_impl_PlantValve a0_3 x111).f1).toList ((rd_impl_PlantValve a0_3 x111).f2).toList) = true then ((impl_isName.f k ((rd_impl_PlantValve a0_3 x111).f3)).bind fun t454 => (if t454 = true then (if x111 > 0 then (if 0 ≤ (wrap64 (x111 - 1)) then (if (wrap64 (x111 - 1)) < (a0_3.length : Int) then (impl_PlantValid.j0 k a0_0 a0_1 a0_2 a0_3 x111 (!(Op.bytesLess ((rd_impl_PlantValve a0_3 (wrap64 (x111 - 1))).f0).toList ((rd_impl_PlantValve a0_3 x111).f0).toList))) else none) else none) else (impl_PlantValid.j0 k a0_0 a0_1 a0_2 a0_3 x111 false)) else (impl_PlantValid.j0 k a0_0 a0_1 a0_2 a0_3 x111 true))) else (impl_PlantValid.j0 k a0_0 a0_1 a0_2 a0_3 x111 true)) else (impl_PlantValid.j0 k a0_0 a0_1 a0_2 a0_3 x111 true)) else (impl_PlantValid.j0 k a0_0 a0_1 a0_2 a0_3 x111 true)) else (impl_PlantValid.j0 k a0_0 a0_1 a0_2 a0_3 x111 true))))) else none) else (some true))
end
def impl_PlantValid.l1 : Nat → List ByteArray → List S_impl_PlantFoe → List S_impl_PlantPlace → List S_impl_PlantValve → Int → Option (Bool)
  | 0, _, _, _, _, _ => none
  | k + 1, a0_0, a0_1, a0_2, a0_3, x66 => (if x66 < (a0_2.length : Int) then (if 0 ≤ x66 then ((impl_isName.f k ((rd_impl_PlantPlace a0_2 x66).f0)).bind fun t431 => (if t431 = true then (if ((rd_impl_PlantPlace a0_2 x66).f1) < 0 then (some false) else (if ((rd_impl_PlantPlace a0_2 x66).f1) > 1000 then (some false) else ((impl_isName.f k ((rd_impl_PlantPlace a0_2 x66).f2)).bind fun t432 => (if t432 = true then (if x66 > 0 then (if 0 ≤ (wrap64 (x66 - 1)) then (if (wrap64 (x66 - 1)) < (a0_2.length : Int) then (if (Op.bytesLess ((rd_impl_PlantPlace a0_2 (wrap64 (x66 - 1))).f0).toList ((rd_impl_PlantPlace a0_2 x66).f0).toList) = true then (impl_PlantValid.l1 k a0_0 a0_1 a0_2 a0_3 (wrap64 (x66 + 1))) else (some false)) else none) else none) else (impl_PlantValid.l1 k a0_0 a0_1 a0_2 a0_3 (wrap64 (x66 + 1)))) else (some false))))) else (some false))) else none) else (impl_PlantValid.l2 k a0_0 a0_1 a0_2 a0_3 0))
def impl_PlantValid.l0 : Nat → List ByteArray → List S_impl_PlantFoe → List S_impl_PlantPlace → List S_impl_PlantValve → Int → Option (Bool)
  | 0, _, _, _, _, _ => none
  | k + 1, a0_0, a0_1, a0_2, a0_3, x44 => (if x44 < (a0_1.length : Int) then (if 0 ≤ x44 then ((impl_has.f k a0_0 ((rd_impl_PlantFoe a0_1 x44).f0)).bind fun t423 => (if t423 = true then ((impl_has.f k a0_0 ((rd_impl_PlantFoe a0_1 x44).f1)).bind fun t424 => (if t424 = true then (impl_PlantValid.l0 k a0_0 a0_1 a0_2 a0_3 (wrap64 (x44 + 1))) else (some false))) else (some false))) else none) else (impl_PlantValid.l1 k a0_0 a0_1 a0_2 a0_3 0))
def impl_PlantValid.f (k : Nat) (a0_0 : List ByteArray) (a0_1 : List S_impl_PlantFoe) (a0_2 : List S_impl_PlantPlace) (a0_3 : List S_impl_PlantValve) : Option (Bool) := (if (a0_0.length : Int) > 8 then (some false) else ((impl_names.f k a0_0).bind fun t414 => (if t414 = true then ((impl_Plant_pairs.f k a0_0 a0_1 a0_2 a0_3).bind fun t415 => ((impl_foesOk.f k t415 12).bind fun t416 => (if t416 = true then (if (a0_2.length : Int) > 14 then (some false) else (if (a0_3.length : Int) > 18 then (some false) else (impl_PlantValid.l0 k a0_0 a0_1 a0_2 a0_3 0))) else (some false)))) else (some false))))
def strconv_Itoa.f (x0 : Int) : Option (ByteArray) := itoaSf x0
def impl_PlantPrint.l3 : Nat → List S_impl_PlantValve → ByteArray → Int → Option (ByteArray)
  | 0, _, _, _ => none
  | k + 1, a0_3, x3_3, x85 => (if x85 < (a0_3.length : Int) then (if 0 ≤ x85 then (if (((⟨#[118, 97, 108, 118, 101, 32]⟩ : ByteArray).size + ((rd_impl_PlantValve a0_3 x85).f0).size : Nat) : Int) ≤ 9223372036854775807 then (if ((((⟨#[118, 97, 108, 118, 101, 32]⟩ : ByteArray) ++ ((rd_impl_PlantValve a0_3 x85).f0)).size + (⟨#[32]⟩ : ByteArray).size : Nat) : Int) ≤ 9223372036854775807 then (if (((((⟨#[118, 97, 108, 118, 101, 32]⟩ : ByteArray) ++ ((rd_impl_PlantValve a0_3 x85).f0)) ++ (⟨#[32]⟩ : ByteArray)).size + ((rd_impl_PlantValve a0_3 x85).f1).size : Nat) : Int) ≤ 9223372036854775807 then (if ((((((⟨#[118, 97, 108, 118, 101, 32]⟩ : ByteArray) ++ ((rd_impl_PlantValve a0_3 x85).f0)) ++ (⟨#[32]⟩ : ByteArray)) ++ ((rd_impl_PlantValve a0_3 x85).f1)).size + (⟨#[32]⟩ : ByteArray).size : Nat) : Int) ≤ 9223372036854775807 then (if (((((((⟨#[118, 97, 108, 118, 101, 32]⟩ : ByteArray) ++ ((rd_impl_PlantValve a0_3 x85).f0)) ++ (⟨#[32]⟩ : ByteArray)) ++ ((rd_impl_PlantValve a0_3 x85).f1)) ++ (⟨#[32]⟩ : ByteArray)).size + ((rd_impl_PlantValve a0_3 x85).f2).size : Nat) : Int) ≤ 9223372036854775807 then (if ((((((((⟨#[118, 97, 108, 118, 101, 32]⟩ : ByteArray) ++ ((rd_impl_PlantValve a0_3 x85).f0)) ++ (⟨#[32]⟩ : ByteArray)) ++ ((rd_impl_PlantValve a0_3 x85).f1)) ++ (⟨#[32]⟩ : ByteArray)) ++ ((rd_impl_PlantValve a0_3 x85).f2)).size + (⟨#[32]⟩ : ByteArray).size : Nat) : Int) ≤ 9223372036854775807 then (if (((((((((⟨#[118, 97, 108, 118, 101, 32]⟩ : ByteArray) ++ ((rd_impl_PlantValve a0_3 x85).f0)) ++ (⟨#[32]⟩ : ByteArray)) ++ ((rd_impl_PlantValve a0_3 x85).f1)) ++ (⟨#[32]⟩ : ByteArray)) ++ ((rd_impl_PlantValve a0_3 x85).f2)) ++ (⟨#[32]⟩ : ByteArray)).size + ((rd_impl_PlantValve a0_3 x85).f3).size : Nat) : Int) ≤ 9223372036854775807 then (if ((((((((((⟨#[118, 97, 108, 118, 101, 32]⟩ : ByteArray) ++ ((rd_impl_PlantValve a0_3 x85).f0)) ++ (⟨#[32]⟩ : ByteArray)) ++ ((rd_impl_PlantValve a0_3 x85).f1)) ++ (⟨#[32]⟩ : ByteArray)) ++ ((rd_impl_PlantValve a0_3 x85).f2)) ++ (⟨#[32]⟩ : ByteArray)) ++ ((rd_impl_PlantValve a0_3 x85).f3)).size + (⟨#[10]⟩ : ByteArray).size : Nat) : Int) ≤ 9223372036854775807 then (if ((x3_3.size + (((((((((⟨#[118, 97, 108, 118, 101, 32]⟩ : ByteArray) ++ ((rd_impl_PlantValve a0_3 x85).f0)) ++ (⟨#[32]⟩ : ByteArray)) ++ ((rd_impl_PlantValve a0_3 x85).f1)) ++ (⟨#[32]⟩ : ByteArray)) ++ ((rd_impl_PlantValve a0_3 x85).f2)) ++ (⟨#[32]⟩ : ByteArray)) ++ ((rd_impl_PlantValve a0_3 x85).f3)) ++ (⟨#[10]⟩ : ByteArray)).size : Nat) : Int) ≤ 9223372036854775807 then (impl_PlantPrint.l3 k a0_3 (x3_3 ++ (((((((((⟨#[118, 97, 108, 118, 101, 32]⟩ : ByteArray) ++ ((rd_impl_PlantValve a0_3 x85).f0)) ++ (⟨#[32]⟩ : ByteArray)) ++ ((rd_impl_PlantValve a0_3 x85).f1)) ++ (⟨#[32]⟩ : ByteArray)) ++ ((rd_impl_PlantValve a0_3 x85).f2)) ++ (⟨#[32]⟩ : ByteArray)) ++ ((rd_impl_PlantValve a0_3 x85).f3)) ++ (⟨#[10]⟩ : ByteArray))) (wrap64 (x85 + 1))) else none) else none) else none) else none) else none) else none) else none) else none) else none) else none) else (some x3_3))
def impl_PlantPrint.l2 : Nat → List S_impl_PlantPlace → List S_impl_PlantValve → ByteArray → Int → Option (ByteArray)
  | 0, _, _, _, _ => none
  | k + 1, a0_2, a0_3, x3_2, x49 => (if x49 < (a0_2.length : Int) then (if 0 ≤ x49 then (if ((rd_impl_PlantPlace a0_2 x49).f1) > 0 then (if (((⟨#[118, 101, 115, 115, 101, 108, 32]⟩ : ByteArray).size + ((rd_impl_PlantPlace a0_2 x49).f0).size : Nat) : Int) ≤ 9223372036854775807 then (if ((((⟨#[118, 101, 115, 115, 101, 108, 32]⟩ : ByteArray) ++ ((rd_impl_PlantPlace a0_2 x49).f0)).size + (⟨#[32]⟩ : ByteArray).size : Nat) : Int) ≤ 9223372036854775807 then ((strconv_Itoa.f ((rd_impl_PlantPlace a0_2 x49).f1)).bind fun t460 => (if (((((⟨#[118, 101, 115, 115, 101, 108, 32]⟩ : ByteArray) ++ ((rd_impl_PlantPlace a0_2 x49).f0)) ++ (⟨#[32]⟩ : ByteArray)).size + t460.size : Nat) : Int) ≤ 9223372036854775807 then (if ((((((⟨#[118, 101, 115, 115, 101, 108, 32]⟩ : ByteArray) ++ ((rd_impl_PlantPlace a0_2 x49).f0)) ++ (⟨#[32]⟩ : ByteArray)) ++ t460).size + (⟨#[32]⟩ : ByteArray).size : Nat) : Int) ≤ 9223372036854775807 then (if (((((((⟨#[118, 101, 115, 115, 101, 108, 32]⟩ : ByteArray) ++ ((rd_impl_PlantPlace a0_2 x49).f0)) ++ (⟨#[32]⟩ : ByteArray)) ++ t460) ++ (⟨#[32]⟩ : ByteArray)).size + ((rd_impl_PlantPlace a0_2 x49).f2).size : Nat) : Int) ≤ 9223372036854775807 then (if ((((((((⟨#[118, 101, 115, 115, 101, 108, 32]⟩ : ByteArray) ++ ((rd_impl_PlantPlace a0_2 x49).f0)) ++ (⟨#[32]⟩ : ByteArray)) ++ t460) ++ (⟨#[32]⟩ : ByteArray)) ++ ((rd_impl_PlantPlace a0_2 x49).f2)).size + (⟨#[10]⟩ : ByteArray).size : Nat) : Int) ≤ 9223372036854775807 then (if ((x3_2.size + (((((((⟨#[118, 101, 115, 115, 101, 108, 32]⟩ : ByteArray) ++ ((rd_impl_PlantPlace a0_2 x49).f0)) ++ (⟨#[32]⟩ : ByteArray)) ++ t460) ++ (⟨#[32]⟩ : ByteArray)) ++ ((rd_impl_PlantPlace a0_2 x49).f2)) ++ (⟨#[10]⟩ : ByteArray)).size : Nat) : Int) ≤ 9223372036854775807 then (impl_PlantPrint.l2 k a0_2 a0_3 (x3_2 ++ (((((((⟨#[118, 101, 115, 115, 101, 108, 32]⟩ : ByteArray) ++ ((rd_impl_PlantPlace a0_2 x49).f0)) ++ (⟨#[32]⟩ : ByteArray)) ++ t460) ++ (⟨#[32]⟩ : ByteArray)) ++ ((rd_impl_PlantPlace a0_2 x49).f2)) ++ (⟨#[10]⟩ : ByteArray))) (wrap64 (x49 + 1))) else none) else none) else none) else none) else none)) else none) else none) else (if (((⟨#[106, 111, 105, 110, 116, 32]⟩ : ByteArray).size + ((rd_impl_PlantPlace a0_2 x49).f0).size : Nat) : Int) ≤ 9223372036854775807 then (if ((((⟨#[106, 111, 105, 110, 116, 32]⟩ : ByteArray) ++ ((rd_impl_PlantPlace a0_2 x49).f0)).size + (⟨#[32]⟩ : ByteArray).size : Nat) : Int) ≤ 9223372036854775807 then (if (((((⟨#[106, 111, 105, 110, 116, 32]⟩ : ByteArray) ++ ((rd_impl_PlantPlace a0_2 x49).f0)) ++ (⟨#[32]⟩ : ByteArray)).size + ((rd_impl_PlantPlace a0_2 x49).f2).size : Nat) : Int) ≤ 9223372036854775807 then (if ((((((⟨#[106, 111, 105, 110, 116, 32]⟩ : ByteArray) ++ ((rd_impl_PlantPlace a0_2 x49).f0)) ++ (⟨#[32]⟩ : ByteArray)) ++ ((rd_impl_PlantPlace a0_2 x49).f2)).size + (⟨#[10]⟩ : ByteArray).size : Nat) : Int) ≤ 9223372036854775807 then (if ((x3_2.size + (((((⟨#[106, 111, 105, 110, 116, 32]⟩ : ByteArray) ++ ((rd_impl_PlantPlace a0_2 x49).f0)) ++ (⟨#[32]⟩ : ByteArray)) ++ ((rd_impl_PlantPlace a0_2 x49).f2)) ++ (⟨#[10]⟩ : ByteArray)).size : Nat) : Int) ≤ 9223372036854775807 then (impl_PlantPrint.l2 k a0_2 a0_3 (x3_2 ++ (((((⟨#[106, 111, 105, 110, 116, 32]⟩ : ByteArray) ++ ((rd_impl_PlantPlace a0_2 x49).f0)) ++ (⟨#[32]⟩ : ByteArray)) ++ ((rd_impl_PlantPlace a0_2 x49).f2)) ++ (⟨#[10]⟩ : ByteArray))) (wrap64 (x49 + 1))) else none) else none) else none) else none) else none)) else none) else (impl_PlantPrint.l3 k a0_3 x3_2 0))
def impl_PlantPrint.l1 : Nat → List S_impl_PlantFoe → List S_impl_PlantPlace → List S_impl_PlantValve → ByteArray → Int → Option (ByteArray)
  | 0, _, _, _, _, _ => none
  | k + 1, a0_1, a0_2, a0_3, x3_1, x31 => (if x31 < (a0_1.length : Int) then (if 0 ≤ x31 then (if (((⟨#[102, 111, 101, 32]⟩ : ByteArray).size + ((rd_impl_PlantFoe a0_1 x31).f0).size : Nat) : Int) ≤ 9223372036854775807 then (if ((((⟨#[102, 111, 101, 32]⟩ : ByteArray) ++ ((rd_impl_PlantFoe a0_1 x31).f0)).size + (⟨#[32]⟩ : ByteArray).size : Nat) : Int) ≤ 9223372036854775807 then (if (((((⟨#[102, 111, 101, 32]⟩ : ByteArray) ++ ((rd_impl_PlantFoe a0_1 x31).f0)) ++ (⟨#[32]⟩ : ByteArray)).size + ((rd_impl_PlantFoe a0_1 x31).f1).size : Nat) : Int) ≤ 9223372036854775807 then (if ((((((⟨#[102, 111, 101, 32]⟩ : ByteArray) ++ ((rd_impl_PlantFoe a0_1 x31).f0)) ++ (⟨#[32]⟩ : ByteArray)) ++ ((rd_impl_PlantFoe a0_1 x31).f1)).size + (⟨#[10]⟩ : ByteArray).size : Nat) : Int) ≤ 9223372036854775807 then (if ((x3_1.size + (((((⟨#[102, 111, 101, 32]⟩ : ByteArray) ++ ((rd_impl_PlantFoe a0_1 x31).f0)) ++ (⟨#[32]⟩ : ByteArray)) ++ ((rd_impl_PlantFoe a0_1 x31).f1)) ++ (⟨#[10]⟩ : ByteArray)).size : Nat) : Int) ≤ 9223372036854775807 then (impl_PlantPrint.l1 k a0_1 a0_2 a0_3 (x3_1 ++ (((((⟨#[102, 111, 101, 32]⟩ : ByteArray) ++ ((rd_impl_PlantFoe a0_1 x31).f0)) ++ (⟨#[32]⟩ : ByteArray)) ++ ((rd_impl_PlantFoe a0_1 x31).f1)) ++ (⟨#[10]⟩ : ByteArray))) (wrap64 (x31 + 1))) else none) else none) else none) else none) else none) else none) else (impl_PlantPrint.l2 k a0_2 a0_3 x3_1 0))
def impl_PlantPrint.l0 : Nat → List ByteArray → List S_impl_PlantFoe → List S_impl_PlantPlace → List S_impl_PlantValve → ByteArray → Int → Option (ByteArray)
  | 0, _, _, _, _, _, _ => none
  | k + 1, a0_0, a0_1, a0_2, a0_3, x3, x18 => (if x18 < (a0_0.length : Int) then (if 0 ≤ x18 then (if (((⟨#[115, 116, 117, 102, 102, 32]⟩ : ByteArray).size + (rdOf ByteArray.empty a0_0 x18).size : Nat) : Int) ≤ 9223372036854775807 then (if ((((⟨#[115, 116, 117, 102, 102, 32]⟩ : ByteArray) ++ (rdOf ByteArray.empty a0_0 x18)).size + (⟨#[10]⟩ : ByteArray).size : Nat) : Int) ≤ 9223372036854775807 then (if ((x3.size + (((⟨#[115, 116, 117, 102, 102, 32]⟩ : ByteArray) ++ (rdOf ByteArray.empty a0_0 x18)) ++ (⟨#[10]⟩ : ByteArray)).size : Nat) : Int) ≤ 9223372036854775807 then (impl_PlantPrint.l0 k a0_0 a0_1 a0_2 a0_3 (x3 ++ (((⟨#[115, 116, 117, 102, 102, 32]⟩ : ByteArray) ++ (rdOf ByteArray.empty a0_0 x18)) ++ (⟨#[10]⟩ : ByteArray))) (wrap64 (x18 + 1))) else none) else none) else none) else none) else (impl_PlantPrint.l1 k a0_1 a0_2 a0_3 x3 0))
def impl_PlantPrint.f (k : Nat) (a0_0 : List ByteArray) (a0_1 : List S_impl_PlantFoe) (a0_2 : List S_impl_PlantPlace) (a0_3 : List S_impl_PlantValve) : Option (ByteArray) := ((impl_PlantValid.f k a0_0 a0_1 a0_2 a0_3).bind fun t457 => (if t457 = true then (impl_PlantPrint.l0 k a0_0 a0_1 a0_2 a0_3 (⟨#[]⟩ : ByteArray) 0) else (some (⟨#[]⟩ : ByteArray))))
def laws_eqStringS.l0 : Nat → List ByteArray → List ByteArray → Int → Option (Bool)
  | 0, _, _, _ => none
  | k + 1, l0, l1, x5 => (if x5 < (l0.length : Int) then (if 0 ≤ x5 then (if x5 < (l1.length : Int) then (if (rdOf ByteArray.empty l0 x5).toList = (rdOf ByteArray.empty l1 x5).toList then (laws_eqStringS.l0 k l0 l1 (wrap64 (x5 + 1))) else (some false)) else none) else none) else (some true))
def laws_eqStringS.f (k : Nat) (l0 : List ByteArray) (l1 : List ByteArray) : Option (Bool) := (if (l0.length : Int) = (l1.length : Int) then (laws_eqStringS.l0 k l0 l1 0) else (some false))
def laws_eqPlantFoe.f (a0_0 : ByteArray) (a0_1 : ByteArray) (a1_0 : ByteArray) (a1_1 : ByteArray) : Option (Bool) := (if a0_0.toList = a1_0.toList then (if a0_1.toList = a1_1.toList then (some true) else (some false)) else (some false))
def laws_eqPlantFoeS.l0 : Nat → List S_impl_PlantFoe → List S_impl_PlantFoe → Int → Option (Bool)
  | 0, _, _, _ => none
  | k + 1, l0, l1, x5 => (if x5 < (l0.length : Int) then (if 0 ≤ x5 then (if x5 < (l1.length : Int) then ((laws_eqPlantFoe.f ((rd_impl_PlantFoe l0 x5).f0) ((rd_impl_PlantFoe l0 x5).f1) ((rd_impl_PlantFoe l1 x5).f0) ((rd_impl_PlantFoe l1 x5).f1)).bind fun t514 => (if t514 = true then (laws_eqPlantFoeS.l0 k l0 l1 (wrap64 (x5 + 1))) else (some false))) else none) else none) else (some true))
def laws_eqPlantFoeS.f (k : Nat) (l0 : List S_impl_PlantFoe) (l1 : List S_impl_PlantFoe) : Option (Bool) := (if (l0.length : Int) = (l1.length : Int) then (laws_eqPlantFoeS.l0 k l0 l1 0) else (some false))
def laws_eqPlantPlace.f (a0_0 : ByteArray) (a0_1 : Int) (a0_2 : ByteArray) (a1_0 : ByteArray) (a1_1 : Int) (a1_2 : ByteArray) : Option (Bool) := (if a0_0.toList = a1_0.toList then (if a0_1 = a1_1 then (if a0_2.toList = a1_2.toList then (some true) else (some false)) else (some false)) else (some false))
def laws_eqPlantPlaceS.l0 : Nat → List S_impl_PlantPlace → List S_impl_PlantPlace → Int → Option (Bool)
  | 0, _, _, _ => none
  | k + 1, l0, l1, x5 => (if x5 < (l0.length : Int) then (if 0 ≤ x5 then (if x5 < (l1.length : Int) then ((laws_eqPlantPlace.f ((rd_impl_PlantPlace l0 x5).f0) ((rd_impl_PlantPlace l0 x5).f1) ((rd_impl_PlantPlace l0 x5).f2) ((rd_impl_PlantPlace l1 x5).f0) ((rd_impl_PlantPlace l1 x5).f1) ((rd_impl_PlantPlace l1 x5).f2)).bind fun t552 => (if t552 = true then (laws_eqPlantPlaceS.l0 k l0 l1 (wrap64 (x5 + 1))) else (some false))) else none) else none) else (some true))
def laws_eqPlantPlaceS.f (k : Nat) (l0 : List S_impl_PlantPlace) (l1 : List S_impl_PlantPlace) : Option (Bool) := (if (l0.length : Int) = (l1.length : Int) then (laws_eqPlantPlaceS.l0 k l0 l1 0) else (some false))
def laws_eqPlantValve.f (a0_0 : ByteArray) (a0_1 : ByteArray) (a0_2 : ByteArray) (a0_3 : ByteArray) (a1_0 : ByteArray) (a1_1 : ByteArray) (a1_2 : ByteArray) (a1_3 : ByteArray) : Option (Bool) := (if a0_0.toList = a1_0.toList then (if a0_1.toList = a1_1.toList then (if a0_2.toList = a1_2.toList then (if a0_3.toList = a1_3.toList then (some true) else (some false)) else (some false)) else (some false)) else (some false))
def laws_eqPlantValveS.l0 : Nat → List S_impl_PlantValve → List S_impl_PlantValve → Int → Option (Bool)
  | 0, _, _, _ => none
  | k + 1, l0, l1, x5 => (if x5 < (l0.length : Int) then (if 0 ≤ x5 then (if x5 < (l1.length : Int) then ((laws_eqPlantValve.f ((rd_impl_PlantValve l0 x5).f0) ((rd_impl_PlantValve l0 x5).f1) ((rd_impl_PlantValve l0 x5).f2) ((rd_impl_PlantValve l0 x5).f3) ((rd_impl_PlantValve l1 x5).f0) ((rd_impl_PlantValve l1 x5).f1) ((rd_impl_PlantValve l1 x5).f2) ((rd_impl_PlantValve l1 x5).f3)).bind fun t596 => (if t596 = true then (laws_eqPlantValveS.l0 k l0 l1 (wrap64 (x5 + 1))) else (some false))) else none) else none) else (some true))
def laws_eqPlantValveS.f (k : Nat) (l0 : List S_impl_PlantValve) (l1 : List S_impl_PlantValve) : Option (Bool) := (if (l0.length : Int) = (l1.length : Int) then (laws_eqPlantValveS.l0 k l0 l1 0) else (some false))
def laws_eqPlant.f (k : Nat) (a0_0 : List ByteArray) (a0_1 : List S_impl_PlantFoe) (a0_2 : List S_impl_PlantPlace) (a0_3 : List S_impl_PlantValve) (a1_0 : List ByteArray) (a1_1 : List S_impl_PlantFoe) (a1_2 : List S_impl_PlantPlace) (a1_3 : List S_impl_PlantValve) : Option (Bool) := ((laws_eqStringS.f k a0_0 a1_0).bind fun t599 => (if t599 = true then ((laws_eqPlantFoeS.f k a0_1 a1_1).bind fun t602 => (if t602 = true then ((laws_eqPlantPlaceS.f k a0_2 a1_2).bind fun t605 => (if t605 = true then ((laws_eqPlantValveS.f k a0_3 a1_3).bind fun t608 => (if t608 = true then (some true) else (some false))) else (some false))) else (some false))) else (some false)))
def laws_FnExactPlantPrint.f (k : Nat) (a0_0 : List ByteArray) (a0_1 : List S_laws_PlantFoe) (a0_2 : List S_laws_PlantPlace) (a0_3 : List S_laws_PlantValve) : Option (Bool) := ((laws_szPlant.f k a0_0 a0_1 a0_2 a0_3 1048576).bind fun t610 => (if t610 < 0 then (some true) else ((laws_toPlant.f k a0_0 a0_1 a0_2 a0_3).bind fun t613 => ((spec_PlantPrint.f k t613.1 t613.2.1 t613.2.2.1 t613.2.2.2).bind fun t614 => ((laws_toPlant.f k a0_0 a0_1 a0_2 a0_3).bind fun t616 => ((impl_PlantPrint.f k t616.1 t616.2.1 t616.2.2.1 t616.2.2.2).bind fun t618 => (if t618.toList = t614.toList then ((laws_toPlant.f k a0_0 a0_1 a0_2 a0_3).bind fun t623 => ((laws_eqPlant.f k t616.1 t616.2.1 t616.2.2.1 t616.2.2.2 t623.1 t623.2.1 t623.2.2.1 t623.2.2.2).bind fun t624 => (if t624 = true then (some true) else (some false)))) else (some false))))))))
end Go.Proofs.YteflhnpcgoijfaaDoor.PP
namespace Go.Proofs.YteflhnpcgoijfaaDoor.Pure
open Go Go.RowKit Go.Aw Go.Proofs.YteflhnpcgoijfaaDoor.PP
set_option linter.unusedVariables false
set_option linter.unusedSimpArgs false
/-! ### general words -/
theorem ev_pos {α : Type} {c : Prop} {d : Decidable c} {g f : Nat → Option α} {r : α} (h : c) (k : Ev g r) : Ev (fun n => @ite _ c d (g n) (f n)) r := Ev.congr (fun _ => if_pos h) k
theorem ev_neg {α : Type} {c : Prop} {d : Decidable c} {g f : Nat → Option α} {r : α} (h : ¬ c) (k : Ev f r) : Ev (fun n => @ite _ c d (g n) (f n)) r := Ev.congr (fun _ => if_neg h) k
theorem ev_ret {α : Type} {a r : α} (h : a = r) : Ev (fun _ => some a) r := h ▸ Ev.now a
theorem ev_let {α β : Type} {g : Option α} {a : α} {r : β} {f : Nat → α → Option β} (h : g = some a) (k : Ev (fun n => f n a) r) : Ev (fun n => g.bind (f n)) r := by
  subst h; exact k
theorem ev_eq {α : Type} {g : Nat → Option α} {a r : α} (k : Ev g a) (h : a = r) : Ev g r := h ▸ k
theorem ev_split {α : Type} {c : Prop} {d : Decidable c} {g f : Nat → Option α} {r : α} (h : c → Ev g r) (k : ¬ c → Ev f r) : Ev (fun n => @ite _ c d (g n) (f n)) r := by
  by_cases q : c
  · exact ev_pos q (h q)
  · exact ev_neg q (k q)
/-- a value that is called on -/
theorem ev_of {α β : Type} {g : Nat → Option α} {a : α} {r : β} {f : Nat → α → Option β} (h : Ev g a) (k : Ev (fun n => f n a) r) : Ev (fun n => (g n).bind (f n)) r := Ev.bind h k
theorem ex_ret {α : Type} {a : α} : ∃ q, Ev (fun _ => some a) q := ⟨a, Ev.now a⟩
theorem ex_ite {α : Type} {c : Prop} {d : Decidable c} {g f : Nat → Option α} (h : ∃ q, Ev g q) (k : ∃ q, Ev f q) : ∃ q, Ev (fun n => @ite _ c d (g n) (f n)) q := by
  by_cases q : c
  · exact h.imp fun _ e => ev_pos q e
  · exact k.imp fun _ e => ev_neg q e
theorem ex_pos {α : Type} {c : Prop} {d : Decidable c} {g f : Nat → Option α} (h : c) (k : ∃ q, Ev g q) : ∃ q, Ev (fun n => @ite _ c d (g n) (f n)) q := k.imp fun _ e => ev_pos h e
theorem ex_bind {α β : Type} {g : Nat → Option α} {f : Nat → α → Option β} (h : ∃ a, Ev g a) (k : ∀ a, ∃ q, Ev (fun n => f n a) q) : ∃ q, Ev (fun n => (g n).bind (f n)) q := by
  obtain ⟨a, h⟩ := h
  exact (k a).imp fun _ e => Ev.bind h e
theorem ex_step {α : Type} {g f : Nat → Option α} (h : ∀ k, g (k + 1) = f k) (k : ∃ q, Ev f q) : ∃ q, Ev g q := k.imp fun _ e => Ev.step h e
theorem w64 {x : Int} (h0 : -9223372036854775808 ≤ x) (h1 : x ≤ 9223372036854775807) : wrap64 x = x := by unfold wrap64; omega
theorem wsucc {i n : Nat} (h : i < n) (hn : n ≤ 9223372036854775807) : wrap64 ((i : Int) + 1) = ((i + 1 : Nat) : Int) := by unfold wrap64; omega
theorem wplus {a : Int} (h0 : 0 ≤ a) (h1 : a ≤ 4611686018427387904) : wrap64 (a + 1) = a + 1 := by unfold wrap64; omega
theorem pre64 {i : Nat} (h : ¬ i = 0) (hi : i ≤ 9223372036854775807) : wrap64 ((i : Int) - 1) = ((i - 1 : Nat) : Int) := by unfold wrap64; omega
theorem getD_eq {α : Type} (d : α) (xs : List α) (i : Nat) (h : i < xs.length) : xs.getD i d = xs[i] := by
  rw [List.getD_eq_getElem?_getD, List.getElem?_eq_getElem h]; rfl
theorem mem_getD {α : Type} (d : α) (xs : List α) (i : Nat) (h : i < xs.length) : xs.getD i d ∈ xs := by
  rw [getD_eq d xs i h]; exact List.getElem_mem h
theorem getD_set {α : Type} (d : α) (xs : List α) (i j : Nat) (v : α) (h : i < xs.length) : (xs.set i v).getD j d = if j = i then v else xs.getD j d := by
  rw [List.getD_eq_getElem?_getD, List.getD_eq_getElem?_getD, List.getElem?_set]
  by_cases e : i = j
  · subst e; simp [h]
  · rw [if_neg e, if_neg (fun q => e q.symm)]
theorem fill_end {α : Type} (d : α) (z y : List α) (hl : y.length = z.length) (h : ∀ j, j < z.length → y.getD j d = z.getD j d) : y = z := by
  apply List.ext_getElem hl
  intro j h1 h2
  have e := h j h2
  rwa [getD_eq d y j h1, getD_eq d z j h2] at e
theorem fill_step {α : Type} (d : α) (z y : List α) (i : Nat) (hl : y.length = z.length) (hi : i < z.length) (h : ∀ j, j < i → y.getD j d = z.getD j d) (v : α) (hv : v = z.getD i d) :
    (y.set i v).length = z.length ∧ ∀ j, j < i + 1 → (y.set i v).getD j d = z.getD j d := by
  refine ⟨by simpa using hl, fun j hj => ?_⟩
  rw [getD_set d y i j v (by omega)]
  by_cases e : j = i
  · rw [if_pos e, e, hv]
  · rw [if_neg e]; exact h j (by omega)
theorem rdOf_nat {α : Type} (d : α) (xs : List α) (i : Nat) : rdOf d xs (i : Int) = xs.getD i d := by simp [rdOf]
theorem rd_nat (xs : List Int) (i : Nat) : rd xs (i : Int) = xs.getD i 0 := by simp [rd]
theorem map_getD {α β : Type} (e : β) (d : α) (f : α → β) (l : List α) (i : Nat) (h : i < l.length) : (l.map f).getD i e = f (l.getD i d) := by
  rw [getD_eq e _ i (by simpa using h), getD_eq d l i h, List.getElem_map]
/-- a list told from its end: what is left from place i on -/
theorem loopL {α : Type} (d : α) (l : List α) {P : Nat → List α → Prop} (h0 : P l.length []) (hs : ∀ i x r, i < l.length → l.getD i d = x → x ∈ l → l.drop (i + 1) = r → P (i + 1) r → P i (x :: r)) : P 0 l := by
  have key : ∀ (n i : Nat), i + n = l.length → P i (l.drop i) := fun n => by
    induction n with
    | zero =>
      intro i hi
      have e : i = l.length := by omega
      subst e; rw [List.drop_length]; exact h0
    | succ n ih =>
      intro i hi
      have hlt : i < l.length := by omega
      have e : l.drop i = l.getD i d :: l.drop (i + 1) := by rw [List.drop_eq_getElem_cons hlt, getD_eq d l i hlt]
      rw [e]
      exact hs i _ _ hlt rfl (mem_getD d l i hlt) rfl (ih (i + 1) (by omega))
  simpa using key l.length 0 (by omega)
/-- the element ahead of place i -/
def ahead {α : Type} (d : α) (l : List α) (i : Nat) : Option α := if i = 0 then none else some (l.getD (i - 1) d)
theorem ahead_zero {α : Type} (d : α) (l : List α) : ahead d l 0 = none := rfl
theorem ahead_succ {α : Type} (d : α) (l : List α) (i : Nat) : ahead d l (i + 1) = some (l.getD i d) := by simp [ahead]
theorem ahead_pos {α : Type} (d : α) (l : List α) (i : Nat) (h : ¬ i = 0) : ahead d l i = some (l.getD (i - 1) d) := if_neg h
/-! ### the order of bytes -/
theorem bl_irr : ∀ x : List UInt8, Op.bytesLess x x = false
  | [] => rfl
  | a :: x => by simp [Op.bytesLess, bl_irr x]
theorem bl_asym : ∀ x y : List UInt8, Op.bytesLess x y = true → Op.bytesLess y x = false
  | [], [], _ => rfl
  | [], _ :: _, _ => rfl
  | _ :: _, [], h => by simp [Op.bytesLess] at h
  | a :: x, b :: y, h => by
    simp only [Op.bytesLess, Bool.or_eq_true, Bool.and_eq_true, decide_eq_true_eq, beq_iff_eq] at h
    simp only [Op.bytesLess, Bool.or_eq_false_iff, Bool.and_eq_false_iff, decide_eq_false_iff_not, beq_eq_false_iff_ne]
    rcases h with h | ⟨rfl, h⟩
    · exact ⟨UInt8.lt_asymm h, .inl (fun e => by subst e; exact UInt8.lt_irrefl _ h)⟩
    · exact ⟨UInt8.lt_irrefl _, .inr (bl_asym x y h)⟩
theorem bl_tri : ∀ x y : List UInt8, Op.bytesLess x y = true ∨ x = y ∨ Op.bytesLess y x = true
  | [], [] => .inr (.inl rfl)
  | [], _ :: _ => .inl rfl
  | _ :: _, [] => .inr (.inr rfl)
  | a :: x, b :: y => by
    simp only [Op.bytesLess, Bool.or_eq_true, Bool.and_eq_true, decide_eq_true_eq, beq_iff_eq, List.cons.injEq]
    rcases UInt8.lt_or_lt_of_ne (a := a) (b := b) |> fun f => (Classical.em (a = b)).imp id f with rfl | h | h
    · rcases bl_tri x y with q | rfl | q
      · exact .inl (.inr ⟨rfl, q⟩)
      · exact .inr (.inl ⟨rfl, rfl⟩)
      · exact .inr (.inr (.inr ⟨rfl, q⟩))
    · exact .inl (.inl h)
    · exact .inr (.inr (.inl h))
theorem bl_trans : ∀ x y z : List UInt8, Op.bytesLess x y = true → Op.bytesLess y z = true → Op.bytesLess x z = true
  | [], _, _ :: _, _, _ => rfl
  | [], [], [], h, _ => h
  | [], _ :: _, [], _, h => by simp [Op.bytesLess] at h
  | _ :: _, [], _, h, _ => by simp [Op.bytesLess] at h
  | _ :: _, _ :: _, [], _, h => by simp [Op.bytesLess] at h
  | a :: x, b :: y, c :: z, h, k => by
    simp only [Op.bytesLess, Bool.or_eq_true, Bool.and_eq_true, decide_eq_true_eq, beq_iff_eq] at h k ⊢
    rcases h with h | ⟨rfl, h⟩
    · rcases k with k | ⟨rfl, k⟩
      · exact .inl (UInt8.lt_trans h k)
      · exact .inl h
    · rcases k with k | ⟨rfl, k⟩
      · exact .inl k
      · exact .inr ⟨rfl, bl_trans x y z h k⟩
theorem ba_ext {a b : ByteArray} (h : a.toList = b.toList) : a = b := by
  apply ByteArray.ext
  apply Array.ext'
  simpa [ByteArray.toList_eq] using h
theorem ba_iff {a b : ByteArray} : a.toList = b.toList ↔ a = b := ⟨ba_ext, fun h => h ▸ rfl⟩
/-- a text ahead of another -/
def lt (a b : ByteArray) : Bool := Op.bytesLess a.toList b.toList
theorem lt_irr (a : ByteArray) : lt a a = false := bl_irr _
theorem lt_asym {a b : ByteArray} (h : lt a b = true) : lt b a = false := bl_asym _ _ h
theorem lt_trans {a b c : ByteArray} (h : lt a b = true) (k : lt b c = true) : lt a c = true := bl_trans _ _ _ h k
theorem lt_tri (a b : ByteArray) : lt a b = true ∨ a = b ∨ lt b a = true := (bl_tri a.toList b.toList).imp id (·.imp ba_ext id)
theorem lt_ne {a b : ByteArray} (h : lt a b = true) : a ≠ b := fun e => by rw [e, lt_irr] at h; cases h
/-- pair by pair: the first, then the second -/
def befB (a0 a1 b0 b1 : ByteArray) : Bool := lt a0 b0 || (decide (a0 = b0) && lt a1 b1)
/-! ### the laws' own words -/
theorem szStringS_ev (l : List ByteArray) (hl : l.length ≤ 140737488351232) (h : ∀ z ∈ l, z.size ≤ 140737488351232) (a : Int) : ∃ q, Ev (fun k => laws_szStringS.f k l a) q := by
  have key : ∀ b, ∃ q, Ev (fun k => laws_szStringS.l0 k l b 0) q := loopL ByteArray.empty l (P := fun i _ => ∀ b, ∃ q, Ev (fun k => laws_szStringS.l0 k l b (i : Int)) q)
    (fun b => ex_step (fun k => by rw [laws_szStringS.l0]) ⟨_, ev_neg (by omega) (ev_ret rfl)⟩)
    (fun i x r hi hx hm _ ih b => ex_step (fun k => by rw [laws_szStringS.l0]) (ex_pos (by omega) (ex_pos (by omega) (by
      rw [wsucc hi (by omega)]
      exact ex_ite ex_ret (ih _)))))
  unfold laws_szStringS.f
  exact ex_ite ex_ret (key _)
theorem szPlantFoe_ev (x : S_laws_PlantFoe) (h : ok_laws_PlantFoe x) (a : Int) : ∃ q, Ev (fun k => laws_szPlantFoe.f x.f0 x.f1 a) q := by
  have h0 := h.1
  have h1 := h.2
  unfold laws_szPlantFoe.f
  repeat' (first | exact ex_ret | refine ex_ite ?_ ?_ | refine ex_bind ?_ (fun t => ?_))
theorem szPlantFoeS_ev (l : List S_laws_PlantFoe) (hl : l.length ≤ 140737488351232) (h : ∀ z ∈ l, ok_laws_PlantFoe z) (a : Int) : ∃ q, Ev (fun k => laws_szPlantFoeS.f k l a) q := by
  have key : ∀ b, ∃ q, Ev (fun k => laws_szPlantFoeS.l0 k l b 0) q := loopL z_laws_PlantFoe l (P := fun i _ => ∀ b, ∃ q, Ev (fun k => laws_szPlantFoeS.l0 k l b (i : Int)) q)
    (fun b => ex_step (fun k => by rw [laws_szPlantFoeS.l0]) ⟨_, ev_neg (by omega) (ev_ret rfl)⟩)
    (fun i x r hi hx hm _ ih b => ex_step (fun k => by rw [laws_szPlantFoeS.l0]) (ex_pos (by omega) (ex_pos (by omega) (by
      rw [wsucc hi (by omega)]
      refine ex_bind (by rw [show rd_laws_PlantFoe l (i : Int) = x from by unfold rd_laws_PlantFoe; simpa using hx]; exact szPlantFoe_ev x (h x hm) b) (fun t => ex_ite ex_ret (ih _))))))
  unfold laws_szPlantFoeS.f
  exact ex_ite ex_ret (key _)
theorem szPlantPlace_ev (x : S_laws_PlantPlace) (h : ok_laws_PlantPlace x) (a : Int) : ∃ q, Ev (fun k => laws_szPlantPlace.f x.f0 x.f1 x.f2 a) q := by
  have h0 := h.1
  have h1 := h.2.1
  have h2 := h.2.2
  unfold laws_szPlantPlace.f
  repeat' (first | exact ex_ret | refine ex_ite ?_ ?_ | refine ex_bind ?_ (fun t => ?_))
theorem szPlantPlaceS_ev (l : List S_laws_PlantPlace) (hl : l.length ≤ 140737488351232) (h : ∀ z ∈ l, ok_laws_PlantPlace z) (a : Int) : ∃ q, Ev (fun k => laws_szPlantPlaceS.f k l a) q := by
  have key : ∀ b, ∃ q, Ev (fun k => laws_szPlantPlaceS.l0 k l b 0) q := loopL z_laws_PlantPlace l (P := fun i _ => ∀ b, ∃ q, Ev (fun k => laws_szPlantPlaceS.l0 k l b (i : Int)) q)
    (fun b => ex_step (fun k => by rw [laws_szPlantPlaceS.l0]) ⟨_, ev_neg (by omega) (ev_ret rfl)⟩)
    (fun i x r hi hx hm _ ih b => ex_step (fun k => by rw [laws_szPlantPlaceS.l0]) (ex_pos (by omega) (ex_pos (by omega) (by
      rw [wsucc hi (by omega)]
      refine ex_bind (by rw [show rd_laws_PlantPlace l (i : Int) = x from by unfold rd_laws_PlantPlace; simpa using hx]; exact szPlantPlace_ev x (h x hm) b) (fun t => ex_ite ex_ret (ih _))))))
  unfold laws_szPlantPlaceS.f
  exact ex_ite ex_ret (key _)
theorem szPlantValve_ev (x : S_laws_PlantValve) (h : ok_laws_PlantValve x) (a : Int) : ∃ q, Ev (fun k => laws_szPlantValve.f x.f0 x.f1 x.f2 x.f3 a) q := by
  have h0 := h.1
  have h1 := h.2.1
  have h2 := h.2.2.1
  have h3 := h.2.2.2
  unfold laws_szPlantValve.f
  repeat' (first | exact ex_ret | refine ex_ite ?_ ?_ | refine ex_bind ?_ (fun t => ?_))
theorem szPlantValveS_ev (l : List S_laws_PlantValve) (hl : l.length ≤ 140737488351232) (h : ∀ z ∈ l, ok_laws_PlantValve z) (a : Int) : ∃ q, Ev (fun k => laws_szPlantValveS.f k l a) q := by
  have key : ∀ b, ∃ q, Ev (fun k => laws_szPlantValveS.l0 k l b 0) q := loopL z_laws_PlantValve l (P := fun i _ => ∀ b, ∃ q, Ev (fun k => laws_szPlantValveS.l0 k l b (i : Int)) q)
    (fun b => ex_step (fun k => by rw [laws_szPlantValveS.l0]) ⟨_, ev_neg (by omega) (ev_ret rfl)⟩)
    (fun i x r hi hx hm _ ih b => ex_step (fun k => by rw [laws_szPlantValveS.l0]) (ex_pos (by omega) (ex_pos (by omega) (by
      rw [wsucc hi (by omega)]
      refine ex_bind (by rw [show rd_laws_PlantValve l (i : Int) = x from by unfold rd_laws_PlantValve; simpa using hx]; exact szPlantValve_ev x (h x hm) b) (fun t => ex_ite ex_ret (ih _))))))
  unfold laws_szPlantValveS.f
  exact ex_ite ex_ret (key _)
theorem szPlant_ev (x : S_laws_Plant) (h : ok_laws_Plant x) (a : Int) : ∃ q, Ev (fun k => laws_szPlant.f k x.f0 x.f1 x.f2 x.f3 a) q := by
  have h0 := h.1
  have h1 := h.2.1
  have h2 := h.2.2.1
  have h3 := h.2.2.2
  unfold laws_szPlant.f
  repeat' (first | exact ex_ret | with_reducible exact szStringS_ev _ (by have := h0.1; omega) (h0.2) _ | with_reducible exact szPlantFoeS_ev _ (by have := h1.1; omega) (h1.2) _ | with_reducible exact szPlantPlaceS_ev _ (by have := h2.1; omega) (h2.2) _ | with_reducible exact szPlantValveS_ev _ (by have := h3.1; omega) (h3.2) _ | refine ex_ite ?_ ?_ | refine ex_bind ?_ (fun t => ?_))
theorem toStringS_ev (l : List ByteArray) (hl : l.length ≤ 8796093022208) : Ev (fun k => laws_toStringS.f k l) l := by
  unfold laws_toStringS.f
  refine ev_pos (by omega) ?_
  refine loopL ByteArray.empty l (P := fun i _ => ∀ y : List ByteArray, y.length = l.length → (∀ j, j < i → y.getD j ByteArray.empty = l.getD j ByteArray.empty) → Ev (fun k => laws_toStringS.l0 k l y (i : Int)) l)
    (fun y hyl hy => by
      obtain rfl := fill_end ByteArray.empty l y hyl (fun j hj => hy j hj)
      refine Ev.step (fun k => by rw [laws_toStringS.l0]) (ev_neg (by omega) (ev_ret rfl)))
    (fun i x r hi hx hm _ ih y hyl hy => by
      refine Ev.step (fun k => by rw [laws_toStringS.l0]) (ev_pos (by omega) (ev_pos (by omega) (ev_pos (by omega) ?_)))
      rw [wsucc hi (by omega), Int.toNat_natCast, rdOf_nat]
      obtain ⟨h1, h2⟩ := fill_step ByteArray.empty l y i hyl hi hy (l.getD i ByteArray.empty) rfl
      exact ih _ h1 h2) _ (by simp) (fun j hj => absurd hj (Nat.not_lt_zero _))
def cv_laws_PlantFoe (x : S_laws_PlantFoe) : S_impl_PlantFoe := ⟨x.f0, x.f1⟩
theorem toPlantFoe_ev (x : S_laws_PlantFoe) (h : ok_laws_PlantFoe x) : Ev (fun k => laws_toPlantFoe.f x.f0 x.f1) ((cv_laws_PlantFoe x).f0, (cv_laws_PlantFoe x).f1) := by
  have h0 := h.1
  have h1 := h.2
  unfold laws_toPlantFoe.f
  repeat' (first | exact ev_ret rfl)
theorem toPlantFoeS_ev (l : List S_laws_PlantFoe) (hl : l.length ≤ 4398046511104) (h : ∀ z ∈ l, ok_laws_PlantFoe z) : Ev (fun k => laws_toPlantFoeS.f k l) (l.map cv_laws_PlantFoe) := by
  unfold laws_toPlantFoeS.f
  refine ev_pos (by omega) ?_
  refine loopL z_laws_PlantFoe l (P := fun i _ => ∀ y : List S_impl_PlantFoe, y.length = l.length → (∀ j, j < i → y.getD j z_impl_PlantFoe = (l.map cv_laws_PlantFoe).getD j z_impl_PlantFoe) → Ev (fun k => laws_toPlantFoeS.l0 k l y (i : Int)) (l.map cv_laws_PlantFoe))
    (fun y hyl hy => by
      obtain rfl := fill_end z_impl_PlantFoe (l.map cv_laws_PlantFoe) y (by simpa using hyl) (fun j hj => hy j (by simpa using hj))
      refine Ev.step (fun k => by rw [laws_toPlantFoeS.l0]) (ev_neg (by omega) (ev_ret rfl)))
    (fun i x r hi hx hm _ ih y hyl hy => by
      refine Ev.step (fun k => by rw [laws_toPlantFoeS.l0]) (ev_pos (by omega) (ev_pos (by omega) ?_))
      rw [wsucc hi (by omega), Int.toNat_natCast, show rd_laws_PlantFoe l (i : Int) = x from by unfold rd_laws_PlantFoe; simpa using hx]
      refine Ev.bind (toPlantFoe_ev x (h x hm)) (ev_pos (by omega) ?_)
      obtain ⟨h1, h2⟩ := fill_step z_impl_PlantFoe (l.map cv_laws_PlantFoe) y i (by simpa using hyl) (by simpa using hi) hy (cv_laws_PlantFoe x) (by rw [map_getD z_impl_PlantFoe z_laws_PlantFoe _ l i hi, hx])
      exact ih _ (by rw [h1]; simp) h2) _ (by simp) (fun j hj => absurd hj (Nat.not_lt_zero _))
def cv_laws_PlantPlace (x : S_laws_PlantPlace) : S_impl_PlantPlace := ⟨x.f0, x.f1, x.f2⟩
theorem toPlantPlace_ev (x : S_laws_PlantPlace) (h : ok_laws_PlantPlace x) : Ev (fun k => laws_toPlantPlace.f x.f0 x.f1 x.f2) ((cv_laws_PlantPlace x).f0, (cv_laws_PlantPlace x).f1, (cv_laws_PlantPlace x).f2) := by
  have h0 := h.1
  have h1 := h.2.1
  have h2 := h.2.2
  unfold laws_toPlantPlace.f
  repeat' (first | exact ev_ret rfl)
theorem toPlantPlaceS_ev (l : List S_laws_PlantPlace) (hl : l.length ≤ 3518437208883) (h : ∀ z ∈ l, ok_laws_PlantPlace z) : Ev (fun k => laws_toPlantPlaceS.f k l) (l.map cv_laws_PlantPlace) := by
  unfold laws_toPlantPlaceS.f
  refine ev_pos (by omega) ?_
  refine loopL z_laws_PlantPlace l (P := fun i _ => ∀ y : List S_impl_PlantPlace, y.length = l.length → (∀ j, j < i → y.getD j z_impl_PlantPlace = (l.map cv_laws_PlantPlace).getD j z_impl_PlantPlace) → Ev (fun k => laws_toPlantPlaceS.l0 k l y (i : Int)) (l.map cv_laws_PlantPlace))
    (fun y hyl hy => by
      obtain rfl := fill_end z_impl_PlantPlace (l.map cv_laws_PlantPlace) y (by simpa using hyl) (fun j hj => hy j (by simpa using hj))
      refine Ev.step (fun k => by rw [laws_toPlantPlaceS.l0]) (ev_neg (by omega) (ev_ret rfl)))
    (fun i x r hi hx hm _ ih y hyl hy => by
      refine Ev.step (fun k => by rw [laws_toPlantPlaceS.l0]) (ev_pos (by omega) (ev_pos (by omega) ?_))
      rw [wsucc hi (by omega), Int.toNat_natCast, show rd_laws_PlantPlace l (i : Int) = x from by unfold rd_laws_PlantPlace; simpa using hx]
      refine Ev.bind (toPlantPlace_ev x (h x hm)) (ev_pos (by omega) ?_)
      obtain ⟨h1, h2⟩ := fill_step z_impl_PlantPlace (l.map cv_laws_PlantPlace) y i (by simpa using hyl) (by simpa using hi) hy (cv_laws_PlantPlace x) (by rw [map_getD z_impl_PlantPlace z_laws_PlantPlace _ l i hi, hx])
      exact ih _ (by rw [h1]; simp) h2) _ (by simp) (fun j hj => absurd hj (Nat.not_lt_zero _))
def cv_laws_PlantValve (x : S_laws_PlantValve) : S_impl_PlantValve := ⟨x.f0, x.f1, x.f2, x.f3⟩
theorem toPlantValve_ev (x : S_laws_PlantValve) (h : ok_laws_PlantValve x) : Ev (fun k => laws_toPlantValve.f x.f0 x.f1 x.f2 x.f3) ((cv_laws_PlantValve x).f0, (cv_laws_PlantValve x).f1, (cv_laws_PlantValve x).f2, (cv_laws_PlantValve x).f3) := by
  have h0 := h.1
  have h1 := h.2.1
  have h2 := h.2.2.1
  have h3 := h.2.2.2
  unfold laws_toPlantValve.f
  repeat' (first | exact ev_ret rfl)
theorem toPlantValveS_ev (l : List S_laws_PlantValve) (hl : l.length ≤ 2199023255552) (h : ∀ z ∈ l, ok_laws_PlantValve z) : Ev (fun k => laws_toPlantValveS.f k l) (l.map cv_laws_PlantValve) := by
  unfold laws_toPlantValveS.f
  refine ev_pos (by omega) ?_
  refine loopL z_laws_PlantValve l (P := fun i _ => ∀ y : List S_impl_PlantValve, y.length = l.length → (∀ j, j < i → y.getD j z_impl_PlantValve = (l.map cv_laws_PlantValve).getD j z_impl_PlantValve) → Ev (fun k => laws_toPlantValveS.l0 k l y (i : Int)) (l.map cv_laws_PlantValve))
    (fun y hyl hy => by
      obtain rfl := fill_end z_impl_PlantValve (l.map cv_laws_PlantValve) y (by simpa using hyl) (fun j hj => hy j (by simpa using hj))
      refine Ev.step (fun k => by rw [laws_toPlantValveS.l0]) (ev_neg (by omega) (ev_ret rfl)))
    (fun i x r hi hx hm _ ih y hyl hy => by
      refine Ev.step (fun k => by rw [laws_toPlantValveS.l0]) (ev_pos (by omega) (ev_pos (by omega) ?_))
      rw [wsucc hi (by omega), Int.toNat_natCast, show rd_laws_PlantValve l (i : Int) = x from by unfold rd_laws_PlantValve; simpa using hx]
      refine Ev.bind (toPlantValve_ev x (h x hm)) (ev_pos (by omega) ?_)
      obtain ⟨h1, h2⟩ := fill_step z_impl_PlantValve (l.map cv_laws_PlantValve) y i (by simpa using hyl) (by simpa using hi) hy (cv_laws_PlantValve x) (by rw [map_getD z_impl_PlantValve z_laws_PlantValve _ l i hi, hx])
      exact ih _ (by rw [h1]; simp) h2) _ (by simp) (fun j hj => absurd hj (Nat.not_lt_zero _))
theorem toPlant_ev (x : S_laws_Plant) (h : ok_laws_Plant x) : Ev (fun k => laws_toPlant.f k x.f0 x.f1 x.f2 x.f3) (x.f0, x.f1.map cv_laws_PlantFoe, x.f2.map cv_laws_PlantPlace, x.f3.map cv_laws_PlantValve) := by
  have h0 := h.1
  have h1 := h.2.1
  have h2 := h.2.2.1
  have h3 := h.2.2.2
  unfold laws_toPlant.f
  repeat' (first | with_reducible refine Ev.bind (toStringS_ev _ (by have := h0.1; omega)) ?_ | with_reducible refine Ev.bind (toPlantFoeS_ev _ (by have := h1.1; omega) h1.2) ?_ | with_reducible refine Ev.bind (toPlantPlaceS_ev _ (by have := h2.1; omega) h2.2) ?_ | with_reducible refine Ev.bind (toPlantValveS_ev _ (by have := h3.1; omega) h3.2) ?_ | exact ev_ret rfl)
theorem eqStringS_ev (l : List ByteArray) (hl : l.length ≤ 140737488351232) : Ev (fun k => laws_eqStringS.f k l l) true := by
  unfold laws_eqStringS.f
  refine ev_pos rfl ?_
  refine loopL ByteArray.empty l (P := fun i _ => Ev (fun k => laws_eqStringS.l0 k l l (i : Int)) true)
    (Ev.step (fun k => by rw [laws_eqStringS.l0]) (ev_neg (by omega) (ev_ret rfl)))
    (fun i x r hi hx hm _ ih => Ev.step (fun k => by rw [laws_eqStringS.l0]) (ev_pos (by omega) (ev_pos (by omega) (ev_pos (by omega) (by
      rw [wsucc hi (by omega)]
      exact ev_pos rfl ih)))))
def ok_impl_PlantFoe (y : S_impl_PlantFoe) : Prop := (y.f0.size ≤ 140737488351232) ∧ (y.f1.size ≤ 140737488351232)
theorem eqPlantFoe_ev (x : S_impl_PlantFoe) (h : ok_impl_PlantFoe x) : Ev (fun k => laws_eqPlantFoe.f x.f0 x.f1 x.f0 x.f1) true := by
  have h0 := h.1
  have h1 := h.2
  unfold laws_eqPlantFoe.f
  repeat' (first | exact ev_ret rfl | refine ev_pos rfl ?_ | refine ev_neg (by simp) ?_)
theorem eqPlantFoeS_ev (l : List S_impl_PlantFoe) (hl : l.length ≤ 140737488351232) (h : ∀ z ∈ l, ok_impl_PlantFoe z) : Ev (fun k => laws_eqPlantFoeS.f k l l) true := by
  unfold laws_eqPlantFoeS.f
  refine ev_pos rfl ?_
  refine loopL z_impl_PlantFoe l (P := fun i _ => Ev (fun k => laws_eqPlantFoeS.l0 k l l (i : Int)) true)
    (Ev.step (fun k => by rw [laws_eqPlantFoeS.l0]) (ev_neg (by omega) (ev_ret rfl)))
    (fun i x r hi hx hm _ ih => Ev.step (fun k => by rw [laws_eqPlantFoeS.l0]) (ev_pos (by omega) (ev_pos (by omega) (ev_pos (by omega) (by
      rw [wsucc hi (by omega)]
      rw [show rd_impl_PlantFoe l (i : Int) = x from by unfold rd_impl_PlantFoe; simpa using hx]
      exact Ev.bind (eqPlantFoe_ev x (h x hm)) (ev_pos rfl ih))))))
def ok_impl_PlantPlace (y : S_impl_PlantPlace) : Prop := (y.f0.size ≤ 140737488351232) ∧ ((Lit.int .i64 y.f1).wf = true) ∧ (y.f2.size ≤ 140737488351232)
theorem eqPlantPlace_ev (x : S_impl_PlantPlace) (h : ok_impl_PlantPlace x) : Ev (fun k => laws_eqPlantPlace.f x.f0 x.f1 x.f2 x.f0 x.f1 x.f2) true := by
  have h0 := h.1
  have h1 := h.2.1
  have h2 := h.2.2
  unfold laws_eqPlantPlace.f
  repeat' (first | exact ev_ret rfl | refine ev_pos rfl ?_ | refine ev_neg (by simp) ?_)
theorem eqPlantPlaceS_ev (l : List S_impl_PlantPlace) (hl : l.length ≤ 140737488351232) (h : ∀ z ∈ l, ok_impl_PlantPlace z) : Ev (fun k => laws_eqPlantPlaceS.f k l l) true := by
  unfold laws_eqPlantPlaceS.f
  refine ev_pos rfl ?_
  refine loopL z_impl_PlantPlace l (P := fun i _ => Ev (fun k => laws_eqPlantPlaceS.l0 k l l (i : Int)) true)
    (Ev.step (fun k => by rw [laws_eqPlantPlaceS.l0]) (ev_neg (by omega) (ev_ret rfl)))
    (fun i x r hi hx hm _ ih => Ev.step (fun k => by rw [laws_eqPlantPlaceS.l0]) (ev_pos (by omega) (ev_pos (by omega) (ev_pos (by omega) (by
      rw [wsucc hi (by omega)]
      rw [show rd_impl_PlantPlace l (i : Int) = x from by unfold rd_impl_PlantPlace; simpa using hx]
      exact Ev.bind (eqPlantPlace_ev x (h x hm)) (ev_pos rfl ih))))))
def ok_impl_PlantValve (y : S_impl_PlantValve) : Prop := (y.f0.size ≤ 140737488351232) ∧ (y.f1.size ≤ 140737488351232) ∧ (y.f2.size ≤ 140737488351232) ∧ (y.f3.size ≤ 140737488351232)
theorem eqPlantValve_ev (x : S_impl_PlantValve) (h : ok_impl_PlantValve x) : Ev (fun k => laws_eqPlantValve.f x.f0 x.f1 x.f2 x.f3 x.f0 x.f1 x.f2 x.f3) true := by
  have h0 := h.1
  have h1 := h.2.1
  have h2 := h.2.2.1
  have h3 := h.2.2.2
  unfold laws_eqPlantValve.f
  repeat' (first | exact ev_ret rfl | refine ev_pos rfl ?_ | refine ev_neg (by simp) ?_)
theorem eqPlantValveS_ev (l : List S_impl_PlantValve) (hl : l.length ≤ 140737488351232) (h : ∀ z ∈ l, ok_impl_PlantValve z) : Ev (fun k => laws_eqPlantValveS.f k l l) true := by
  unfold laws_eqPlantValveS.f
  refine ev_pos rfl ?_
  refine loopL z_impl_PlantValve l (P := fun i _ => Ev (fun k => laws_eqPlantValveS.l0 k l l (i : Int)) true)
    (Ev.step (fun k => by rw [laws_eqPlantValveS.l0]) (ev_neg (by omega) (ev_ret rfl)))
    (fun i x r hi hx hm _ ih => Ev.step (fun k => by rw [laws_eqPlantValveS.l0]) (ev_pos (by omega) (ev_pos (by omega) (ev_pos (by omega) (by
      rw [wsucc hi (by omega)]
      rw [show rd_impl_PlantValve l (i : Int) = x from by unfold rd_impl_PlantValve; simpa using hx]
      exact Ev.bind (eqPlantValve_ev x (h x hm)) (ev_pos rfl ih))))))
theorem eqPlant_ev (x0 : List ByteArray) (x1 : List S_impl_PlantFoe) (x2 : List S_impl_PlantPlace) (x3 : List S_impl_PlantValve) (h0 : (x0.length ≤ 9223372036854775807 ∧ x0.length * 16 ≤ 140737488351232) ∧ ∀ z ∈ x0, z.size ≤ 140737488351232) (h1 : (x1.length ≤ 9223372036854775807 ∧ x1.length * 32 ≤ 140737488351232) ∧ ∀ z ∈ x1, ok_impl_PlantFoe z) (h2 : (x2.length ≤ 9223372036854775807 ∧ x2.length * 40 ≤ 140737488351232) ∧ ∀ z ∈ x2, ok_impl_PlantPlace z) (h3 : (x3.length ≤ 9223372036854775807 ∧ x3.length * 64 ≤ 140737488351232) ∧ ∀ z ∈ x3, ok_impl_PlantValve z) : Ev (fun k => laws_eqPlant.f k x0 x1 x2 x3 x0 x1 x2 x3) true := by
  unfold laws_eqPlant.f
  repeat' (first | with_reducible refine Ev.bind (eqStringS_ev _ (by have := h0.1; omega)) ?_ | with_reducible refine Ev.bind (eqPlantFoeS_ev _ (by have := h1.1; omega) h1.2) ?_ | with_reducible refine Ev.bind (eqPlantPlaceS_ev _ (by have := h2.1; omega) h2.2) ?_ | with_reducible refine Ev.bind (eqPlantValveS_ev _ (by have := h3.1; omega) h3.2) ?_ | exact ev_ret rfl | refine ev_pos rfl ?_ | refine ev_neg (by simp) ?_)
/-! ### names -/
theorem ev_b {α : Type} {b : Bool} {g f : Nat → Option α} {r : α} (h : b = true → Ev g r) (k : b = false → Ev f r) : Ev (fun n => if b = true then g n else f n) r := by
  cases b
  · exact ev_neg (by simp) (k rfl)
  · exact ev_pos rfl (h rfl)
/-- a yes or no that is asked -/
theorem ev_ask {α : Type} {o g f : Nat → Option α} {q : Nat → Option Bool} {b : Bool} {r : α} (hq : Ev q b) (h : b = true → Ev g r) (k : b = false → Ev f r) : Ev (fun n => (q n).bind fun t => if t = true then g n else f n) r := Ev.bind (f := fun n t => if t = true then g n else f n) hq (ev_b h k)
def okc (c : Int) : Bool := (decide (97 ≤ c) && decide (c ≤ 122)) || ((decide (48 ≤ c) && decide (c ≤ 57)) || decide (c = 45))
theorem okc_t {c : Int} (h : 97 ≤ c ∧ c ≤ 122 ∨ 48 ≤ c ∧ c ≤ 57 ∨ c = 45) : okc c = true := by simp [okc]; omega
theorem okc_f {c : Int} (h : ¬ (97 ≤ c ∧ c ≤ 122 ∨ 48 ≤ c ∧ c ≤ 57 ∨ c = 45)) : okc c = false := by
  rw [← Bool.not_eq_true]; intro q; apply h; simp [okc] at q; omega
def allFrom (s : ByteArray) (i : Nat) : Bool := decide (∀ j, j < s.size → i ≤ j → okc (bt s (j : Int)) = true)
theorem allFrom_step (s : ByteArray) (i : Nat) (h : i < s.size) : allFrom s i = (okc (bt s (i : Int)) && allFrom s (i + 1)) := by
  unfold allFrom
  rw [Bool.eq_iff_iff, Bool.and_eq_true, decide_eq_true_iff, decide_eq_true_iff]
  refine ⟨fun q => ⟨q i h (Nat.le_refl _), fun j hj hi => q j hj (by omega)⟩, fun q j hj hi => ?_⟩
  by_cases e : j = i
  · rw [e]; exact q.1
  · exact q.2 j hj (by omega)
theorem allFrom_end (s : ByteArray) : allFrom s s.size = true := by
  unfold allFrom
  rw [decide_eq_true_iff]
  intro j hj hi; omega
def nameB (s : ByteArray) : Bool := decide (1 ≤ s.size ∧ s.size ≤ 8) && allFrom s 0
/-- a walk over the places of a text -/
theorem loopN (n : Nat) {P : Nat → Prop} (h0 : P n) (hs : ∀ i, i < n → P (i + 1) → P i) : P 0 := by
  have key : ∀ (m i : Nat), i + m = n → P i := fun m => by
    induction m with
    | zero => intro i hi; have e : i = n := by omega
              subst e; exact h0
    | succ m ih => intro i hi; exact hs i (by omega) (ih (i + 1) (by omega))
  exact key n 0 (by omega)
/-- each before the next -/
def chainB {α : Type} (p : α → α → Bool) : Option α → List α → Bool
  | _, [] => true
  | none, x :: r => chainB p (some x) r
  | some y, x :: r => p y x && chainB p (some x) r
def namesB (l : List ByteArray) : Bool := l.all nameB && chainB lt none l
def hasB (l : List ByteArray) (s : ByteArray) : Bool := l.any fun x => decide (x = s)
theorem hasB_iff {l : List ByteArray} {s : ByteArray} : hasB l s = true ↔ s ∈ l := by
  unfold hasB
  rw [List.any_eq_true]
  exact ⟨fun ⟨x, h, e⟩ => by simp at e; exact e ▸ h, fun h => ⟨s, h, by simp⟩⟩
def inB (a b c : Int) : Bool := decide (b ≤ a ∧ a ≤ c)
theorem inB_t {a b c : Int} (h : b ≤ a ∧ a ≤ c) : inB a b c = true := decide_eq_true h
theorem inB_f {a b c : Int} (h : ¬ (b ≤ a ∧ a ≤ c)) : inB a b c = false := decide_eq_false h
theorem l2In_ev (a b c : Int) : Ev (fun _ => spec_l1In.f a b c) (inB a b c) := by
  unfold spec_l1In.f inB
  refine ev_split (fun h => ev_ret (decide_eq_decide.2 (by omega))) (fun h => ev_ret ?_)
  symm; apply decide_eq_false; omega
theorem l2NameOk_ev (s : ByteArray) : Ev (fun k => spec_l2NameOk.f k s) (nameB s) := by
  unfold spec_l2NameOk.f nameB
  refine Ev.bind (l2In_ev _ _ _) (ev_b (fun h => ?_) (fun h => ev_ret ?_))
  · have hs : 1 ≤ s.size ∧ s.size ≤ 8 := by have : inB _ _ _ = true := h; unfold inB at this; have := of_decide_eq_true this; omega
    rw [decide_eq_true hs, Bool.true_and]
    refine loopN s.size (P := fun i => Ev (fun k => spec_l2NameOk.l0 k s (i : Int)) (allFrom s i))
      (by refine Ev.step (fun k => by rw [spec_l2NameOk.l0]) ?_; exact ev_neg (by omega) (ev_ret (allFrom_end s).symm)) (fun i hi ih => ?_)
    refine Ev.step (fun k => by rw [spec_l2NameOk.l0]) (ev_pos (by omega) (ev_pos (by omega) ?_))
    rw [wsucc hi (by omega), allFrom_step s i hi]
    generalize bt s (i : Int) = c
    repeat' (first | (refine ev_split (fun _ => ?_) (fun _ => ?_)) | (rw [okc_t (by omega), Bool.true_and]; exact ih) | (rw [okc_f (by omega)]; exact ev_ret rfl))
  · have hs : ¬ (1 ≤ s.size ∧ s.size ≤ 8) := fun q => by have : inB _ _ _ = false := h; unfold inB at this; have := of_decide_eq_false this; omega
    rw [decide_eq_false hs]; rfl
theorem l2Has_ev (l : List ByteArray) (s : ByteArray) (hn : l.length ≤ 140737488351232) : Ev (fun k => spec_l2Has.f k l s) (hasB l s) := by
  unfold spec_l2Has.f hasB
  refine loopL ByteArray.empty l (P := fun i r => Ev (fun k => spec_l2Has.l0 k l s (i : Int)) (r.any fun x => decide (x = s)))
    (by refine Ev.step (fun k => by rw [spec_l2Has.l0]) ?_; exact ev_neg (by omega) (ev_ret rfl)) (fun i x r hi hx _ _ ih => ?_)
  refine Ev.step (fun k => by rw [spec_l2Has.l0]) (ev_pos (by omega) (ev_pos (by omega) ?_))
  rw [wsucc hi (by omega), rdOf_nat, hx]
  refine ev_split (fun c => ev_ret ?_) (fun c => ev_eq ih ?_)
  · simp [ba_iff.1 c]
  · simp [show ¬ x = s from fun e => c (ba_iff.2 e)]
theorem isName_ev (s : ByteArray) (hn : s.size ≤ 140737488351232) : Ev (fun k => impl_isName.f k s) (nameB s) := by
  unfold impl_isName.f nameB
  refine loopN s.size (P := fun i => Ev (fun k => impl_isName.l0 k s (i : Int)) (decide (1 ≤ s.size ∧ s.size ≤ 8) && allFrom s i))
    (by
      refine Ev.step (fun k => by rw [impl_isName.l0]) (ev_neg (by omega) ?_)
      rw [allFrom_end, Bool.and_true]
      refine ev_split (fun h => ev_ret (decide_eq_decide.2 (by omega))) (fun h => ev_ret ?_)
      symm; apply decide_eq_false; omega) (fun i hi ih => ?_)
  refine Ev.step (fun k => by rw [impl_isName.l0]) (ev_pos (by omega) (ev_pos (by omega) ?_))
  rw [wsucc hi (by omega), allFrom_step s i hi]
  generalize bt s (i : Int) = c
  repeat' (first | (refine ev_split (fun _ => ?_) (fun _ => ?_)) | (rw [okc_t (by omega), Bool.true_and]; exact ih) | (rw [okc_f (by omega), Bool.false_and, Bool.and_false]; exact ev_ret rfl))
theorem chain_none {α : Type} (p : α → α → Bool) (x : α) (r : List α) : chainB p none (x :: r) = chainB p (some x) r := rfl
theorem rising_ev (l : List ByteArray) (hn : l.length ≤ 140737488351232) : Ev (fun k => impl_rising.f k l) (chainB lt none l) := by
  unfold impl_rising.f
  have key : ∀ r i, l.drop (i + 1) = r → i < l.length → Ev (fun k => impl_rising.l0 k l ((i + 1 : Nat) : Int)) (chainB lt (some (l.getD i ByteArray.empty)) r) := fun r => by
    induction r with
    | nil =>
      intro i hd hi
      have : l.length ≤ i + 1 := List.drop_eq_nil_iff.1 hd
      refine Ev.step (fun k => by rw [impl_rising.l0]) ?_
      exact ev_neg (by omega) (ev_ret rfl)
    | cons x r ih =>
      intro i hd hi
      have hlt : i + 1 < l.length := by
        refine Nat.lt_of_not_le fun hle => ?_
        rw [List.drop_eq_nil_iff.2 hle] at hd; cases hd
      have e := List.drop_eq_getElem_cons hlt
      rw [hd] at e; injection e with e1 e2
      have hx : l.getD (i + 1) ByteArray.empty = x := by rw [getD_eq _ l _ hlt]; exact e1.symm
      refine Ev.step (fun k => by rw [impl_rising.l0]) (ev_pos (by omega) ?_)
      have hw : wrap64 (((i + 1 : Nat) : Int) - 1) = ((i : Nat) : Int) := by unfold wrap64; omega
      rw [hw, rdOf_nat, rdOf_nat, hx, wsucc hlt (by omega)]
      refine ev_pos (by omega) (ev_pos (by omega) (ev_pos (by omega) (ev_b (fun c => ?_) (fun c => ev_ret ?_))))
      · have c : lt (l.getD i ByteArray.empty) x = true := c
        have := ih (i + 1) e2.symm hlt
        rw [hx] at this
        simp only [chainB, c, Bool.true_and]; exact this
      · have c : lt (l.getD i ByteArray.empty) x = false := c
        simp only [chainB, c, Bool.false_and]
  cases l with
  | nil =>
    refine Ev.step (fun k => by rw [impl_rising.l0]) ?_
    exact ev_neg (show ¬ (1 : Int) < ((0 : Nat) : Int) by omega) (ev_ret rfl)
  | cons x r =>
    rw [chain_none]
    exact key r 0 rfl (by simp)
theorem names_ev (l : List ByteArray) (hn : l.length ≤ 140737488351232) (h : ∀ x ∈ l, x.size ≤ 140737488351232) : Ev (fun k => impl_names.f k l) (namesB l) := by
  unfold impl_names.f namesB
  refine loopL ByteArray.empty l (P := fun i r => Ev (fun k => impl_names.l0 k l (i : Int)) (r.all nameB && chainB lt none l))
    (by refine Ev.step (fun k => by rw [impl_names.l0]) ?_; exact ev_neg (by omega) (Ev.bind (rising_ev l hn) (ev_ret rfl))) (fun i x r hi hx hm _ ih => ?_)
  refine Ev.step (fun k => by rw [impl_names.l0]) (ev_pos (by omega) (ev_pos (by omega) ?_))
  rw [wsucc hi (by omega), rdOf_nat, hx]
  refine Ev.bind (isName_ev x (h x hm)) (ev_b (fun c => ?_) (fun c => ev_ret ?_))
  · simpa [c] using ih
  · simp [c]
theorem has_ev (l : List ByteArray) (s : ByteArray) (hn : l.length ≤ 140737488351232) : Ev (fun k => impl_has.f k l s) (hasB l s) := by
  have key : ∃ v : Int, (decide (v ≥ 0) = hasB l s) ∧ Ev (fun k => slices_Index_string_string.f k l s) v := by
    unfold slices_Index_string_string.f hasB
    refine loopL ByteArray.empty l (P := fun i r => ∃ v : Int, (decide (v ≥ 0) = r.any fun x => decide (x = s)) ∧ Ev (fun k => slices_Index_string_string.l0 k l s (i : Int)) v)
      ⟨-1, rfl, Ev.step (fun k => by rw [slices_Index_string_string.l0]) (ev_neg (by omega) (ev_ret rfl))⟩ (fun i x r hi hx _ _ ih => ?_)
    obtain ⟨v, hv, he⟩ := ih
    by_cases c : x = s
    · refine ⟨(i : Int), by simp [c], Ev.step (fun k => by rw [slices_Index_string_string.l0]) ?_⟩
      rw [rdOf_nat, hx]
      exact ev_pos (by omega) (ev_pos (by omega) (ev_pos (by rw [c]) (ev_ret rfl)))
    · refine ⟨v, by simpa [c] using hv, Ev.step (fun k => by rw [slices_Index_string_string.l0]) ?_⟩
      rw [rdOf_nat, hx, wsucc hi (by omega)]
      exact ev_pos (by omega) (ev_pos (by omega) (ev_neg (fun q => c (ba_ext q).symm) he))
  obtain ⟨v, hv, he⟩ := key
  unfold impl_has.f slices_Contains_string_string.f
  exact Ev.bind (Ev.bind he (ev_ret hv)) (ev_ret rfl)
/-! ### plants: what a valid one is -/
theorem rdF (l : List S_impl_PlantFoe) (i : Nat) : rd_impl_PlantFoe l (i : Int) = l.getD i z_impl_PlantFoe := by unfold rd_impl_PlantFoe; rw [Int.toNat_natCast]
theorem rdP (l : List S_impl_PlantPlace) (i : Nat) : rd_impl_PlantPlace l (i : Int) = l.getD i z_impl_PlantPlace := by unfold rd_impl_PlantPlace; rw [Int.toNat_natCast]
theorem rdV (l : List S_impl_PlantValve) (i : Nat) : rd_impl_PlantValve l (i : Int) = l.getD i z_impl_PlantValve := by unfold rd_impl_PlantValve; rw [Int.toNat_natCast]
def foeLt (x y : S_impl_PlantFoe) : Bool := befB x.f0 x.f1 y.f0 y.f1
def foeB (s : List ByteArray) (x : S_impl_PlantFoe) : Bool := lt x.f0 x.f1 && (hasB s x.f0 && hasB s x.f1)
def foesB (s : List ByteArray) (f : List S_impl_PlantFoe) : Bool := f.all (foeB s) && chainB foeLt none f
def placeLt (x y : S_impl_PlantPlace) : Bool := lt x.f0 y.f0
def placeB (x : S_impl_PlantPlace) : Bool := nameB x.f0 && (inB x.f1 0 1000 && nameB x.f2)
def placesB (p : List S_impl_PlantPlace) : Bool := p.all placeB && chainB placeLt none p
def placeHas (p : List S_impl_PlantPlace) (x : ByteArray) : Bool := p.any fun y => decide (y.f0 = x)
def valveLt (x y : S_impl_PlantValve) : Bool := lt x.f0 y.f0
def valveB (p : List S_impl_PlantPlace) (x : S_impl_PlantValve) : Bool := nameB x.f0 && (lt x.f1 x.f2 && (placeHas p x.f1 && (placeHas p x.f2 && nameB x.f3)))
def valvesB (p : List S_impl_PlantPlace) (v : List S_impl_PlantValve) : Bool := v.all (valveB p) && chainB valveLt none v
def validB (s : List ByteArray) (f : List S_impl_PlantFoe) (p : List S_impl_PlantPlace) (v : List S_impl_PlantValve) : Bool :=
  (decide (s.length ≤ 8) && decide (f.length ≤ 12)) && ((namesB s && foesB s f) && ((decide (p.length ≤ 14) && placesB p) && (decide (v.length ≤ 18) && valvesB p v)))
theorem l2Before_ev (a0 a1 b0 b1 : ByteArray) : Ev (fun _ => spec_l2Before.f a0 a1 b0 b1) (befB a0 a1 b0 b1) := by
  unfold spec_l2Before.f
  repeat' (first
    | with_reducible refine ev_pos (by omega) ?_
    | with_reducible refine ev_neg (by omega) ?_
    | with_reducible refine ev_b (fun c => ?_) (fun c => ?_)
    | with_reducible refine ev_split (fun c => ?_) (fun c => ?_))
  all_goals (first
    | (with_reducible refine ev_ret ?_; simp_all [chainB, lt, ba_iff, befB]; done)
    | (with_reducible refine ev_eq (ih) ?_; simp_all [chainB, lt, ba_iff, befB]; done))
theorem l2Foes1_ev (s : List ByteArray) (f : List S_impl_PlantFoe) (hs : s.length ≤ 140737488351232) (hf : f.length ≤ 140737488351232) : Ev (fun k => spec_l2StuffsOk.l1 k s f 0) (foesB s f) := by
  refine loopL z_impl_PlantFoe f (P := fun i r => Ev (fun k => spec_l2StuffsOk.l1 k s f (i : Int)) (r.all (foeB s) && chainB foeLt (ahead z_impl_PlantFoe f i) r))
    (by refine Ev.step (fun k => by rw [spec_l2StuffsOk.l1]) ?_; exact ev_neg (by omega) (ev_ret rfl)) (fun i x r hi hx _ _ ih => ?_)
  refine Ev.step (fun k => by rw [spec_l2StuffsOk.l1]) (ev_pos (by omega) (ev_pos (by omega) ?_))
  rw [wsucc hi (by omega), rdF, hx]
  rw [ahead_succ, hx] at ih
  clear hx
  by_cases z : i = 0
  · subst z
    rw [ahead_zero]
    repeat' (first
      | with_reducible refine Ev.bind (l2Has_ev _ _ hs) ?_
      | with_reducible refine ev_pos (by omega) ?_
      | with_reducible refine ev_neg (by omega) ?_
      | with_reducible refine ev_b (fun c => ?_) (fun c => ?_)
      | with_reducible refine ev_split (fun c => ?_) (fun c => ?_))
    all_goals (first
      | (with_reducible refine ev_ret ?_; simp_all [chainB, lt, ba_iff, foeB, foeLt]; done)
      | (with_reducible refine ev_eq (ih) ?_; simp_all [chainB, lt, ba_iff, foeB, foeLt]; done))
  · rw [pre64 z (by omega), rdF, ahead_pos _ _ _ z]
    generalize f.getD (i - 1) z_impl_PlantFoe = y
    repeat' (first
      | with_reducible refine Ev.bind (l2Has_ev _ _ hs) ?_
      | with_reducible refine Ev.bind (l2Before_ev _ _ _ _) ?_
      | with_reducible refine ev_pos (by omega) ?_
      | with_reducible refine ev_neg (by omega) ?_
      | with_reducible refine ev_b (fun c => ?_) (fun c => ?_)
      | with_reducible refine ev_split (fun c => ?_) (fun c => ?_))
    all_goals (first
      | (with_reducible refine ev_ret ?_; simp_all [chainB, lt, ba_iff, foeB, foeLt]; done)
      | (with_reducible refine ev_eq (ih) ?_; simp_all [chainB, lt, ba_iff, foeB, foeLt]; done))
theorem l2Stuffs_ev (s : List ByteArray) (f : List S_impl_PlantFoe) (p : List S_impl_PlantPlace) (v : List S_impl_PlantValve) (hs : s.length ≤ 140737488351232) (hf : f.length ≤ 140737488351232) :
    Ev (fun k => spec_l2StuffsOk.f k s f p v) ((decide (s.length ≤ 8) && decide (f.length ≤ 12)) && (namesB s && foesB s f)) := by
  have L1 := l2Foes1_ev s f hs hf
  generalize foesB s f = T at L1 ⊢
  have L0 : Ev (fun k => spec_l2StuffsOk.l0 k s f 0) (namesB s && T) := by
    refine loopL ByteArray.empty s (P := fun i r => Ev (fun k => spec_l2StuffsOk.l0 k s f (i : Int)) ((r.all nameB && chainB lt (ahead ByteArray.empty s i) r) && T))
      (by refine Ev.step (fun k => by rw [spec_l2StuffsOk.l0]) ?_; exact ev_neg (by omega) L1) (fun i x r hi hx _ _ ih => ?_)
    refine Ev.step (fun k => by rw [spec_l2StuffsOk.l0]) (ev_pos (by omega) (ev_pos (by omega) ?_))
    rw [wsucc hi (by omega), rdOf_nat, hx]
    rw [ahead_succ, hx] at ih
    clear hx L1
    by_cases z : i = 0
    · subst z
      rw [ahead_zero]
      repeat' (first
        | with_reducible refine Ev.bind (l2NameOk_ev _) ?_
        | with_reducible refine ev_pos (by omega) ?_
        | with_reducible refine ev_neg (by omega) ?_
        | with_reducible refine ev_b (fun c => ?_) (fun c => ?_)
        | with_reducible refine ev_split (fun c => ?_) (fun c => ?_))
      all_goals (first
        | (with_reducible refine ev_ret ?_; simp_all [chainB, lt, ba_iff]; done)
        | (with_reducible refine ev_eq (ih) ?_; simp_all [chainB, lt, ba_iff]; done))
    · rw [pre64 z (by omega), rdOf_nat, ahead_pos _ _ _ z]
      generalize s.getD (i - 1) ByteArray.empty = y
      repeat' (first
        | with_reducible refine Ev.bind (l2NameOk_ev _) ?_
        | with_reducible refine ev_pos (by omega) ?_
        | with_reducible refine ev_neg (by omega) ?_
        | with_reducible refine ev_b (fun c => ?_) (fun c => ?_)
        | with_reducible refine ev_split (fun c => ?_) (fun c => ?_))
      all_goals (first
        | (with_reducible refine ev_ret ?_; simp_all [chainB, lt, ba_iff]; done)
        | (with_reducible refine ev_eq (ih) ?_; simp_all [chainB, lt, ba_iff]; done))
  unfold spec_l2StuffsOk.f
  refine ev_split (fun c => ev_ret ?_) (fun c => ev_split (fun d => ev_ret ?_) (fun d => ev_eq L0 ?_))
  · rw [decide_eq_false (by omega : ¬ s.length ≤ 8)]; rfl
  · rw [decide_eq_false (by omega : ¬ f.length ≤ 12), Bool.and_false]; rfl
  · rw [decide_eq_true (by omega : s.length ≤ 8), decide_eq_true (by omega : f.length ≤ 12)]; rfl
theorem l2Places_ev (s : List ByteArray) (f : List S_impl_PlantFoe) (p : List S_impl_PlantPlace) (v : List S_impl_PlantValve) (hp : p.length ≤ 140737488351232) :
    Ev (fun k => spec_l2PlacesOk.f k s f p v) (decide (p.length ≤ 14) && placesB p) := by
  unfold spec_l2PlacesOk.f
  refine ev_split (fun c => ev_ret (by rw [decide_eq_false (by omega : ¬ p.length ≤ 14)]; rfl)) (fun c => ?_)
  rw [decide_eq_true (by omega : p.length ≤ 14), Bool.true_and]
  refine loopL z_impl_PlantPlace p (P := fun i r => Ev (fun k => spec_l2PlacesOk.l0 k p (i : Int)) (r.all placeB && chainB placeLt (ahead z_impl_PlantPlace p i) r))
    (by refine Ev.step (fun k => by rw [spec_l2PlacesOk.l0]) ?_; exact ev_neg (by omega) (ev_ret rfl)) (fun i x r hi hx _ _ ih => ?_)
  refine Ev.step (fun k => by rw [spec_l2PlacesOk.l0]) (ev_pos (by omega) (ev_pos (by omega) ?_))
  rw [wsucc hi (by omega), rdP, hx]
  rw [ahead_succ, hx] at ih
  clear hx
  by_cases z : i = 0
  · subst z
    rw [ahead_zero]
    repeat' (first
      | with_reducible refine Ev.bind (l2NameOk_ev _) ?_
      | with_reducible refine Ev.bind (l2In_ev _ _ _) ?_
      | with_reducible refine ev_pos (by omega) ?_
      | with_reducible refine ev_neg (by omega) ?_
      | with_reducible refine ev_b (fun c => ?_) (fun c => ?_)
      | with_reducible refine ev_split (fun c => ?_) (fun c => ?_))
    all_goals (first
      | (with_reducible refine ev_ret ?_; simp_all [chainB, lt, ba_iff, placeB, placeLt]; done)
      | (with_reducible refine ev_eq (ih) ?_; simp_all [chainB, lt, ba_iff, placeB, placeLt]; done))
  · rw [pre64 z (by omega), rdP, ahead_pos _ _ _ z]
    generalize p.getD (i - 1) z_impl_PlantPlace = y
    repeat' (first
      | with_reducible refine Ev.bind (l2NameOk_ev _) ?_
      | with_reducible refine Ev.bind (l2In_ev _ _ _) ?_
      | with_reducible refine ev_pos (by omega) ?_
      | with_reducible refine ev_neg (by omega) ?_
      | with_reducible refine ev_b (fun c => ?_) (fun c => ?_)
      | with_reducible refine ev_split (fun c => ?_) (fun c => ?_))
    all_goals (first
      | (with_reducible refine ev_ret ?_; simp_all [chainB, lt, ba_iff, placeB, placeLt]; done)
      | (with_reducible refine ev_eq (ih) ?_; simp_all [chainB, lt, ba_iff, placeB, placeLt]; done))
/-- where a place lies, -1 if there is none -/
def placeIx (x : ByteArray) : List S_impl_PlantPlace → Int → Int
  | [], _ => -1
  | y :: r, i => if y.f0 = x then i else placeIx x r (i + 1)
theorem placeIx_neg (x : ByteArray) : ∀ (r : List S_impl_PlantPlace) (i : Int), 0 ≤ i → (decide (placeIx x r i < 0) = !placeHas r x) ∧ (placeHas r x = true → i ≤ placeIx x r i)
  | [], i, h => ⟨rfl, fun h => by simp [placeHas] at h⟩
  | y :: r, i, h => by
    obtain ⟨h1, h2⟩ := placeIx_neg x r (i + 1) (by omega)
    rw [show placeIx x (y :: r) i = if y.f0 = x then i else placeIx x r (i + 1) from rfl, show placeHas (y :: r) x = (decide (y.f0 = x) || placeHas r x) from rfl]
    by_cases c : y.f0 = x
    · rw [if_pos c, decide_eq_true c, Bool.true_or]
      exact ⟨decide_eq_false (by omega), fun _ => Int.le_refl _⟩
    · rw [if_neg c, decide_eq_false c, Bool.false_or]
      exact ⟨h1, fun q => by have := h2 q; omega⟩
theorem l2Place_ev (s : List ByteArray) (f : List S_impl_PlantFoe) (p : List S_impl_PlantPlace) (v : List S_impl_PlantValve) (x : ByteArray) (hp : p.length ≤ 140737488351232) :
    Ev (fun k => spec_l2Place.f k s f p v x) (placeIx x p 0) := by
  unfold spec_l2Place.f
  refine loopL z_impl_PlantPlace p (P := fun i r => Ev (fun k => spec_l2Place.l0 k p x (i : Int)) (placeIx x r (i : Int)))
    (by refine Ev.step (fun k => by rw [spec_l2Place.l0]) ?_; exact ev_neg (by omega) (ev_ret rfl)) (fun i y r hi hx _ _ ih => ?_)
  refine Ev.step (fun k => by rw [spec_l2Place.l0]) (ev_pos (by omega) (ev_pos (by omega) ?_))
  rw [wsucc hi (by omega), rdP, hx]
  unfold placeIx
  refine ev_split (fun c => ev_ret (by rw [if_pos (ba_iff.1 c)])) (fun c => ev_eq ih (by rw [if_neg (fun e => c (ba_iff.2 e))]; push_cast; rfl))
theorem placeNeg_ev (x : ByteArray) (p : List S_impl_PlantPlace) : (placeIx x p 0 < 0) ↔ placeHas p x = false := by
  have := (placeIx_neg x p 0 (Int.le_refl _)).1
  cases h : placeHas p x <;> rw [h] at this <;> simpa using this
theorem l2Valves_ev (s : List ByteArray) (f : List S_impl_PlantFoe) (p : List S_impl_PlantPlace) (v : List S_impl_PlantValve) (hp : p.length ≤ 140737488351232) (hv : v.length ≤ 140737488351232) :
    Ev (fun k => spec_l2ValvesOk.f k s f p v) (decide (v.length ≤ 18) && valvesB p v) := by
  unfold spec_l2ValvesOk.f
  refine ev_split (fun c => ev_ret (by rw [decide_eq_false (by omega : ¬ v.length ≤ 18)]; rfl)) (fun c => ?_)
  rw [decide_eq_true (by omega : v.length ≤ 18), Bool.true_and]
  refine loopL z_impl_PlantValve v (P := fun i r => Ev (fun k => spec_l2ValvesOk.l0 k s f p v (i : Int)) (r.all (valveB p) && chainB valveLt (ahead z_impl_PlantValve v i) r))
    (by refine Ev.step (fun k => by rw [spec_l2ValvesOk.l0]) ?_; exact ev_neg (by omega) (ev_ret rfl)) (fun i x r hi hx _ _ ih => ?_)
  refine Ev.step (fun k => by rw [spec_l2ValvesOk.l0]) (ev_pos (by omega) (ev_pos (by omega) ?_))
  rw [wsucc hi (by omega), rdV, hx]
  rw [ahead_succ, hx] at ih
  clear hx
  by_cases z : i = 0
  · subst z
    rw [ahead_zero]
    repeat' (first
      | with_reducible refine Ev.bind (l2NameOk_ev _) ?_
      | with_reducible refine Ev.bind (l2Place_ev _ _ _ _ _ hp) ?_
      | with_reducible refine ev_pos (by omega) ?_
      | with_reducible refine ev_neg (by omega) ?_
      | with_reducible refine ev_b (fun c => ?_) (fun c => ?_)
      | with_reducible refine ev_split (fun c => ?_) (fun c => ?_))
    all_goals (first
      | (with_reducible refine ev_ret ?_; simp_all [chainB, lt, ba_iff, valveB, valveLt, placeNeg_ev]; done)
      | (with_reducible refine ev_eq (ih) ?_; simp_all [chainB, lt, ba_iff, valveB, valveLt, placeNeg_ev]; done))
  · rw [pre64 z (by omega), rdV, ahead_pos _ _ _ z]
    generalize v.getD (i - 1) z_impl_PlantValve = y
    repeat' (first
      | with_reducible refine Ev.bind (l2NameOk_ev _) ?_
      | with_reducible refine Ev.bind (l2Place_ev _ _ _ _ _ hp) ?_
      | with_reducible refine ev_pos (by omega) ?_
      | with_reducible refine ev_neg (by omega) ?_
      | with_reducible refine ev_b (fun c => ?_) (fun c => ?_)
      | with_reducible refine ev_split (fun c => ?_) (fun c => ?_))
    all_goals (first
      | (with_reducible refine ev_ret ?_; simp_all [chainB, lt, ba_iff, valveB, valveLt, placeNeg_ev]; done)
      | (with_reducible refine ev_eq (ih) ?_; simp_all [chainB, lt, ba_iff, valveB, valveLt, placeNeg_ev]; done))
theorem specValid_ev (s : List ByteArray) (f : List S_impl_PlantFoe) (p : List S_impl_PlantPlace) (v : List S_impl_PlantValve) (hs : s.length ≤ 140737488351232) (hf : f.length ≤ 140737488351232) (hp : p.length ≤ 140737488351232) (hv : v.length ≤ 140737488351232) :
    Ev (fun k => spec_PlantValid.f k s f p v) (validB s f p v) := by
  unfold spec_PlantValid.f validB
  have e1 := l2Stuffs_ev s f p v hs hf
  have e2 := l2Places_ev s f p v hp
  have e3 := l2Valves_ev s f p v hp hv
  rw [← Bool.and_assoc]
  generalize ((decide (s.length ≤ 8) && decide (f.length ≤ 12)) && (namesB s && foesB s f)) = b1 at e1 ⊢
  generalize (decide (p.length ≤ 14) && placesB p) = b2 at e2 ⊢
  generalize (decide (v.length ≤ 18) && valvesB p v) = b3 at e3 ⊢
  repeat' (first
    | with_reducible refine Ev.bind (e1) ?_
    | with_reducible refine Ev.bind (e2) ?_
    | with_reducible refine Ev.bind (e3) ?_
    | with_reducible refine ev_pos (by omega) ?_
    | with_reducible refine ev_neg (by omega) ?_
    | with_reducible refine ev_b (fun c => ?_) (fun c => ?_)
    | with_reducible refine ev_split (fun c => ?_) (fun c => ?_))
  all_goals (first
    | (with_reducible refine ev_ret ?_; simp_all [chainB, lt, ba_iff]; done)
    | (with_reducible refine ev_eq (ih) ?_; simp_all [chainB, lt, ba_iff]; done))
/-! ### plants: what the program says of them -/
def mkPair (x : S_impl_PlantFoe) : S_A2_string := ⟨x.f0, x.f1⟩
theorem rdA2 (l : List S_A2_string) (i : Nat) : rd_A2_string l (i : Int) = l.getD i z_A2_string := by unfold rd_A2_string; rw [Int.toNat_natCast]
theorem pairs_ev (s : List ByteArray) (f : List S_impl_PlantFoe) (p : List S_impl_PlantPlace) (v : List S_impl_PlantValve) (hf : f.length ≤ 4398046511104) :
    Ev (fun k => impl_Plant_pairs.f k s f p v) (f.map mkPair) := by
  unfold impl_Plant_pairs.f
  have key := loopL z_impl_PlantFoe f (P := fun i r => ∀ acc : List S_A2_string, acc.length = i → Ev (fun k => impl_Plant_pairs.l0 k f acc (i : Int)) (acc ++ r.map mkPair))
    (fun acc h => by refine Ev.step (fun k => by rw [impl_Plant_pairs.l0]) ?_; exact ev_neg (by omega) (ev_ret (by simp))) (fun i x r hi hx _ _ ih acc h => ?_)
  · simpa using key [] rfl
  refine Ev.step (fun k => by rw [impl_Plant_pairs.l0]) (ev_pos (by omega) (ev_pos (by omega) (ev_pos (by omega) ?_)))
  rw [wsucc hi (by omega), rdF, hx]
  refine ev_eq (ih _ (by simp [h])) (by simp [mkPair])
def pairLt (x y : S_A2_string) : Bool := befB x.f0 x.f1 y.f0 y.f1
def pairB (x : S_A2_string) : Bool := nameB x.f0 && (nameB x.f1 && lt x.f0 x.f1)
def pairsB (l : List S_A2_string) : Bool := l.all pairB && chainB pairLt none l
theorem befB_of {a0 a1 b0 b1 : ByteArray} (h : Op.bytesLess b0.toList a0.toList = false) : befB a0 a1 b0 b1 = (decide (a0 = b0 → Op.bytesLess a1.toList b1.toList = true)) := by
  unfold befB
  rcases lt_tri a0 b0 with c | c | c
  · rw [c, decide_eq_true (fun e => absurd e (lt_ne c))]; rfl
  · subst c; rw [lt_irr, decide_eq_true rfl]
    cases q : Op.bytesLess a1.toList b1.toList <;> simp [lt, q]
  · have : Op.bytesLess b0.toList a0.toList = true := c
    rw [h] at this; cases this
theorem befB_no {a0 a1 b0 b1 : ByteArray} (h : Op.bytesLess b0.toList a0.toList = true) : befB a0 a1 b0 b1 = false := by
  unfold befB
  rw [lt_asym h, decide_eq_false (fun e => lt_ne h e.symm)]; rfl
theorem foesOk_ev (l : List S_A2_string) (a : Int) (hn : l.length ≤ 140737488351232) (h : ∀ x ∈ l, x.f0.size ≤ 140737488351232 ∧ x.f1.size ≤ 140737488351232) :
    Ev (fun k => impl_foesOk.f k l a) (pairsB l && decide ((l.length : Int) ≤ a)) := by
  unfold impl_foesOk.f
  refine loopL z_A2_string l (P := fun i r => Ev (fun k => impl_foesOk.l0 k l a (i : Int)) ((r.all pairB && chainB pairLt (ahead z_A2_string l i) r) && decide ((l.length : Int) ≤ a)))
    (by refine Ev.step (fun k => by rw [impl_foesOk.l0]) ?_; exact ev_neg (by omega) (ev_ret rfl)) (fun i x r hi hx hm _ ih => ?_)
  refine Ev.step (fun k => by rw [impl_foesOk.l0]) (ev_pos (by omega) (ev_pos (by omega) ?_))
  obtain ⟨q0, q1⟩ := h x hm
  rw [wsucc hi (by omega), rdA2, hx]
  rw [ahead_succ, hx] at ih
  generalize decide ((l.length : Int) ≤ a) = D at ih ⊢
  clear hx h hm
  by_cases z : i = 0
  · subst z
    rw [ahead_zero]
    repeat' (first
      | with_reducible refine Ev.bind (isName_ev _ q0) ?_
      | with_reducible refine Ev.bind (isName_ev _ q1) ?_
      | with_reducible refine ev_pos (by omega) ?_
      | with_reducible refine ev_neg (by omega) ?_
      | with_reducible refine ev_b (fun c => ?_) (fun c => ?_)
      | with_reducible refine ev_split (fun c => ?_) (fun c => ?_))
    all_goals (first
      | (with_reducible refine ev_ret ?_; simp_all [chainB, lt, ba_iff, pairB, pairLt]; done)
      | (with_reducible refine ev_eq (ih) ?_; simp_all [chainB, lt, ba_iff, pairB, pairLt]; done))
  · rw [pre64 z (by omega), rdA2, ahead_pos _ _ _ z]
    generalize l.getD (i - 1) z_A2_string = y
    have hb := @befB_of y.f0 y.f1 x.f0 x.f1
    have hc := @befB_no y.f0 y.f1 x.f0 x.f1
    repeat' (first
      | with_reducible refine Ev.bind (isName_ev _ q0) ?_
      | with_reducible refine Ev.bind (isName_ev _ q1) ?_
      | with_reducible refine ev_pos (by omega) ?_
      | with_reducible refine ev_neg (by omega) ?_
      | with_reducible refine ev_b (fun c => ?_) (fun c => ?_)
      | with_reducible refine ev_split (fun c => ?_) (fun c => ?_))
    all_goals (first
      | (with_reducible refine ev_ret ?_; simp_all [chainB, lt, ba_iff, pairB, pairLt]; done)
      | (with_reducible refine ev_eq (ih) ?_; simp_all [chainB, lt, ba_iff, pairB, pairLt]; done))
/-- the first place of a name -/
def placeOf (x : ByteArray) : List S_impl_PlantPlace → ByteArray × Int × ByteArray × Bool
  | [] => ((⟨#[]⟩ : ByteArray), 0, (⟨#[]⟩ : ByteArray), false)
  | y :: r => if y.f0 = x then (y.f0, y.f1, y.f2, true) else placeOf x r
theorem placeOf_has (x : ByteArray) : ∀ l : List S_impl_PlantPlace, (placeOf x l).2.2.2 = placeHas l x
  | [] => rfl
  | y :: r => by
    rw [show placeHas (y :: r) x = (decide (y.f0 = x) || placeHas r x) from rfl, ← placeOf_has x r, show placeOf x (y :: r) = if y.f0 = x then (y.f0, y.f1, y.f2, true) else placeOf x r from rfl]
    by_cases c : y.f0 = x
    · rw [if_pos c, decide_eq_true c]; rfl
    · rw [if_neg c, decide_eq_false c]; rfl
theorem place_ev (s : List ByteArray) (f : List S_impl_PlantFoe) (p : List S_impl_PlantPlace) (v : List S_impl_PlantValve) (x : ByteArray) (hp : p.length ≤ 140737488351232) :
    Ev (fun k => impl_Plant_place.f k s f p v x) (placeOf x p) := by
  unfold impl_Plant_place.f
  refine loopL z_impl_PlantPlace p (P := fun i r => Ev (fun k => impl_Plant_place.l0 k p x (i : Int)) (placeOf x r))
    (by refine Ev.step (fun k => by rw [impl_Plant_place.l0]) ?_; exact ev_neg (by omega) (ev_ret rfl)) (fun i y r hi hx _ _ ih => ?_)
  refine Ev.step (fun k => by rw [impl_Plant_place.l0]) (ev_pos (by omega) (ev_pos (by omega) ?_))
  rw [wsucc hi (by omega), rdP, hx]
  unfold placeOf
  refine ev_split (fun c => ev_ret (by rw [if_pos (ba_iff.1 c)])) (fun c => ev_eq ih (by rw [if_neg (fun e => c (ba_iff.2 e))]))
theorem implValid2_ev (s : List ByteArray) (f : List S_impl_PlantFoe) (p : List S_impl_PlantPlace) (v : List S_impl_PlantValve) (hp : p.length ≤ 140737488351232) (hv : v.length ≤ 140737488351232)
    (hz : ∀ x ∈ v, x.f0.size ≤ 140737488351232 ∧ x.f3.size ≤ 140737488351232) : Ev (fun k => impl_PlantValid.l2 k s f p v 0) (valvesB p v) := by
  refine loopL z_impl_PlantValve v (P := fun i r => Ev (fun k => impl_PlantValid.l2 k s f p v (i : Int)) (r.all (valveB p) && chainB valveLt (ahead z_impl_PlantValve v i) r))
    (by refine Ev.step (fun k => by rw [impl_PlantValid.l2]) ?_; exact ev_neg (by omega) (ev_ret rfl)) (fun i x r hi hx hm _ ih => ?_)
  obtain ⟨q0, q1⟩ := hz x hm
  rw [ahead_succ, hx] at ih
  have j0 : ∀ (b : Bool) (R : Bool), R = (!b && (r.all (valveB p) && chainB valveLt (some x) r)) → Ev (fun k => impl_PlantValid.j0 k s f p v (i : Int) b) R := fun b R hR => by
    subst hR
    refine Ev.step (fun k => by rw [impl_PlantValid.j0]) ?_
    rw [wsucc hi (by omega)]
    cases b
    · exact ev_neg (by simp) ih
    · exact ev_pos rfl (ev_ret rfl)
  refine Ev.step (fun k => by rw [impl_PlantValid.l2]) (ev_pos (by omega) (ev_pos (by omega) ?_))
  rw [rdV, hx]
  refine Ev.bind (place_ev s f p v _ hp) (Ev.bind (place_ev s f p v _ hp) ?_)
  rw [placeOf_has, placeOf_has]
  clear hx hz hm
  by_cases z : i = 0
  · subst z
    rw [ahead_zero]
    repeat' (first | with_reducible refine Ev.bind (isName_ev _ q0) ?_ | with_reducible refine Ev.bind (isName_ev _ q1) ?_ | with_reducible refine ev_pos (by omega) ?_ | with_reducible refine ev_neg (by omega) ?_ | with_reducible refine ev_b (fun c => ?_) (fun c => ?_))
    all_goals (with_reducible refine j0 _ _ ?_; simp_all [chainB, valveB, lt])
  · rw [pre64 z (by omega), rdV, ahead_pos _ _ _ z]
    generalize v.getD (i - 1) z_impl_PlantValve = y
    repeat' (first | with_reducible refine Ev.bind (isName_ev _ q0) ?_ | with_reducible refine Ev.bind (isName_ev _ q1) ?_ | with_reducible refine ev_pos (by omega) ?_ | with_reducible refine ev_neg (by omega) ?_ | with_reducible refine ev_b (fun c => ?_) (fun c => ?_))
    all_goals (with_reducible refine j0 _ _ ?_; first | (simp_all [chainB, valveB, valveLt, lt]; done) | (simp_all [chainB, valveB, valveLt, lt, Bool.and_left_comm]; done))
theorem implValid1_ev (s : List ByteArray) (f : List S_impl_PlantFoe) (p : List S_impl_PlantPlace) (v : List S_impl_PlantValve) (hp : p.length ≤ 140737488351232) (hv : v.length ≤ 140737488351232)
    (hz : ∀ x ∈ v, x.f0.size ≤ 140737488351232 ∧ x.f3.size ≤ 140737488351232) (hy : ∀ x ∈ p, x.f0.size ≤ 140737488351232 ∧ x.f2.size ≤ 140737488351232) : Ev (fun k => impl_PlantValid.l1 k s f p v 0) (placesB p && valvesB p v) := by
  have L2 := implValid2_ev s f p v hp hv hz
  generalize valvesB p v = T at L2 ⊢
  refine loopL z_impl_PlantPlace p (P := fun i r => Ev (fun k => impl_PlantValid.l1 k s f p v (i : Int)) ((r.all placeB && chainB placeLt (ahead z_impl_PlantPlace p i) r) && T))
    (by refine Ev.step (fun k => by rw [impl_PlantValid.l1]) ?_; exact ev_neg (by omega) L2) (fun i x r hi hx hm _ ih => ?_)
  refine Ev.step (fun k => by rw [impl_PlantValid.l1]) (ev_pos (by omega) (ev_pos (by omega) ?_))
  obtain ⟨q0, q1⟩ := hy x hm
  rw [wsucc hi (by omega), rdP, hx]
  rw [ahead_succ, hx] at ih
  clear hx hz hy hm L2
  by_cases d : 0 ≤ x.f1 ∧ x.f1 ≤ 1000
  · have hd := inB_t d
    by_cases z : i = 0
    · subst z
      rw [ahead_zero]
      repeat' (first
        | with_reducible refine Ev.bind (isName_ev _ q0) ?_
        | with_reducible refine Ev.bind (isName_ev _ q1) ?_
        | with_reducible refine ev_pos (by omega) ?_
        | with_reducible refine ev_neg (by omega) ?_
        | with_reducible refine ev_b (fun c => ?_) (fun c => ?_)
        | with_reducible refine ev_split (fun c => ?_) (fun c => ?_))
      all_goals (first
        | (with_reducible refine ev_ret ?_; simp_all [chainB, lt, ba_iff, placeB, placeLt]; done)
        | (with_reducible refine ev_eq (ih) ?_; simp_all [chainB, lt, ba_iff, placeB, placeLt]; done))
    · rw [pre64 z (by omega), rdP, ahead_pos _ _ _ z]
      generalize p.getD (i - 1) z_impl_PlantPlace = y
      repeat' (first
        | with_reducible refine Ev.bind (isName_ev _ q0) ?_
        | with_reducible refine Ev.bind (isName_ev _ q1) ?_
        | with_reducible refine ev_pos (by omega) ?_
        | with_reducible refine ev_neg (by omega) ?_
        | with_reducible refine ev_b (fun c => ?_) (fun c => ?_)
        | with_reducible refine ev_split (fun c => ?_) (fun c => ?_))
      all_goals (first
        | (with_reducible refine ev_ret ?_; simp_all [chainB, lt, ba_iff, placeB, placeLt]; done)
        | (with_reducible refine ev_eq (ih) ?_; simp_all [chainB, lt, ba_iff, placeB, placeLt]; done))
  · have hd := inB_f d
    refine Ev.bind (isName_ev _ q0) (ev_b (fun c => ev_split (fun c1 => ev_ret ?_) (fun c1 => ev_pos (by omega) (ev_ret ?_))) (fun c => ev_ret ?_))
    all_goals simp_all [placeB]
theorem implValid0_ev (s : List ByteArray) (f : List S_impl_PlantFoe) (p : List S_impl_PlantPlace) (v : List S_impl_PlantValve) (hs : s.length ≤ 140737488351232) (hf : f.length ≤ 140737488351232) (hp : p.length ≤ 140737488351232) (hv : v.length ≤ 140737488351232)
    (hz : ∀ x ∈ v, x.f0.size ≤ 140737488351232 ∧ x.f3.size ≤ 140737488351232) (hy : ∀ x ∈ p, x.f0.size ≤ 140737488351232 ∧ x.f2.size ≤ 140737488351232) :
    Ev (fun k => impl_PlantValid.l0 k s f p v 0) (f.all (fun x => hasB s x.f0 && hasB s x.f1) && (placesB p && valvesB p v)) := by
  have L1 := implValid1_ev s f p v hp hv hz hy
  generalize (placesB p && valvesB p v) = T at L1 ⊢
  refine loopL z_impl_PlantFoe f (P := fun i r => Ev (fun k => impl_PlantValid.l0 k s f p v (i : Int)) (r.all (fun x => hasB s x.f0 && hasB s x.f1) && T))
    (by refine Ev.step (fun k => by rw [impl_PlantValid.l0]) ?_; exact ev_neg (by omega) L1) (fun i x r hi hx hm _ ih => ?_)
  refine Ev.step (fun k => by rw [impl_PlantValid.l0]) (ev_pos (by omega) (ev_pos (by omega) ?_))
  rw [wsucc hi (by omega), rdF, hx]
  clear hx hz hy hm L1
  repeat' (first
    | with_reducible refine Ev.bind (has_ev _ _ hs) ?_
    | with_reducible refine ev_pos (by omega) ?_
    | with_reducible refine ev_neg (by omega) ?_
    | with_reducible refine ev_b (fun c => ?_) (fun c => ?_)
    | with_reducible refine ev_split (fun c => ?_) (fun c => ?_))
  all_goals (first
    | (with_reducible refine ev_ret ?_; simp_all [chainB, lt, ba_iff]; done)
    | (with_reducible refine ev_eq (ih) ?_; simp_all [chainB, lt, ba_iff]; done))
theorem hasB_name {s : List ByteArray} {x : ByteArray} (hn : namesB s = true) (h : hasB s x = true) : nameB x = true := by
  unfold namesB at hn
  rw [Bool.and_eq_true] at hn
  exact List.all_eq_true.1 hn.1 x (hasB_iff.1 h)
theorem chain_map {α β : Type} {p : α → α → Bool} {q : β → β → Bool} (g : α → β) (h : ∀ x y, q (g x) (g y) = p x y) : ∀ (r : List α) (o : Option α), chainB q (o.map g) (r.map g) = chainB p o r
  | [], o => by cases o <;> rfl
  | x :: r, none => chain_map g h r (some x)
  | x :: r, some y => by
    show (q (g y) (g x) && chainB q (some (g x)) (r.map g)) = (p y x && chainB p (some x) r)
    rw [h]; congr 1; exact chain_map g h r (some x)
theorem foes_all (s : List ByteArray) (hn : namesB s = true) : ∀ f : List S_impl_PlantFoe, ((f.map mkPair).all pairB && f.all (fun x => hasB s x.f0 && hasB s x.f1)) = f.all (foeB s)
  | [] => rfl
  | x :: r => by
    rw [List.map_cons, List.all_cons, List.all_cons, List.all_cons, ← foes_all s hn r]
    have h0 := @hasB_name s x.f0 hn
    have h1 := @hasB_name s x.f1 hn
    unfold pairB foeB mkPair
    simp only
    generalize nameB x.f0 = a0 at *
    generalize nameB x.f1 = a1 at *
    generalize hasB s x.f0 = b0 at *
    generalize hasB s x.f1 = b1 at *
    generalize lt x.f0 x.f1 = c at *
    generalize List.all (List.map _ _) _ = d at *
    generalize List.all _ _ = d2 at *
    revert a0 a1 b0 b1 c d d2
    decide
theorem foes_same (s : List ByteArray) (f : List S_impl_PlantFoe) (hn : namesB s = true) : (pairsB (f.map mkPair) && f.all (fun x => hasB s x.f0 && hasB s x.f1)) = foesB s f := by
  unfold pairsB foesB
  rw [show chainB pairLt none (f.map mkPair) = chainB foeLt none f from chain_map mkPair (fun _ _ => rfl) f none]
  rw [← foes_all s hn f]
  generalize List.all (List.map _ _) _ = d at *
  generalize List.all _ _ = d2 at *
  generalize chainB _ _ _ = d3 at *
  revert d d2 d3
  decide
structure SzP (s : List ByteArray) (f : List S_impl_PlantFoe) (p : List S_impl_PlantPlace) (v : List S_impl_PlantValve) : Prop where
  hs : s.length ≤ 140737488351232
  hf : f.length ≤ 4398046511104
  hp : p.length ≤ 140737488351232
  hv : v.length ≤ 140737488351232
  s1 : ∀ x ∈ s, x.size ≤ 140737488351232
  f1 : ∀ x ∈ f, x.f0.size ≤ 140737488351232 ∧ x.f1.size ≤ 140737488351232
  p1 : ∀ x ∈ p, x.f0.size ≤ 140737488351232 ∧ x.f2.size ≤ 140737488351232
  v1 : ∀ x ∈ v, x.f0.size ≤ 140737488351232 ∧ x.f3.size ≤ 140737488351232
theorem implValid_ev (s : List ByteArray) (f : List S_impl_PlantFoe) (p : List S_impl_PlantPlace) (v : List S_impl_PlantValve) (z : SzP s f p v) :
    Ev (fun k => impl_PlantValid.f k s f p v) (validB s f p v) := by
  unfold impl_PlantValid.f validB
  have hf := z.hf
  have e0 := implValid0_ev s f p v z.hs (by omega) z.hp z.hv z.v1 z.p1
  have eN := names_ev s z.hs z.s1
  have eF := foesOk_ev (f.map mkPair) 12 (by rw [List.length_map]; omega) (fun x hx => by obtain ⟨y, hy, rfl⟩ := List.mem_map.1 hx; exact z.f1 y hy)
  have eP := pairs_ev s f p v hf
  have hsame := foes_same s f
  rw [List.length_map, show decide ((f.length : Int) ≤ 12) = decide (f.length ≤ 12) from decide_eq_decide.2 (by omega)] at eF
  generalize pairsB (f.map mkPair) = b1 at eF hsame
  generalize f.all (fun x => hasB s x.f0 && hasB s x.f1) = b2 at e0 hsame
  generalize foesB s f = b3 at hsame ⊢
  generalize placesB p = b4 at e0 ⊢
  generalize valvesB p v = b5 at e0 ⊢
  generalize namesB s = b6 at eN hsame ⊢
  generalize decide (f.length ≤ 12) = b7 at eF ⊢
  refine ev_split (fun c => ev_ret ?_) (fun c => Ev.bind eN (ev_b (fun c6 => ?_) (fun c6 => ev_ret ?_)))
  · rw [decide_eq_false (by omega : ¬ s.length ≤ 8)]; rfl
  · subst c6
    have hsame := hsame rfl
    subst hsame
    rw [decide_eq_true (by omega : s.length ≤ 8)]
    refine Ev.bind eP (Ev.bind eF (ev_b (fun c1 => ?_) (fun c1 => ev_ret ?_)))
    · rw [Bool.and_eq_true] at c1
      obtain ⟨rfl, rfl⟩ := c1
      refine ev_split (fun d => ev_ret ?_) (fun d => ev_split (fun d2 => ev_ret ?_) (fun d2 => ev_eq e0 ?_))
      · rw [decide_eq_false (by omega : ¬ p.length ≤ 14)]; simp
      · rw [decide_eq_false (by omega : ¬ v.length ≤ 18)]; simp
      · rw [decide_eq_true (by omega : p.length ≤ 14), decide_eq_true (by omega : v.length ≤ 18)]; simp
    · clear e0 eN eF
      generalize decide (p.length ≤ 14) = d1
      generalize decide (v.length ≤ 18) = d2
      revert b1 b2 b4 b5 b7 d1 d2
      decide
  · subst c6; simp
/-! ### plants that are handed in -/
theorem szp_of (x : S_laws_Plant) (h : ok_laws_Plant x) : SzP x.f0 (x.f1.map cv_laws_PlantFoe) (x.f2.map cv_laws_PlantPlace) (x.f3.map cv_laws_PlantValve) := by
  obtain ⟨⟨h0, k0⟩, ⟨h1, k1⟩, ⟨h2, k2⟩, ⟨h3, k3⟩⟩ := h
  refine ⟨by omega, by rw [List.length_map]; omega, by rw [List.length_map]; omega, by rw [List.length_map]; omega, k0, fun y hy => ?_, fun y hy => ?_, fun y hy => ?_⟩
  · obtain ⟨z, hz, rfl⟩ := List.mem_map.1 hy
    exact k1 z hz
  · obtain ⟨z, hz, rfl⟩ := List.mem_map.1 hy
    exact ⟨(k2 z hz).1, (k2 z hz).2.2⟩
  · obtain ⟨z, hz, rfl⟩ := List.mem_map.1 hy
    exact ⟨(k3 z hz).1, (k3 z hz).2.2.2⟩
theorem eqPlantRefl_ev (x : S_laws_Plant) (h : ok_laws_Plant x) : Ev (fun k => laws_eqPlant.f k x.f0 (x.f1.map cv_laws_PlantFoe) (x.f2.map cv_laws_PlantPlace) (x.f3.map cv_laws_PlantValve) x.f0 (x.f1.map cv_laws_PlantFoe) (x.f2.map cv_laws_PlantPlace) (x.f3.map cv_laws_PlantValve)) true := by
  obtain ⟨⟨h0, k0⟩, ⟨h1, k1⟩, ⟨h2, k2⟩, ⟨h3, k3⟩⟩ := h
  refine eqPlant_ev _ _ _ _ ⟨h0, k0⟩ ⟨by rw [List.length_map]; exact h1, fun y hy => ?_⟩ ⟨by rw [List.length_map]; exact h2, fun y hy => ?_⟩ ⟨by rw [List.length_map]; exact h3, fun y hy => ?_⟩
  · obtain ⟨z, hz, rfl⟩ := List.mem_map.1 hy
    exact k1 z hz
  · obtain ⟨z, hz, rfl⟩ := List.mem_map.1 hy
    exact k2 z hz
  · obtain ⟨z, hz, rfl⟩ := List.mem_map.1 hy
    exact k3 z hz
theorem specValid_of (x : S_laws_Plant) (h : ok_laws_Plant x) : Ev (fun k => spec_PlantValid.f k x.f0 (x.f1.map cv_laws_PlantFoe) (x.f2.map cv_laws_PlantPlace) (x.f3.map cv_laws_PlantValve)) (validB x.f0 (x.f1.map cv_laws_PlantFoe) (x.f2.map cv_laws_PlantPlace) (x.f3.map cv_laws_PlantValve)) := by
  have z := szp_of x h
  have := z.hf
  exact specValid_ev _ _ _ _ z.hs (by omega) z.hp z.hv
theorem valid_v {s : List ByteArray} {f : List S_impl_PlantFoe} {p : List S_impl_PlantPlace} {v : List S_impl_PlantValve} (h : validB s f p v = true) : v.length ≤ 18 := by
  simp only [validB, Bool.and_eq_true, decide_eq_true_eq] at h; exact h.2.2.2.1
theorem valid_p {s : List ByteArray} {f : List S_impl_PlantFoe} {p : List S_impl_PlantPlace} {v : List S_impl_PlantValve} (h : validB s f p v = true) : p.length ≤ 14 := by
  simp only [validB, Bool.and_eq_true, decide_eq_true_eq] at h; exact h.2.2.1.1
/-! ### numbers, written -/
theorem dec_small {n : Nat} (h : n < 10) : Lib.decDigits n = [UInt8.ofNat (48 + n)] := by rw [Lib.decDigits, dif_pos h]
theorem dec_big {n : Nat} (h : ¬ n < 10) : Lib.decDigits n = Lib.decDigits (n / 10) ++ [UInt8.ofNat (48 + n % 10)] := by rw [Lib.decDigits, dif_neg h]
theorem dec_len : ∀ (m n : Nat), n ≤ m → (Lib.decDigits n).length ≤ n + 1
  | m, n, h => by
    by_cases c : n < 10
    · rw [dec_small c]; simp
    · rw [dec_big c]
      have := dec_len (n / 10) (n / 10) (Nat.le_refl _)
      simp; omega
termination_by m n => n
decreasing_by omega
def decB (n : Int) : ByteArray := ⟨(Lib.decDigits n.toNat).toArray⟩
theorem decB_size {n : Int} (h0 : 0 ≤ n) (h : n ≤ 10000) : (decB n).size ≤ 10001 := by
  have := dec_len n.toNat n.toNat (Nat.le_refl _)
  show (Lib.decDigits n.toNat).toArray.size ≤ 10001
  rw [List.size_toArray]; omega
theorem itoa_ev (n : Int) (h : 0 ≤ n) (h1 : n ≤ 10000) : Ev (fun _ => strconv_Itoa.f n) (decB n) := by
  unfold strconv_Itoa.f itoaSf
  rw [if_pos ⟨by omega, by omega⟩]
  exact ev_ret (by unfold itoaS Lib.itoa decB; rw [if_neg (by omega)])
theorem dig (d : Int) (h0 : 0 ≤ d) (h1 : d < 10) : UInt8.ofNat (IntKind.wrap .u8 (wrap64 (48 + d))).toNat = UInt8.ofNat (48 + d.toNat) := by
  have : d = 0 ∨ d = 1 ∨ d = 2 ∨ d = 3 ∨ d = 4 ∨ d = 5 ∨ d = 6 ∨ d = 7 ∨ d = 8 ∨ d = 9 := by omega
  rcases this with rfl | rfl | rfl | rfl | rfl | rfl | rfl | rfl | rfl | rfl <;> decide +kernel
theorem ba_app (a b : List UInt8) : (⟨a.toArray⟩ : ByteArray) ++ ⟨b.toArray⟩ = ⟨(a ++ b).toArray⟩ := by
  apply ByteArray.ext
  simp [ByteArray.data_append]
/-! ### a plant, written -/
theorem l3Dec_ev : ∀ (m : Nat) (n : Int), 0 ≤ n → n ≤ 10000 → n.toNat ≤ m → Ev (fun k => spec_l3Dec.f k n) (decB n)
  | m, n, h0, h1, hm => by
    refine Ev.step (fun k => by rw [spec_l3Dec.f]) ?_
    by_cases c : n < 10
    · refine ev_pos c (ev_ret ?_)
      unfold decB
      rw [dec_small (by omega), dig n h0 c]
    · have e1 : wrap64 (Int.tdiv n 10) = n / 10 := by rw [Int.tdiv_eq_ediv_of_nonneg h0]; exact w64 (by omega) (by omega)
      have e2 : Int.tmod n 10 = n % 10 := Int.tmod_eq_emod_of_nonneg h0
      rw [e1, e2, dig (n % 10) (by omega) (by omega)]
      have hs := decB_size (n := n / 10) (by omega) (by omega)
      refine ev_neg c (Ev.bind (l3Dec_ev (n / 10).toNat (n / 10) (by omega) (by omega) (Nat.le_refl _)) (ev_pos ?_ (ev_ret ?_)))
      · have : (⟨#[UInt8.ofNat (48 + (n % 10).toNat)]⟩ : ByteArray).size = 1 := rfl
        rw [this]; omega
      · unfold decB
        rw [dec_big (n := n.toNat) (by omega), show (n / 10).toNat = n.toNat / 10 by omega, show (n % 10).toNat = n.toNat % 10 by omega]
        exact ba_app _ _
termination_by m n => n.toNat
decreasing_by omega
theorem z1 : (⟨#[32]⟩ : ByteArray).size = 1 := rfl
theorem zn : (⟨#[10]⟩ : ByteArray).size = 1 := rfl
theorem z0 : (⟨#[]⟩ : ByteArray).size = 0 := rfl
theorem zs : (⟨#[115, 116, 117, 102, 102, 32]⟩ : ByteArray).size = 6 := rfl
theorem zf : (⟨#[102, 111, 101, 32]⟩ : ByteArray).size = 4 := rfl
theorem zp : (⟨#[118, 101, 115, 115, 101, 108, 32]⟩ : ByteArray).size = 7 := rfl
theorem zj : (⟨#[106, 111, 105, 110, 116, 32]⟩ : ByteArray).size = 6 := rfl
theorem zv : (⟨#[118, 97, 108, 118, 101, 32]⟩ : ByteArray).size = 6 := rfl
def lineS (x : ByteArray) : ByteArray := (⟨#[115, 116, 117, 102, 102, 32]⟩ : ByteArray) ++ (x ++ (⟨#[10]⟩ : ByteArray))
def lineF (x : S_impl_PlantFoe) : ByteArray := (⟨#[102, 111, 101, 32]⟩ : ByteArray) ++ (x.f0 ++ ((⟨#[32]⟩ : ByteArray) ++ (x.f1 ++ (⟨#[10]⟩ : ByteArray))))
def lineP (x : S_impl_PlantPlace) : ByteArray := if x.f1 > 0 then (⟨#[118, 101, 115, 115, 101, 108, 32]⟩ : ByteArray) ++ (x.f0 ++ ((⟨#[32]⟩ : ByteArray) ++ (decB x.f1 ++ ((⟨#[32]⟩ : ByteArray) ++ (x.f2 ++ (⟨#[10]⟩ : ByteArray)))))) else (⟨#[106, 111, 105, 110, 116, 32]⟩ : ByteArray) ++ (x.f0 ++ ((⟨#[32]⟩ : ByteArray) ++ (x.f2 ++ (⟨#[10]⟩ : ByteArray))))
def lineV (x : S_impl_PlantValve) : ByteArray := (⟨#[118, 97, 108, 118, 101, 32]⟩ : ByteArray) ++ (x.f0 ++ ((⟨#[32]⟩ : ByteArray) ++ (x.f1 ++ ((⟨#[32]⟩ : ByteArray) ++ (x.f2 ++ ((⟨#[32]⟩ : ByteArray) ++ (x.f3 ++ (⟨#[10]⟩ : ByteArray))))))))
def cat {α : Type} (g : α → ByteArray) : List α → ByteArray → ByteArray
  | [], a => a
  | x :: r, a => cat g r (a ++ g x)
theorem cat_size {α : Type} (g : α → ByteArray) (c : Nat) : ∀ (l : List α) (a : ByteArray), (∀ x ∈ l, (g x).size ≤ c) → (cat g l a).size ≤ a.size + l.length * c
  | [], a, _ => by simp [cat]
  | x :: r, a, h => by
    have h1 := h x (List.mem_cons_self ..)
    have h2 := cat_size g c r (a ++ g x) (fun y hy => h y (List.mem_cons_of_mem _ hy))
    rw [ByteArray.size_append] at h2
    rw [cat, List.length_cons, Nat.add_mul]
    omega
theorem ev_arg {α β : Type} {f : Nat → α → Option β} {a b : α} {r : β} (h : Ev (fun k => f k b) r) (e : a = b) : Ev (fun k => f k a) r := e ▸ h
structure PrV (x : S_impl_PlantValve) : Prop where
  a0 : x.f0.size ≤ 8
  a1 : x.f1.size ≤ 8
  a2 : x.f2.size ≤ 8
  a3 : x.f3.size ≤ 8
structure PrP (x : S_impl_PlantPlace) : Prop where
  a0 : x.f0.size ≤ 8
  a2 : x.f2.size ≤ 8
  b1 : 0 ≤ x.f1 ∧ x.f1 ≤ 1000
structure PrAll (s : List ByteArray) (f : List S_impl_PlantFoe) (p : List S_impl_PlantPlace) (v : List S_impl_PlantValve) : Prop where
  ls : s.length ≤ 100
  lf : f.length ≤ 100
  lp : p.length ≤ 100
  lv : v.length ≤ 100
  s : ∀ x ∈ s, x.size ≤ 8
  f : ∀ x ∈ f, x.f0.size ≤ 8 ∧ x.f1.size ≤ 8
  p : ∀ x ∈ p, PrP x
  v : ∀ x ∈ v, PrV x
theorem nameB_size {s : ByteArray} (h : nameB s = true) : s.size ≤ 8 := by
  unfold nameB at h
  rw [Bool.and_eq_true, decide_eq_true_iff] at h
  exact h.1.2
theorem inB_spec {a b c : Int} (h : inB a b c = true) : b ≤ a ∧ a ≤ c := of_decide_eq_true h
theorem placeHas_name {p : List S_impl_PlantPlace} (h : ∀ x ∈ p, placeB x = true) {x : ByteArray} (hx : placeHas p x = true) : x.size ≤ 8 := by
  unfold placeHas at hx
  rw [List.any_eq_true] at hx
  obtain ⟨y, hy, e⟩ := hx
  have e := of_decide_eq_true e
  have := h y hy
  unfold placeB at this
  rw [Bool.and_eq_true] at this
  rw [← e]; exact nameB_size this.1
theorem lineS_size {x : ByteArray} (h : x.size ≤ 8) : (lineS x).size ≤ 20000 := by
  unfold lineS
  simp only [ByteArray.size_append, zs, zn]; omega
theorem lineF_size {x : S_impl_PlantFoe} (h : x.f0.size ≤ 8 ∧ x.f1.size ≤ 8) : (lineF x).size ≤ 20000 := by
  obtain ⟨h1, h2⟩ := h
  unfold lineF
  simp only [ByteArray.size_append, zf, z1, zn]; omega
theorem lineP_size {x : S_impl_PlantPlace} (h : PrP x) : (lineP x).size ≤ 20000 := by
  have h1 := decB_size h.b1.1 (by have := h.b1.2; omega)
  have := h.a0; have := h.a2
  unfold lineP
  split <;> (simp only [ByteArray.size_append, zp, zj, z1, zn]; omega)
theorem lineV_size {x : S_impl_PlantValve} (h : PrV x) : (lineV x).size ≤ 20000 := by
  have := h.a0; have := h.a1; have := h.a2; have := h.a3
  unfold lineV
  simp only [ByteArray.size_append, zv, z1, zn]; omega
section
variable (s : List ByteArray) (f : List S_impl_PlantFoe) (p : List S_impl_PlantPlace) (v : List S_impl_PlantValve) (h : PrAll s f p v)
include h
theorem spec3 (acc : ByteArray) (ha : acc.size ≤ 10000000) : Ev (fun k => spec_PlantPrint.l3 k v acc 0) (cat lineV v acc) := by
  have key := loopL z_impl_PlantValve v (P := fun i r => i ≤ v.length → ∀ acc : ByteArray, acc.size ≤ 10000000 + i * 20000 → Ev (fun k => spec_PlantPrint.l3 k v acc (i : Int)) (cat lineV r acc))
    (fun _ acc _ => by refine Ev.step (fun k => by rw [spec_PlantPrint.l3]) ?_; exact ev_neg (by omega) (ev_ret rfl)) (fun i x r hi hx hm _ ih _ acc ha => ?_)
  · exact key (by omega) _ (by omega)
  have hv := h.v x hm
  have hs := lineV_size hv
  have := hv.a0; have := hv.a1; have := hv.a2; have := hv.a3; have := h.lv
  refine Ev.step (fun k => by rw [spec_PlantPrint.l3]) (ev_pos (by omega) (ev_pos (by omega) ?_))
  rw [rdV, hx, wsucc hi (by omega)]
  repeat' (first | (refine ev_pos ?hh ?_; (case hh => ((try simp only [ByteArray.size_append, zv, z1, zn]); omega))) | fail)
  exact ev_arg (f := fun k a => spec_PlantPrint.l3 k v a ((i + 1 : Nat) : Int)) (ih (by omega) _ (by rw [ByteArray.size_append]; omega)) (by simp only [lineV, ByteArray.append_assoc])
theorem impl3 (acc : ByteArray) (ha : acc.size ≤ 10000000) : Ev (fun k => impl_PlantPrint.l3 k v acc 0) (cat lineV v acc) := by
  have key := loopL z_impl_PlantValve v (P := fun i r => i ≤ v.length → ∀ acc : ByteArray, acc.size ≤ 10000000 + i * 20000 → Ev (fun k => impl_PlantPrint.l3 k v acc (i : Int)) (cat lineV r acc))
    (fun _ acc _ => by refine Ev.step (fun k => by rw [impl_PlantPrint.l3]) ?_; exact ev_neg (by omega) (ev_ret rfl)) (fun i x r hi hx hm _ ih _ acc ha => ?_)
  · exact key (by omega) _ (by omega)
  have hv := h.v x hm
  have hs := lineV_size hv
  have := hv.a0; have := hv.a1; have := hv.a2; have := hv.a3; have := h.lv
  refine Ev.step (fun k => by rw [impl_PlantPrint.l3]) (ev_pos (by omega) (ev_pos (by omega) ?_))
  rw [rdV, hx, wsucc hi (by omega)]
  repeat' (first | (refine ev_pos ?hh ?_; (case hh => ((try simp only [ByteArray.size_append, zv, z1, zn]); omega))) | fail)
  exact ev_arg (f := fun k a => impl_PlantPrint.l3 k v a ((i + 1 : Nat) : Int)) (ih (by omega) _ (by rw [ByteArray.size_append]; omega)) (by simp only [lineV, ByteArray.append_assoc])
theorem spec2 (acc : ByteArray) (ha : acc.size ≤ 7000000) : Ev (fun k => spec_PlantPrint.l2 k p v acc 0) (cat lineV v (cat lineP p acc)) := by
  have key := loopL z_impl_PlantPlace p (P := fun i r => i ≤ p.length → ∀ acc : ByteArray, acc.size ≤ 7000000 + i * 20000 → Ev (fun k => spec_PlantPrint.l2 k p v acc (i : Int)) (cat lineV v (cat lineP r acc)))
    (fun _ acc hac => by have := h.lp; refine Ev.step (fun k => by rw [spec_PlantPrint.l2]) ?_; exact ev_neg (by omega) (spec3 s f p v h acc (by omega))) (fun i x r hi hx hm _ ih _ acc ha => ?_)
  · exact key (by omega) _ (by omega)
  have hp := h.p x hm
  have hs := lineP_size hp
  have hd := decB_size hp.b1.1 (by have := hp.b1.2; omega)
  have hb := hp.b1
  have := hp.a0; have := hp.a2; have := h.lp
  refine Ev.step (fun k => by rw [spec_PlantPrint.l2]) (ev_pos (by omega) (ev_pos (by omega) ?_))
  rw [rdP, hx, wsucc hi (by omega)]
  refine ev_split (fun c => ?_) (fun c => ?_)
  · repeat' (first | (refine ev_pos ?hh ?_; (case hh => ((try simp only [ByteArray.size_append, zp, z1, zn]); omega))) | fail)
    refine Ev.bind (l3Dec_ev _ _ hb.1 (by omega) (Nat.le_refl _)) ?_
    repeat' (first | (refine ev_pos ?hh ?_; (case hh => ((try simp only [ByteArray.size_append, zp, z1, zn]); omega))) | fail)
    exact ev_arg (f := fun k a => spec_PlantPrint.l2 k p v a ((i + 1 : Nat) : Int)) (ih (by omega) _ (by rw [ByteArray.size_append]; omega)) (by simp only [lineP, if_pos c, ByteArray.append_assoc])
  · repeat' (first | (refine ev_pos ?hh ?_; (case hh => ((try simp only [ByteArray.size_append, zj, z1, zn]); omega))) | fail)
    exact ev_arg (f := fun k a => spec_PlantPrint.l2 k p v a ((i + 1 : Nat) : Int)) (ih (by omega) _ (by rw [ByteArray.size_append]; omega)) (by simp only [lineP, if_neg c, ByteArray.append_assoc])
theorem impl2 (acc : ByteArray) (ha : acc.size ≤ 7000000) : Ev (fun k => impl_PlantPrint.l2 k p v acc 0) (cat lineV v (cat lineP p acc)) := by
  have key := loopL z_impl_PlantPlace p (P := fun i r => i ≤ p.length → ∀ acc : ByteArray, acc.size ≤ 7000000 + i * 20000 → Ev (fun k => impl_PlantPrint.l2 k p v acc (i : Int)) (cat lineV v (cat lineP r acc)))
    (fun _ acc hac => by have := h.lp; refine Ev.step (fun k => by rw [impl_PlantPrint.l2]) ?_; exact ev_neg (by omega) (impl3 s f p v h acc (by omega))) (fun i x r hi hx hm _ ih _ acc ha => ?_)
  · exact key (by omega) _ (by omega)
  have hp := h.p x hm
  have hs := lineP_size hp
  have hd := decB_size hp.b1.1 (by have := hp.b1.2; omega)
  have hb := hp.b1
  have := hp.a0; have := hp.a2; have := h.lp
  refine Ev.step (fun k => by rw [impl_PlantPrint.l2]) (ev_pos (by omega) (ev_pos (by omega) ?_))
  rw [rdP, hx, wsucc hi (by omega)]
  refine ev_split (fun c => ?_) (fun c => ?_)
  · repeat' (first | (refine ev_pos ?hh ?_; (case hh => ((try simp only [ByteArray.size_append, zp, z1, zn]); omega))) | fail)
    refine Ev.bind (itoa_ev _ hb.1 (by omega)) ?_
    repeat' (first | (refine ev_pos ?hh ?_; (case hh => ((try simp only [ByteArray.size_append, zp, z1, zn]); omega))) | fail)
    exact ev_arg (f := fun k a => impl_PlantPrint.l2 k p v a ((i + 1 : Nat) : Int)) (ih (by omega) _ (by rw [ByteArray.size_append]; omega)) (by simp only [lineP, if_pos c, ByteArray.append_assoc])
  · repeat' (first | (refine ev_pos ?hh ?_; (case hh => ((try simp only [ByteArray.size_append, zj, z1, zn]); omega))) | fail)
    exact ev_arg (f := fun k a => impl_PlantPrint.l2 k p v a ((i + 1 : Nat) : Int)) (ih (by omega) _ (by rw [ByteArray.size_append]; omega)) (by simp only [lineP, if_neg c, ByteArray.append_assoc])
theorem spec1 (acc : ByteArray) (ha : acc.size ≤ 4000000) : Ev (fun k => spec_PlantPrint.l1 k f p v acc 0) (cat lineV v (cat lineP p (cat lineF f acc))) := by
  have key := loopL z_impl_PlantFoe f (P := fun i r => i ≤ f.length → ∀ acc : ByteArray, acc.size ≤ 4000000 + i * 20000 → Ev (fun k => spec_PlantPrint.l1 k f p v acc (i : Int)) (cat lineV v (cat lineP p (cat lineF r acc))))
    (fun _ acc hac => by have := h.lf; refine Ev.step (fun k => by rw [spec_PlantPrint.l1]) ?_; exact ev_neg (by omega) (spec2 s f p v h acc (by omega))) (fun i x r hi hx hm _ ih _ acc ha => ?_)
  · exact key (by omega) _ (by omega)
  obtain ⟨h1, h2⟩ := h.f x hm
  have hs := lineF_size ⟨h1, h2⟩
  have := h.lf
  refine Ev.step (fun k => by rw [spec_PlantPrint.l1]) (ev_pos (by omega) ?_)
  rw [rdF, hx, wsucc hi (by omega)]
  repeat' (first | (refine ev_pos ?hh ?_; (case hh => ((try simp only [ByteArray.size_append, zf, z1, zn]); omega))) | fail)
  exact ev_arg (f := fun k a => spec_PlantPrint.l1 k f p v a ((i + 1 : Nat) : Int)) (ih (by omega) _ (by rw [ByteArray.size_append]; omega)) (by simp only [lineF, ByteArray.append_assoc])
theorem impl1 (acc : ByteArray) (ha : acc.size ≤ 4000000) : Ev (fun k => impl_PlantPrint.l1 k f p v acc 0) (cat lineV v (cat lineP p (cat lineF f acc))) := by
  have key := loopL z_impl_PlantFoe f (P := fun i r => i ≤ f.length → ∀ acc : ByteArray, acc.size ≤ 4000000 + i * 20000 → Ev (fun k => impl_PlantPrint.l1 k f p v acc (i : Int)) (cat lineV v (cat lineP p (cat lineF r acc))))
    (fun _ acc hac => by have := h.lf; refine Ev.step (fun k => by rw [impl_PlantPrint.l1]) ?_; exact ev_neg (by omega) (impl2 s f p v h acc (by omega))) (fun i x r hi hx hm _ ih _ acc ha => ?_)
  · exact key (by omega) _ (by omega)
  obtain ⟨h1, h2⟩ := h.f x hm
  have hs := lineF_size ⟨h1, h2⟩
  have := h.lf
  refine Ev.step (fun k => by rw [impl_PlantPrint.l1]) (ev_pos (by omega) ?_)
  rw [rdF, hx, wsucc hi (by omega)]
  repeat' (first | (refine ev_pos ?hh ?_; (case hh => ((try simp only [ByteArray.size_append, zf, z1, zn]); omega))) | fail)
  exact ev_arg (f := fun k a => impl_PlantPrint.l1 k f p v a ((i + 1 : Nat) : Int)) (ih (by omega) _ (by rw [ByteArray.size_append]; omega)) (by simp only [lineF, ByteArray.append_assoc])
theorem spec0 (acc : ByteArray) (ha : acc.size ≤ 1000000) : Ev (fun k => spec_PlantPrint.l0 k s f p v acc 0) (cat lineV v (cat lineP p (cat lineF f (cat lineS s acc)))) := by
  have key := loopL ByteArray.empty s (P := fun i r => i ≤ s.length → ∀ acc : ByteArray, acc.size ≤ 1000000 + i * 20000 → Ev (fun k => spec_PlantPrint.l0 k s f p v acc (i : Int)) (cat lineV v (cat lineP p (cat lineF f (cat lineS r acc)))))
    (fun _ acc hac => by have := h.ls; refine Ev.step (fun k => by rw [spec_PlantPrint.l0]) ?_; exact ev_neg (by omega) (spec1 s f p v h acc (by omega))) (fun i x r hi hx hm _ ih _ acc ha => ?_)
  · exact key (by omega) _ (by omega)
  have h1 := h.s x hm
  have hs := lineS_size h1
  have := h.ls
  refine Ev.step (fun k => by rw [spec_PlantPrint.l0]) (ev_pos (by omega) ?_)
  rw [rdOf_nat, hx, wsucc hi (by omega)]
  repeat' (first | (refine ev_pos ?hh ?_; (case hh => ((try simp only [ByteArray.size_append, zs, z1, zn]); omega))) | fail)
  exact ev_arg (f := fun k a => spec_PlantPrint.l0 k s f p v a ((i + 1 : Nat) : Int)) (ih (by omega) _ (by rw [ByteArray.size_append]; omega)) (by simp only [lineS, ByteArray.append_assoc])
theorem impl0 (acc : ByteArray) (ha : acc.size ≤ 1000000) : Ev (fun k => impl_PlantPrint.l0 k s f p v acc 0) (cat lineV v (cat lineP p (cat lineF f (cat lineS s acc)))) := by
  have key := loopL ByteArray.empty s (P := fun i r => i ≤ s.length → ∀ acc : ByteArray, acc.size ≤ 1000000 + i * 20000 → Ev (fun k => impl_PlantPrint.l0 k s f p v acc (i : Int)) (cat lineV v (cat lineP p (cat lineF f (cat lineS r acc)))))
    (fun _ acc hac => by have := h.ls; refine Ev.step (fun k => by rw [impl_PlantPrint.l0]) ?_; exact ev_neg (by omega) (impl1 s f p v h acc (by omega))) (fun i x r hi hx hm _ ih _ acc ha => ?_)
  · exact key (by omega) _ (by omega)
  have h1 := h.s x hm
  have hs := lineS_size h1
  have := h.ls
  refine Ev.step (fun k => by rw [impl_PlantPrint.l0]) (ev_pos (by omega) ?_)
  rw [rdOf_nat, hx, wsucc hi (by omega)]
  repeat' (first | (refine ev_pos ?hh ?_; (case hh => ((try simp only [ByteArray.size_append, zs, z1, zn]); omega))) | fail)
  exact ev_arg (f := fun k a => impl_PlantPrint.l0 k s f p v a ((i + 1 : Nat) : Int)) (ih (by omega) _ (by rw [ByteArray.size_append]; omega)) (by simp only [lineS, ByteArray.append_assoc])
end
def plantText (s : List ByteArray) (f : List S_impl_PlantFoe) (p : List S_impl_PlantPlace) (v : List S_impl_PlantValve) : ByteArray := cat lineV v (cat lineP p (cat lineF f (cat lineS s (⟨#[]⟩ : ByteArray))))
theorem prAll {s : List ByteArray} {f : List S_impl_PlantFoe} {p : List S_impl_PlantPlace} {v : List S_impl_PlantValve} (h : validB s f p v = true) : PrAll s f p v := by
  simp only [validB, Bool.and_eq_true, decide_eq_true_eq] at h
  obtain ⟨⟨l1, l2⟩, ⟨hn, hf⟩, ⟨l3, hp⟩, l4, hv⟩ := h
  have hn' := hn
  unfold namesB at hn'
  unfold foesB at hf
  unfold placesB at hp
  unfold valvesB at hv
  rw [Bool.and_eq_true] at hn' hf hp hv
  have hpl := List.all_eq_true.1 hp.1
  refine ⟨by omega, by omega, by omega, by omega, fun x hx => nameB_size (List.all_eq_true.1 hn'.1 x hx), fun x hx => ?_, fun x hx => ?_, fun x hx => ?_⟩
  · have := List.all_eq_true.1 hf.1 x hx
    simp only [foeB, Bool.and_eq_true] at this
    exact ⟨nameB_size (hasB_name hn this.2.1), nameB_size (hasB_name hn this.2.2)⟩
  · have := hpl x hx
    simp only [placeB, Bool.and_eq_true] at this
    have h2 := inB_spec this.2.1
    exact ⟨nameB_size this.1, nameB_size this.2.2, by omega⟩
  · have := List.all_eq_true.1 hv.1 x hx
    simp only [valveB, Bool.and_eq_true] at this
    exact ⟨nameB_size this.1, placeHas_name hpl this.2.2.1, placeHas_name hpl this.2.2.2.1, nameB_size this.2.2.2.2⟩
theorem FnExactPlantPrint : ∀ (x0 : S_laws_Plant), (ok_laws_Plant x0) → ∃ k, laws_FnExactPlantPrint.f k x0.f0 x0.f1 x0.f2 x0.f3 = some true := by
  intro x hx
  obtain ⟨q, hq⟩ := szPlant_ev x hx 1048576
  have ht := toPlant_ev x hx
  have hS := specValid_of x hx
  have hI := implValid_ev _ _ _ _ (szp_of x hx)
  have hE := eqPlantRefl_ev x hx
  generalize x.f1.map cv_laws_PlantFoe = f at *
  generalize x.f2.map cv_laws_PlantPlace = p at *
  generalize x.f3.map cv_laws_PlantValve = v at *
  have hv := @prAll x.f0 f p v
  generalize hb : validB x.f0 f p v = b at *
  have eS : Ev (fun k => spec_PlantPrint.f k x.f0 f p v) (if b = true then plantText x.f0 f p v else (⟨#[]⟩ : ByteArray)) := by
    unfold spec_PlantPrint.f
    refine Ev.bind hS ?_
    cases b
    · exact ev_neg (by simp) (ev_ret rfl)
    · exact ev_pos rfl (spec0 _ _ _ _ (hv rfl) _ (by rw [z0]; omega))
  have eI : Ev (fun k => impl_PlantPrint.f k x.f0 f p v) (if b = true then plantText x.f0 f p v else (⟨#[]⟩ : ByteArray)) := by
    unfold impl_PlantPrint.f
    refine Ev.bind hI ?_
    cases b
    · exact ev_neg (by simp) (ev_ret rfl)
    · exact ev_pos rfl (impl0 _ _ _ _ (hv rfl) _ (by rw [z0]; omega))
  generalize (if b = true then plantText x.f0 f p v else (⟨#[]⟩ : ByteArray)) = R at *
  clear hS hI hv hb hx
  refine Ev.rounds ?_
  unfold laws_FnExactPlantPrint.f
  refine Ev.bind hq (ev_split (fun _ => ev_ret rfl) (fun _ => ?_))
  repeat' (first
    | with_reducible refine Ev.bind ht ?_
    | with_reducible refine Ev.bind eS ?_
    | with_reducible refine Ev.bind eI ?_
    | with_reducible refine Ev.bind hE ?_
    | with_reducible refine ev_neg (by first | omega | (dsimp only; omega)) ?_
    | with_reducible refine ev_pos rfl ?_
    | with_reducible exact ev_ret rfl)
end Go.Proofs.YteflhnpcgoijfaaDoor.Pure
