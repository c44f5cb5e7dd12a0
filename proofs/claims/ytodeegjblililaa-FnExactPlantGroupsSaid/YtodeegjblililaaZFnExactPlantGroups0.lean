import Derived.Test.YtodeegjblililaaY2
set_option linter.unusedVariables false
namespace Go.Proofs.Ytodeegjblililaa.PS
open Go Go.RowKit Go.Aw
structure S_laws_PlantFoe where
  f0 : ByteArray
  f1 : ByteArray
def z_laws_PlantFoe : S_laws_PlantFoe := ⟨(⟨#[]⟩ : ByteArray), (⟨#[]⟩ : ByteArray)⟩
def rd_laws_PlantFoe (xs : List S_laws_PlantFoe) (i : Int) : S_laws_PlantFoe := xs.getD i.toNat z_laws_PlantFoe
structure S_laws_PlantPlace where
  f0 : ByteArray
  f1 : Int
  f2 : ByteArray
def z_laws_PlantPlace : S_laws_PlantPlace := ⟨(⟨#[]⟩ : ByteArray), (0 : Int), (⟨#[]⟩ : ByteArray)⟩
def rd_laws_PlantPlace (xs : List S_laws_PlantPlace) (i : Int) : S_laws_PlantPlace := xs.getD i.toNat z_laws_PlantPlace
structure S_laws_PlantValve where
  f0 : ByteArray
  f1 : ByteArray
  f2 : ByteArray
  f3 : ByteArray
def z_laws_PlantValve : S_laws_PlantValve := ⟨(⟨#[]⟩ : ByteArray), (⟨#[]⟩ : ByteArray), (⟨#[]⟩ : ByteArray), (⟨#[]⟩ : ByteArray)⟩
def rd_laws_PlantValve (xs : List S_laws_PlantValve) (i : Int) : S_laws_PlantValve := xs.getD i.toNat z_laws_PlantValve
structure S_impl_PlantFoe where
  f0 : ByteArray
  f1 : ByteArray
def z_impl_PlantFoe : S_impl_PlantFoe := ⟨(⟨#[]⟩ : ByteArray), (⟨#[]⟩ : ByteArray)⟩
def rd_impl_PlantFoe (xs : List S_impl_PlantFoe) (i : Int) : S_impl_PlantFoe := xs.getD i.toNat z_impl_PlantFoe
structure S_impl_PlantPlace where
  f0 : ByteArray
  f1 : Int
  f2 : ByteArray
def z_impl_PlantPlace : S_impl_PlantPlace := ⟨(⟨#[]⟩ : ByteArray), (0 : Int), (⟨#[]⟩ : ByteArray)⟩
def rd_impl_PlantPlace (xs : List S_impl_PlantPlace) (i : Int) : S_impl_PlantPlace := xs.getD i.toNat z_impl_PlantPlace
structure S_impl_PlantValve where
  f0 : ByteArray
  f1 : ByteArray
  f2 : ByteArray
  f3 : ByteArray
def z_impl_PlantValve : S_impl_PlantValve := ⟨(⟨#[]⟩ : ByteArray), (⟨#[]⟩ : ByteArray), (⟨#[]⟩ : ByteArray), (⟨#[]⟩ : ByteArray)⟩
def rd_impl_PlantValve (xs : List S_impl_PlantValve) (i : Int) : S_impl_PlantValve := xs.getD i.toNat z_impl_PlantValve
structure S_impl_PlantSet where
  f0 : List ByteArray
def z_impl_PlantSet : S_impl_PlantSet := ⟨([] : List ByteArray)⟩
def rd_impl_PlantSet (xs : List S_impl_PlantSet) (i : Int) : S_impl_PlantSet := xs.getD i.toNat z_impl_PlantSet
structure S_A2_string where
  f0 : ByteArray
  f1 : ByteArray
def z_A2_string : S_A2_string := ⟨(⟨#[]⟩ : ByteArray), (⟨#[]⟩ : ByteArray)⟩
def rd_A2_string (xs : List S_A2_string) (i : Int) : S_A2_string := xs.getD i.toNat z_A2_string
structure S_laws_Plant where
  f0 : List ByteArray
  f1 : List S_laws_PlantFoe
  f2 : List S_laws_PlantPlace
  f3 : List S_laws_PlantValve
def z_laws_Plant : S_laws_Plant := ⟨([] : List ByteArray), ([] : List S_laws_PlantFoe), ([] : List S_laws_PlantPlace), ([] : List S_laws_PlantValve)⟩
def rd_laws_Plant (xs : List S_laws_Plant) (i : Int) : S_laws_Plant := xs.getD i.toNat z_laws_Plant
def ok_laws_PlantFoe (y : S_laws_PlantFoe) : Prop := (y.f0.size ≤ 140737488351232) ∧ (y.f1.size ≤ 140737488351232)
def ok_laws_PlantPlace (y : S_laws_PlantPlace) : Prop := (y.f0.size ≤ 140737488351232) ∧ ((Lit.int .i64 y.f1).wf = true) ∧ (y.f2.size ≤ 140737488351232)
def ok_laws_PlantValve (y : S_laws_PlantValve) : Prop := (y.f0.size ≤ 140737488351232) ∧ (y.f1.size ≤ 140737488351232) ∧ (y.f2.size ≤ 140737488351232) ∧ (y.f3.size ≤ 140737488351232)
def ok_laws_Plant (y : S_laws_Plant) : Prop := ((y.f0.length ≤ 9223372036854775807 ∧ y.f0.length * 16 ≤ 140737488351232) ∧ ∀ z ∈ y.f0, z.size ≤ 140737488351232) ∧ ((y.f1.length ≤ 9223372036854775807 ∧ y.f1.length * 32 ≤ 140737488351232) ∧ ∀ z ∈ y.f1, ok_laws_PlantFoe z) ∧ ((y.f2.length ≤ 9223372036854775807 ∧ y.f2.length * 40 ≤ 140737488351232) ∧ ∀ z ∈ y.f2, ok_laws_PlantPlace z) ∧ ((y.f3.length ≤ 9223372036854775807 ∧ y.f3.length * 64 ≤ 140737488351232) ∧ ∀ z ∈ y.f3, ok_laws_PlantValve z)
def laws_szStringS.l0 : Nat → List ByteArray → Int → Int → Option (Int)
  | 0, _, _, _ => none
  | k + 1, l0, x1, x5 => (if x5 < (l0.length : Int) then (if 0 ≤ x5 then (if (wrap64 (x1 - ((rdOf ByteArray.empty l0 x5).size : Int))) < 0 then (some (-1)) else (laws_szStringS.l0 k l0 (wrap64 (x1 - ((rdOf ByteArray.empty l0 x5).size : Int))) (wrap64 (x5 + 1)))) else none) else (some x1))
def laws_szStringS.f (k : Nat) (l0 : List ByteArray) (a1 : Int) : Option (Int) := (if (wrap64 (a1 - (l0.length : Int))) < 0 then (some (-1)) else (laws_szStringS.l0 k l0 (wrap64 (a1 - (l0.length : Int))) 0))
def laws_szPlantFoe.f (a0_0 : ByteArray) (a0_1 : ByteArray) (a1 : Int) : Option (Int) := (if (wrap64 (a1 - (a0_0.size : Int))) < 0 then (some (-1)) else (if (wrap64 ((wrap64 (a1 - (a0_0.size : Int))) - (a0_1.size : Int))) < 0 then (some (-1)) else (some (wrap64 ((wrap64 (a1 - (a0_0.size : Int))) - (a0_1.size : Int))))))
def laws_szPlantFoeS.l0 : Nat → List S_laws_PlantFoe → Int → Int → Option (Int)
  | 0, _, _, _ => none
  | k + 1, l0, x1, x5 => (if x5 < (l0.length : Int) then (if 0 ≤ x5 then ((laws_szPlantFoe.f ((rd_laws_PlantFoe l0 x5).f0) ((rd_laws_PlantFoe l0 x5).f1) x1).bind fun t8 => (if t8 < 0 then (some (-1)) else (laws_szPlantFoeS.l0 k l0 t8 (wrap64 (x5 + 1))))) else none) else (some x1))
def laws_szPlantFoeS.f (k : Nat) (l0 : List S_laws_PlantFoe) (a1 : Int) : Option (Int) := (if (wrap64 (a1 - (l0.length : Int))) < 0 then (some (-1)) else (laws_szPlantFoeS.l0 k l0 (wrap64 (a1 - (l0.length : Int))) 0))
def laws_szPlantPlace.f (a0_0 : ByteArray) (a0_1 : Int) (a0_2 : ByteArray) (a1 : Int) : Option (Int) := (if (wrap64 (a1 - (a0_0.size : Int))) < 0 then (some (-1)) else (if (wrap64 ((wrap64 (a1 - (a0_0.size : Int))) - (a0_2.size : Int))) < 0 then (some (-1)) else (some (wrap64 ((wrap64 (a1 - (a0_0.size : Int))) - (a0_2.size : Int))))))
def laws_szPlantPlaceS.l0 : Nat → List S_laws_PlantPlace → Int → Int → Option (Int)
  | 0, _, _, _ => none
  | k + 1, l0, x1, x5 => (if x5 < (l0.length : Int) then (if 0 ≤ x5 then ((laws_szPlantPlace.f ((rd_laws_PlantPlace l0 x5).f0) ((rd_laws_PlantPlace l0 x5).f1) ((rd_laws_PlantPlace l0 x5).f2) x1).bind fun t20 => (if t20 < 0 then (some (-1)) else (laws_szPlantPlaceS.l0 k l0 t20 (wrap64 (x5 + 1))))) else none) else (some x1))
def laws_szPlantPlaceS.f (k : Nat) (l0 : List S_laws_PlantPlace) (a1 : Int) : Option (Int) := (if (wrap64 (a1 - (l0.length : Int))) < 0 then (some (-1)) else (laws_szPlantPlaceS.l0 k l0 (wrap64 (a1 - (l0.length : Int))) 0))
def laws_szPlantValve.f (a0_0 : ByteArray) (a0_1 : ByteArray) (a0_2 : ByteArray) (a0_3 : ByteArray) (a1 : Int) : Option (Int) := (if (wrap64 (a1 - (a0_0.size : Int))) < 0 then (some (-1)) else (if (wrap64 ((wrap64 (a1 - (a0_0.size : Int))) - (a0_1.size : Int))) < 0 then (some (-1)) else (if (wrap64 ((wrap64 ((wrap64 (a1 - (a0_0.size : Int))) - (a0_1.size : Int))) - (a0_2.size : Int))) < 0 then (some (-1)) else (if (wrap64 ((wrap64 ((wrap64 ((wrap64 (a1 - (a0_0.size : Int))) - (a0_1.size : Int))) - (a0_2.size : Int))) - (a0_3.size : Int))) < 0 then (some (-1)) else (some (wrap64 ((wrap64 ((wrap64 ((wrap64 (a1 - (a0_0.size : Int))) - (a0_1.size : Int))) - (a0_2.size : Int))) - (a0_3.size : Int))))))))
def laws_szPlantValveS.l0 : Nat → List S_laws_PlantValve → Int → Int → Option (Int)
  | 0, _, _, _ => none
  | k + 1, l0, x1, x5 => (if x5 < (l0.length : Int) then (if 0 ≤ x5 then ((laws_szPlantValve.f ((rd_laws_PlantValve l0 x5).f0) ((rd_laws_PlantValve l0 x5).f1) ((rd_laws_PlantValve l0 x5).f2) ((rd_laws_PlantValve l0 x5).f3) x1).bind fun t36 => (if t36 < 0 then (some (-1)) else (laws_szPlantValveS.l0 k l0 t36 (wrap64 (x5 + 1))))) else none) else (some x1))
def laws_szPlantValveS.f (k : Nat) (l0 : List S_laws_PlantValve) (a1 : Int) : Option (Int) := (if (wrap64 (a1 - (l0.length : Int))) < 0 then (some (-1)) else (laws_szPlantValveS.l0 k l0 (wrap64 (a1 - (l0.length : Int))) 0))
def laws_szPlant.f (k : Nat) (a0_0 : List ByteArray) (a0_1 : List S_laws_PlantFoe) (a0_2 : List S_laws_PlantPlace) (a0_3 : List S_laws_PlantValve) (a1 : Int) : Option (Int) := ((laws_szStringS.f k a0_0 a1).bind fun t38 => (if t38 < 0 then (some (-1)) else ((laws_szPlantFoeS.f k a0_1 t38).bind fun t40 => (if t40 < 0 then (some (-1)) else ((laws_szPlantPlaceS.f k a0_2 t40).bind fun t42 => (if t42 < 0 then (some (-1)) else ((laws_szPlantValveS.f k a0_3 t42).bind fun t44 => (if t44 < 0 then (some (-1)) else (some t44)))))))))
def laws_toStringS.l0 : Nat → List ByteArray → List ByteArray → Int → Option (List ByteArray)
  | 0, _, _, _ => none
  | k + 1, l0, x3, x4 => (if x4 < (l0.length : Int) then (if 0 ≤ x4 then (if x4 < (x3.length : Int) then (laws_toStringS.l0 k l0 (x3.set (x4).toNat (rdOf ByteArray.empty l0 x4)) (wrap64 (x4 + 1))) else none) else none) else (some x3))
def laws_toStringS.f (k : Nat) (l0 : List ByteArray) : Option (List ByteArray) := (if (l0.length : Int) * 16 ≤ 140737488355328 then (laws_toStringS.l0 k l0 (List.replicate ((l0.length : Int)).toNat (⟨#[]⟩ : ByteArray)) 0) else none)
def laws_toPlantFoe.f (a0_0 : ByteArray) (a0_1 : ByteArray) : Option (ByteArray × ByteArray) := (some (a0_0, a0_1))
def laws_toPlantFoeS.l0 : Nat → List S_laws_PlantFoe → List S_impl_PlantFoe → Int → Option (List S_impl_PlantFoe)
  | 0, _, _, _ => none
  | k + 1, l0, x3, x4 => (if x4 < (l0.length : Int) then (if 0 ≤ x4 then ((laws_toPlantFoe.f ((rd_laws_PlantFoe l0 x4).f0) ((rd_laws_PlantFoe l0 x4).f1)).bind fun t69 => (if x4 < (x3.length : Int) then (laws_toPlantFoeS.l0 k l0 (x3.set (x4).toNat (⟨t69.1, t69.2⟩ : S_impl_PlantFoe)) (wrap64 (x4 + 1))) else none)) else none) else (some x3))
def laws_toPlantFoeS.f (k : Nat) (l0 : List S_laws_PlantFoe) : Option (List S_impl_PlantFoe) := (if (l0.length : Int) * 32 ≤ 140737488355328 then (laws_toPlantFoeS.l0 k l0 (List.replicate ((l0.length : Int)).toNat z_impl_PlantFoe) 0) else none)
def laws_toPlantPlace.f (a0_0 : ByteArray) (a0_1 : Int) (a0_2 : ByteArray) : Option (ByteArray × Int × ByteArray) := (some (a0_0, a0_1, a0_2))
def laws_toPlantPlaceS.l0 : Nat → List S_laws_PlantPlace → List S_impl_PlantPlace → Int → Option (List S_impl_PlantPlace)
  | 0, _, _, _ => none
  | k + 1, l0, x3, x4 => (if x4 < (l0.length : Int) then (if 0 ≤ x4 then ((laws_toPlantPlace.f ((rd_laws_PlantPlace l0 x4).f0) ((rd_laws_PlantPlace l0 x4).f1) ((rd_laws_PlantPlace l0 x4).f2)).bind fun t90 => (if x4 < (x3.length : Int) then (laws_toPlantPlaceS.l0 k l0 (x3.set (x4).toNat (⟨t90.1, t90.2.1, t90.2.2⟩ : S_impl_PlantPlace)) (wrap64 (x4 + 1))) else none)) else none) else (some x3))
def laws_toPlantPlaceS.f (k : Nat) (l0 : List S_laws_PlantPlace) : Option (List S_impl_PlantPlace) := (if (l0.length : Int) * 40 ≤ 140737488355328 then (laws_toPlantPlaceS.l0 k l0 (List.replicate ((l0.length : Int)).toNat z_impl_PlantPlace) 0) else none)
def laws_toPlantValve.f (a0_0 : ByteArray) (a0_1 : ByteArray) (a0_2 : ByteArray) (a0_3 : ByteArray) : Option (ByteArray × ByteArray × ByteArray × ByteArray) := (some (a0_0, a0_1, a0_2, a0_3))
def laws_toPlantValveS.l0 : Nat → List S_laws_PlantValve → List S_impl_PlantValve → Int → Option (List S_impl_PlantValve)
  | 0, _, _, _ => none
  | k + 1, l0, x3, x4 => (if x4 < (l0.length : Int) then (if 0 ≤ x4 then ((laws_toPlantValve.f ((rd_laws_PlantValve l0 x4).f0) ((rd_laws_PlantValve l0 x4).f1) ((rd_laws_PlantValve l0 x4).f2) ((rd_laws_PlantValve l0 x4).f3)).bind fun t115 => (if x4 < (x3.length : Int) then (laws_toPlantValveS.l0 k l0 (x3.set (x4).toNat (⟨t115.1, t115.2.1, t115.2.2.1, t115.2.2.2⟩ : S_impl_PlantValve)) (wrap64 (x4 + 1))) else none)) else none) else (some x3))
def laws_toPlantValveS.f (k : Nat) (l0 : List S_laws_PlantValve) : Option (List S_impl_PlantValve) := (if (l0.length : Int) * 64 ≤ 140737488355328 then (laws_toPlantValveS.l0 k l0 (List.replicate ((l0.length : Int)).toNat z_impl_PlantValve) 0) else none)
def laws_toPlant.f (k : Nat) (a0_0 : List ByteArray) (a0_1 : List S_laws_PlantFoe) (a0_2 : List S_laws_PlantPlace) (a0_3 : List S_laws_PlantValve) : Option ((List ByteArray) × (List S_impl_PlantFoe) × (List S_impl_PlantPlace) × (List S_impl_PlantValve)) := ((laws_toStringS.f k a0_0).bind fun t1900 => ((laws_toPlantFoeS.f k a0_1).bind fun t1902 => ((laws_toPlantPlaceS.f k a0_2).bind fun t1904 => ((laws_toPlantValveS.f k a0_3).bind fun t1906 => (some (t1900, t1902, t1904, t1906))))))
def spec_l1In.f (a0 : Int) (a1 : Int) (a2 : Int) : Option (Bool) := (if a0 ≥ a1 then (some (decide (a0 ≤ a2))) else (some false))
def spec_l2NameOk.l0 : Nat → ByteArray → Int → Option (Bool)
  | 0, _, _ => none
  | k + 1, a0, x3 => (if x3 < (a0.size : Int) then (if 0 ≤ x3 then (if (bt a0 x3) ≥ 97 then (if (bt a0 x3) ≤ 122 then (spec_l2NameOk.l0 k a0 (wrap64 (x3 + 1))) else (if (bt a0 x3) ≥ 48 then (if (bt a0 x3) ≤ 57 then (spec_l2NameOk.l0 k a0 (wrap64 (x3 + 1))) else (if (bt a0 x3) = 45 then (spec_l2NameOk.l0 k a0 (wrap64 (x3 + 1))) else (some false))) else (if (bt a0 x3) = 45 then (spec_l2NameOk.l0 k a0 (wrap64 (x3 + 1))) else (some false)))) else (if (bt a0 x3) ≥ 48 then (if (bt a0 x3) ≤ 57 then (spec_l2NameOk.l0 k a0 (wrap64 (x3 + 1))) else (if (bt a0 x3) = 45 then (spec_l2NameOk.l0 k a0 (wrap64 (x3 + 1))) else (some false))) else (if (bt a0 x3) = 45 then (spec_l2NameOk.l0 k a0 (wrap64 (x3 + 1))) else (some false)))) else none) else (some true))
def spec_l2NameOk.f (k : Nat) (a0 : ByteArray) : Option (Bool) := ((spec_l1In.f (a0.size : Int) 1 8).bind fun t156 => (if t156 = true then (spec_l2NameOk.l0 k a0 0) else (some false)))
def spec_l2Has.l0 : Nat → List ByteArray → ByteArray → Int → Option (Bool)
  | 0, _, _, _ => none
  | k + 1, l0, a1, x5 => (if x5 < (l0.length : Int) then (if 0 ≤ x5 then (if (rdOf ByteArray.empty l0 x5).toList = a1.toList then (some true) else (spec_l2Has.l0 k l0 a1 (wrap64 (x5 + 1)))) else none) else (some false))
def spec_l2Has.f (k : Nat) (l0 : List ByteArray) (a1 : ByteArray) : Option (Bool) := (spec_l2Has.l0 k l0 a1 0)
def spec_l2Before.f (a0_0 : ByteArray) (a0_1 : ByteArray) (a1_0 : ByteArray) (a1_1 : ByteArray) : Option (Bool) := (if (Op.bytesLess a0_0.toList a1_0.toList) = true then (some true) else (if a0_0.toList = a1_0.toList then (some (Op.bytesLess a0_1.toList a1_1.toList)) else (some false)))
def spec_l2StuffsOk.l1 : Nat → List ByteArray → List S_impl_PlantFoe → Int → Option (Bool)
  | 0, _, _, _ => none
  | k + 1, a0_0, a0_1, x4 => (if x4 < (a0_1.length : Int) then (if 0 ≤ x4 then (if (Op.bytesLess ((rd_impl_PlantFoe a0_1 x4).f0).toList ((rd_impl_PlantFoe a0_1 x4).f1).toList) = true then ((spec_l2Has.f k a0_0 ((rd_impl_PlantFoe a0_1 x4).f0)).bind fun t192 => (if t192 = true then ((spec_l2Has.f k a0_0 ((rd_impl_PlantFoe a0_1 x4).f1)).bind fun t193 => (if t193 = true then (if x4 > 0 then (if 0 ≤ (wrap64 (x4 - 1)) then (if (wrap64 (x4 - 1)) < (a0_1.length : Int) then ((spec_l2Before.f ((rd_impl_PlantFoe a0_1 (wrap64 (x4 - 1))).f0) ((rd_impl_PlantFoe a0_1 (wrap64 (x4 - 1))).f1) ((rd_impl_PlantFoe a0_1 x4).f0) ((rd_impl_PlantFoe a0_1 x4).f1)).bind fun t194 => (if t194 = true then (spec_l2StuffsOk.l1 k a0_0 a0_1 (wrap64 (x4 + 1))) else (some false))) else none) else none) else (spec_l2StuffsOk.l1 k a0_0 a0_1 (wrap64 (x4 + 1)))) else (some false))) else (some false))) else (some false)) else none) else (some true))
def spec_l2StuffsOk.l0 : Nat → List ByteArray → List S_impl_PlantFoe → Int → Option (Bool)
  | 0, _, _, _ => none
  | k + 1, a0_0, a0_1, x3 => (if x3 < (a0_0.length : Int) then (if 0 ≤ x3 then ((spec_l2NameOk.f k (rdOf ByteArray.empty a0_0 x3)).bind fun t182 => (if t182 = true then (if x3 > 0 then (if 0 ≤ (wrap64 (x3 - 1)) then (if (wrap64 (x3 - 1)) < (a0_0.length : Int) then (if (Op.bytesLess (rdOf ByteArray.empty a0_0 (wrap64 (x3 - 1))).toList (rdOf ByteArray.empty a0_0 x3).toList) = true then (spec_l2StuffsOk.l0 k a0_0 a0_1 (wrap64 (x3 + 1))) else (some false)) else none) else none) else (spec_l2StuffsOk.l0 k a0_0 a0_1 (wrap64 (x3 + 1)))) else (some false))) else none) else (spec_l2StuffsOk.l1 k a0_0 a0_1 0))
def spec_l2StuffsOk.f (k : Nat) (a0_0 : List ByteArray) (a0_1 : List S_impl_PlantFoe) (a0_2 : List S_impl_PlantPlace) (a0_3 : List S_impl_PlantValve) : Option (Bool) := (if (a0_0.length : Int) > 8 then (some false) else (if (a0_1.length : Int) > 12 then (some false) else (spec_l2StuffsOk.l0 k a0_0 a0_1 0)))
def spec_l2PlacesOk.l0 : Nat → List S_impl_PlantPlace → Int → Option (Bool)
  | 0, _, _ => none
  | k + 1, a0_2, x3 => (if x3 < (a0_2.length : Int) then (if 0 ≤ x3 then ((spec_l2NameOk.f k ((rd_impl_PlantPlace a0_2 x3).f0)).bind fun t217 => (if t217 = true then (if x3 > 0 then (if 0 ≤ (wrap64 (x3 - 1)) then (if (wrap64 (x3 - 1)) < (a0_2.length : Int) then (if (Op.bytesLess ((rd_impl_PlantPlace a0_2 (wrap64 (x3 - 1))).f0).toList ((rd_impl_PlantPlace a0_2 x3).f0).toList) = true then ((spec_l1In.f ((rd_impl_PlantPlace a0_2 x3).f1) 0 1000).bind fun t218 => (if t218 = true then ((spec_l2NameOk.f k ((rd_impl_PlantPlace a0_2 x3).f2)).bind fun t219 => (if t219 = true then (spec_l2PlacesOk.l0 k a0_2 (wrap64 (x3 + 1))) else (some false))) else (some false))) else (some false)) else none) else none) else ((spec_l1In.f ((rd_impl_PlantPlace a0_2 x3).f1) 0 1000).bind fun t220 => (if t220 = true then ((spec_l2NameOk.f k ((rd_impl_PlantPlace a0_2 x3).f2)).bind fun t221 => (if t221 = true then (spec_l2PlacesOk.l0 k a0_2 (wrap64 (x3 + 1))) else (some false))) else (some false)))) else (some false))) else none) else (some true))
def spec_l2PlacesOk.f (k : Nat) (a0_0 : List ByteArray) (a0_1 : List S_impl_PlantFoe) (a0_2 : List S_impl_PlantPlace) (a0_3 : List S_impl_PlantValve) : Option (Bool) := (if (a0_2.length : Int) > 14 then (some false) else (spec_l2PlacesOk.l0 k a0_2 0))
def spec_l2Place.l0 : Nat → List S_impl_PlantPlace → ByteArray → Int → Option (Int)
  | 0, _, _, _ => none
  | k + 1, a0_2, a1, x5 => (if x5 < (a0_2.length : Int) then (if 0 ≤ x5 then (if ((rd_impl_PlantPlace a0_2 x5).f0).toList = a1.toList then (some x5) else (spec_l2Place.l0 k a0_2 a1 (wrap64 (x5 + 1)))) else none) else (some (-1)))
def spec_l2Place.f (k : Nat) (a0_0 : List ByteArray) (a0_1 : List S_impl_PlantFoe) (a0_2 : List S_impl_PlantPlace) (a0_3 : List S_impl_PlantValve) (a1 : ByteArray) : Option (Int) := (spec_l2Place.l0 k a0_2 a1 0)
def spec_l2ValvesOk.l0 : Nat → List ByteArray → List S_impl_PlantFoe → List S_impl_PlantPlace → List S_impl_PlantValve → Int → Option (Bool)
  | 0, _, _, _, _, _ => none
  | k + 1, a0_0, a0_1, a0_2, a0_3, x3 => (if x3 < (a0_3.length : Int) then (if 0 ≤ x3 then ((spec_l2NameOk.f k ((rd_impl_PlantValve a0_3 x3).f0)).bind fun t260 => (if t260 = true then (if x3 > 0 then (if 0 ≤ (wrap64 (x3 - 1)) then (if (wrap64 (x3 - 1)) < (a0_3.length : Int) then (if (Op.bytesLess ((rd_impl_PlantValve a0_3 (wrap64 (x3 - 1))).f0).toList ((rd_impl_PlantValve a0_3 x3).f0).toList) = true then (if (Op.bytesLess ((rd_impl_PlantValve a0_3 x3).f1).toList ((rd_impl_PlantValve a0_3 x3).f2).toList) = true then ((spec_l2Place.f k a0_0 a0_1 a0_2 a0_3 ((rd_impl_PlantValve a0_3 x3).f1)).bind fun t261 => (if t261 < 0 then (some false) else ((spec_l2Place.f k a0_0 a0_1 a0_2 a0_3 ((rd_impl_PlantValve a0_3 x3).f2)).bind fun t262 => (if t262 < 0 then (some false) else ((spec_l2NameOk.f k ((rd_impl_PlantValve a0_3 x3).f3)).bind fun t263 => (if t263 = true then (spec_l2ValvesOk.l0 k a0_0 a0_1 a0_2 a0_3 (wrap64 (x3 + 1))) else (some false))))))) else (some false)) else (some false)) else none) else none) else (if (Op.bytesLess ((rd_impl_PlantValve a0_3 x3).f1).toList ((rd_impl_PlantValve a0_3 x3).f2).toList) = true then ((spec_l2Place.f k a0_0 a0_1 a0_2 a0_3 ((rd_impl_PlantValve a0_3 x3).f1)).bind fun t264 => (if t264 < 0 then (some false) else ((spec_l2Place.f k a0_0 a0_1 a0_2 a0_3 ((rd_impl_PlantValve a0_3 x3).f2)).bind fun t265 => (if t265 < 0 then (some false) else ((spec_l2NameOk.f k ((rd_impl_PlantValve a0_3 x3).f3)).bind fun t266 => (if t266 = true then (spec_l2ValvesOk.l0 k a0_0 a0_1 a0_2 a0_3 (wrap64 (x3 + 1))) else (some false))))))) else (some false))) else (some false))) else none) else (some true))
def spec_l2ValvesOk.f (k : Nat) (a0_0 : List ByteArray) (a0_1 : List S_impl_PlantFoe) (a0_2 : List S_impl_PlantPlace) (a0_3 : List S_impl_PlantValve) : Option (Bool) := (if (a0_3.length : Int) > 18 then (some false) else (spec_l2ValvesOk.l0 k a0_0 a0_1 a0_2 a0_3 0))
def spec_PlantValid.f (k : Nat) (a0_0 : List ByteArray) (a0_1 : List S_impl_PlantFoe) (a0_2 : List S_impl_PlantPlace) (a0_3 : List S_impl_PlantValve) : Option (Bool) := ((spec_l2StuffsOk.f k a0_0 a0_1 a0_2 a0_3).bind fun t270 => (if t270 = true then ((spec_l2PlacesOk.f k a0_0 a0_1 a0_2 a0_3).bind fun t271 => (if t271 = true then ((spec_l2ValvesOk.f k a0_0 a0_1 a0_2 a0_3).bind fun t272 => (some t272)) else (some false))) else (some false)))
def spec_l4Insert.l0 : Nat → List ByteArray → ByteArray → Int → Option (List ByteArray)
  | 0, _, _, _ => none
  | k + 1, l0, a1, x5 => (if x5 < (l0.length : Int) then (if 0 ≤ x5 then (if (Op.bytesLess (rdOf ByteArray.empty l0 x5).toList a1.toList) = true then (spec_l4Insert.l0 k l0 a1 (wrap64 (x5 + 1))) else (if (rdOf ByteArray.empty l0 x5).toList = a1.toList then (some l0) else (if x5 ≤ (l0.length : Int) then (if (0 + (x5).toNat) * 16 ≤ 140737488355328 then (if (0 + (x5).toNat + 1) * 16 ≤ 140737488355328 then (if (0 + (x5).toNat + 1 + (l0.length - (x5).toNat)) * 16 ≤ 140737488355328 then (some (((([] : List ByteArray) ++ (l0.take (x5).toNat)) ++ ([a1] : List ByteArray)) ++ (l0.drop (x5).toNat))) else none) else none) else none) else none))) else none) else (if 0 ≤ x5 then (if x5 ≤ (l0.length : Int) then (if (0 + (x5).toNat) * 16 ≤ 140737488355328 then (if (0 + (x5).toNat + 1) * 16 ≤ 140737488355328 then (if (0 + (x5).toNat + 1 + (l0.length - (x5).toNat)) * 16 ≤ 140737488355328 then (some (((([] : List ByteArray) ++ (l0.take (x5).toNat)) ++ ([a1] : List ByteArray)) ++ (l0.drop (x5).toNat))) else none) else none) else none) else none) else none))
def spec_l4Insert.f (k : Nat) (l0 : List ByteArray) (a1 : ByteArray) : Option (List ByteArray) := (spec_l4Insert.l0 k l0 a1 0)
mutual
def spec_l4Group.l1 : Nat → List S_impl_PlantPlace → List S_impl_PlantValve → List ByteArray → List ByteArray → Int → Int → Option (List ByteArray)
  | 0, _, _, _, _, _, _ => none
  | k + 1, a0_2, a0_3, l1, x7_1, x8, x9 => (if x9 < (a0_3.length : Int) then (if 0 ≤ x9 then ((spec_l2Has.f k l1 ((rd_impl_PlantValve a0_3 x9).f0)).bind fun t460 => (if t460 = true then ((spec_l2Has.f k x7_1 ((rd_impl_PlantValve a0_3 x9).f1)).bind fun t461 => ((spec_l2Has.f k x7_1 ((rd_impl_PlantValve a0_3 x9).f2)).bind fun t462 => (if (t461 != t462) = true then ((spec_l4Insert.f k x7_1 ((rd_impl_PlantValve a0_3 x9).f1)).bind fun t463 => ((spec_l4Insert.f k t463 ((rd_impl_PlantValve a0_3 x9).f2)).bind fun t464 => (spec_l4Group.l1 k a0_2 a0_3 l1 t464 x8 (wrap64 (x9 + 1))))) else (spec_l4Group.l1 k a0_2 a0_3 l1 x7_1 x8 (wrap64 (x9 + 1)))))) else (spec_l4Group.l1 k a0_2 a0_3 l1 x7_1 x8 (wrap64 (x9 + 1))))) else none) else (spec_l4Group.l0 k a0_2 a0_3 l1 x7_1 (wrap64 (x8 + 1))))
def spec_l4Group.l0 : Nat → List S_impl_PlantPlace → List S_impl_PlantValve → List ByteArray → List ByteArray → Int → Option (List ByteArray)
  | 0, _, _, _, _, _ => none
  | k + 1, a0_2, a0_3, l1, x7, x8 => (if x8 < (a0_2.length : Int) then (spec_l4Group.l1 k a0_2 a0_3 l1 x7 x8 0) else (some x7))
end
def spec_l4Group.f (k : Nat) (a0_0 : List ByteArray) (a0_1 : List S_impl_PlantFoe) (a0_2 : List S_impl_PlantPlace) (a0_3 : List S_impl_PlantValve) (l1 : List ByteArray) (a2 : ByteArray) : Option (List ByteArray) := (spec_l4Group.l0 k a0_2 a0_3 l1 ([a2] : List ByteArray) 0)
def spec_PlantGroups.l0 : Nat → List ByteArray → List S_impl_PlantFoe → List S_impl_PlantPlace → List S_impl_PlantValve → List ByteArray → List S_impl_PlantSet → Int → Option (List S_impl_PlantSet)
  | 0, _, _, _, _, _, _, _ => none
  | k + 1, a0_0, a0_1, a0_2, a0_3, l1, x5, x6 => (if x6 < (a0_2.length : Int) then (if 0 ≤ x6 then ((spec_l4Group.f k a0_0 a0_1 a0_2 a0_3 l1 ((rd_impl_PlantPlace a0_2 x6).f0)).bind fun t473 => (if 0 < (t473.length : Int) then (if (rdOf ByteArray.empty t473 0).toList = ((rd_impl_PlantPlace a0_2 x6).f0).toList then (if (x5.length + 1) * 24 ≤ 140737488355328 then (spec_PlantGroups.l0 k a0_0 a0_1 a0_2 a0_3 l1 (x5 ++ ([(⟨t473⟩ : S_impl_PlantSet)] : List S_impl_PlantSet)) (wrap64 (x6 + 1))) else none) else (spec_PlantGroups.l0 k a0_0 a0_1 a0_2 a0_3 l1 x5 (wrap64 (x6 + 1)))) else none)) else none) else (some x5))
def spec_PlantGroups.f (k : Nat) (a0_0 : List ByteArray) (a0_1 : List S_impl_PlantFoe) (a0_2 : List S_impl_PlantPlace) (a0_3 : List S_impl_PlantValve) (l1 : List ByteArray) : Option (List S_impl_PlantSet) := ((spec_PlantValid.f k a0_0 a0_1 a0_2 a0_3).bind fun t467 => (if t467 = true then (spec_PlantGroups.l0 k a0_0 a0_1 a0_2 a0_3 l1 ([] : List S_impl_PlantSet) 0) else (some ([] : List S_impl_PlantSet))))
def impl_isName.l0 : Nat → ByteArray → Int → Option (Bool)
  | 0, _, _ => none
  | k + 1, a0, x7 => (if x7 < (a0.size : Int) then (if 0 ≤ x7 then (if (bt a0 x7) < 97 then (if (bt a0 x7) < 48 then (if (bt a0 x7) = 45 then (impl_isName.l0 k a0 (wrap64 (x7 + 1))) else (some false)) else (if (bt a0 x7) > 57 then (if (bt a0 x7) = 45 then (impl_isName.l0 k a0 (wrap64 (x7 + 1))) else (some false)) else (impl_isName.l0 k a0 (wrap64 (x7 + 1))))) else (if (bt a0 x7) > 122 then (if (bt a0 x7) < 48 then (if (bt a0 x7) = 45 then (impl_isName.l0 k a0 (wrap64 (x7 + 1))) else (some false)) else (if (bt a0 x7) > 57 then (if (bt a0 x7) = 45 then (impl_isName.l0 k a0 (wrap64 (x7 + 1))) else (some false)) else (impl_isName.l0 k a0 (wrap64 (x7 + 1))))) else (impl_isName.l0 k a0 (wrap64 (x7 + 1))))) else none) else (if (a0.size : Int) ≥ 1 then (some (decide ((a0.size : Int) ≤ 8))) else (some false)))
def impl_isName.f (k : Nat) (a0 : ByteArray) : Option (Bool) := (impl_isName.l0 k a0 0)
def impl_rising.l0 : Nat → List ByteArray → Int → Option (Bool)
  | 0, _, _ => none
  | k + 1, l0, x3 => (if x3 < (l0.length : Int) then (if 0 ≤ (wrap64 (x3 - 1)) then (if (wrap64 (x3 - 1)) < (l0.length : Int) then (if 0 ≤ x3 then (if (Op.bytesLess (rdOf ByteArray.empty l0 (wrap64 (x3 - 1))).toList (rdOf ByteArray.empty l0 x3).toList) = true then (impl_rising.l0 k l0 (wrap64 (x3 + 1))) else (some false)) else none) else none) else none) else (some true))
def impl_rising.f (k : Nat) (l0 : List ByteArray) : Option (Bool) := (impl_rising.l0 k l0 1)
def impl_names.l0 : Nat → List ByteArray → Int → Option (Bool)
  | 0, _, _ => none
  | k + 1, l0, x7 => (if x7 < (l0.length : Int) then (if 0 ≤ x7 then ((impl_isName.f k (rdOf ByteArray.empty l0 x7)).bind fun t551 => (if t551 = true then (impl_names.l0 k l0 (wrap64 (x7 + 1))) else (some false))) else none) else ((impl_rising.f k l0).bind fun t553 => (some t553)))
def impl_names.f (k : Nat) (l0 : List ByteArray) : Option (Bool) := (impl_names.l0 k l0 0)
def impl_Plant_pairs.l0 : Nat → List S_impl_PlantFoe → List S_A2_string → Int → Option (List S_A2_string)
  | 0, _, _, _ => none
  | k + 1, a0_1, x2, x8 => (if x8 < (a0_1.length : Int) then (if 0 ≤ x8 then (if (x2.length + 1) * 32 ≤ 140737488355328 then (impl_Plant_pairs.l0 k a0_1 (x2 ++ ([(⟨(rd_impl_PlantFoe a0_1 x8).f0, (rd_impl_PlantFoe a0_1 x8).f1⟩ : S_A2_string)] : List S_A2_string)) (wrap64 (x8 + 1))) else none) else none) else (some x2))
def impl_Plant_pairs.f (k : Nat) (a0_0 : List ByteArray) (a0_1 : List S_impl_PlantFoe) (a0_2 : List S_impl_PlantPlace) (a0_3 : List S_impl_PlantValve) : Option (List S_A2_string) := (impl_Plant_pairs.l0 k a0_1 [] 0)
def impl_foesOk.l0 : Nat → List S_A2_string → Int → Int → Option (Bool)
  | 0, _, _, _ => none
  | k + 1, l0, a1, x9 => (if x9 < (l0.length : Int) then (if 0 ≤ x9 then ((impl_isName.f k ((rd_A2_string l0 x9).f0)).bind fun t593 => (if t593 = true then ((impl_isName.f k ((rd_A2_string l0 x9).f1)).bind fun t594 => (if t594 = true then (if (Op.bytesLess ((rd_A2_string l0 x9).f0).toList ((rd_A2_string l0 x9).f1).toList) = true then (if x9 > 0 then (if 0 ≤ (wrap64 (x9 - 1)) then (if (wrap64 (x9 - 1)) < (l0.length : Int) then (if (Op.bytesLess ((rd_A2_string l0 x9).f0).toList ((rd_A2_string l0 (wrap64 (x9 - 1))).f0).toList) = true then (some false) else (if ((rd_A2_string l0 (wrap64 (x9 - 1))).f0).toList = ((rd_A2_string l0 x9).f0).toList then (if (Op.bytesLess ((rd_A2_string l0 (wrap64 (x9 - 1))).f1).toList ((rd_A2_string l0 x9).f1).toList) = true then (impl_foesOk.l0 k l0 a1 (wrap64 (x9 + 1))) else (some false)) else (impl_foesOk.l0 k l0 a1 (wrap64 (x9 + 1))))) else none) else none) else (impl_foesOk.l0 k l0 a1 (wrap64 (x9 + 1)))) else (some false)) else (some false))) else (some false))) else none) else (some (decide ((l0.length : Int) ≤ a1))))
def impl_foesOk.f (k : Nat) (l0 : List S_A2_string) (a1 : Int) : Option (Bool) := (impl_foesOk.l0 k l0 a1 0)
def slices_Index_string_string.l0 : Nat → List ByteArray → ByteArray → Int → Option (Int)
  | 0, _, _, _ => none
  | k + 1, l0, a1, x8 => (if x8 < (l0.length : Int) then (if 0 ≤ x8 then (if a1.toList = (rdOf ByteArray.empty l0 x8).toList then (some x8) else (slices_Index_string_string.l0 k l0 a1 (wrap64 (x8 + 1)))) else none) else (some (-1)))
def slices_Index_string_string.f (k : Nat) (l0 : List ByteArray) (a1 : ByteArray) : Option (Int) := (slices_Index_string_string.l0 k l0 a1 0)
def slices_Contains_string_string.f (k : Nat) (l0 : List ByteArray) (a1 : ByteArray) : Option (Bool) := ((slices_Index_string_string.f k l0 a1).bind fun t665 => (some (decide (t665 ≥ 0))))
def impl_has.f (k : Nat) (l0 : List ByteArray) (a1 : ByteArray) : Option (Bool) := ((slices_Contains_string_string.f k l0 a1).bind fun t667 => (some t667))
def impl_Plant_place.l0 : Nat → List S_impl_PlantPlace → ByteArray → Int → Option (ByteArray × Int × ByteArray × Bool)
  | 0, _, _, _ => none
  | k + 1, a0_2, a1, x11 => (if x11 < (a0_2.length : Int) then (if 0 ≤ x11 then (if ((rd_impl_PlantPlace a0_2 x11).f0).toList = a1.toList then (some ((rd_impl_PlantPlace a0_2 x11).f0, (rd_impl_PlantPlace a0_2 x11).f1, (rd_impl_PlantPlace a0_2 x11).f2, true)) else (impl_Plant_place.l0 k a0_2 a1 (wrap64 (x11 + 1)))) else none) else (some ((⟨#[]⟩ : ByteArray), 0, (⟨#[]⟩ : ByteArray), false)))
def impl_Plant_place.f (k : Nat) (a0_0 : List ByteArray) (a0_1 : List S_impl_PlantFoe) (a0_2 : List S_impl_PlantPlace) (a0_3 : List S_impl_PlantValve) (a1 : ByteArray) : Option (ByteArray × Int × ByteArray × Bool) := (impl_Plant_place.l0 k a0_2 a1 0)
mutual
def impl_PlantValid.j0 : Nat → List ByteArray → List S_impl_PlantFoe → List S_impl_PlantPlace → List S_impl_PlantValve → Int → Bool → Option (Bool)
  | 0, _, _, _, _, _, _ => none
  | k + 1, a0_0, a0_1, a0_2, a0_3, x111, x170 => (if x170 = true then (some false) else (impl_PlantValid.l2 k a0_0 a0_1 a0_2 a0_3 (wrap64 (x111 + 1))))
def impl_PlantValid.l2 : Nat → List ByteArray → List S_impl_PlantFoe → List S_impl_PlantPlace → List S_impl_PlantValve → Int → Option (Bool)
  | 0, _, _, _, _, _ => none
  | k + 1, a0_0, a0_1, a0_2, a0_3, x111 => (if x111 < (a0_3.length : Int) then (if 0 ≤ x111 then ((impl_Plant_place.f k a0_0 a0_1 a0_2 a0_3 ((rd_impl_PlantValve a0_3 x111).f1)).bind fun t748 => ((impl_Plant_place.f k a0_0 a0_1 a0_2 a0_3 ((rd_impl_PlantValve a0_3 x111).f2)).bind fun t749 => ((impl_isName.f k ((rd_impl_PlantValve a0_3 x111).f0)).bind fun t752 => (if t752 = true then (if t748.2.2.2 = true then (if t749.2.2.2 = true then (if (Op.bytesLess ((rd_impl_PlantValve a0_3 x111).f1).toList ((rd_impl_PlantValve a0_3 x111).f2).toList) = true then ((impl_isName.f k ((rd_impl_PlantValve a0_3 x111).f3)).bind fun t753 => (if t753 = true then (if x111 > 0 then (if 0 ≤ (wrap64 (x111 - 1)) then (if (wrap64 (x111 - 1)) < (a0_3.length : Int) then (impl_PlantValid.j0 k a0_0 a0_1 a0_2 a0_3 x111 (!(Op.bytesLess ((rd_impl_PlantValve a0_3 (wrap64 (x111 - 1))).f0).toList ((rd_impl_PlantValve a0_3 x111).f0).toList))) else none) else none) else (impl_PlantValid.j0 k a0_0 a0_1 a0_2 a0_3 x111 false)) else (impl_PlantValid.j0 k a0_0 a0_1 a0_2 a0_3 x111 true))) else (impl_PlantValid.j0 k a0_0 a0_1 a0_2 a0_3 x111 true)) else (impl_PlantValid.j0 k a0_0 a0_1 a0_2 a0_3 x111 true)) else (impl_PlantValid.j0 k a0_0 a0_1 a0_2 a0_3 x111 true)) else (impl_PlantValid.j0 k a0_0 a0_1 a0_2 a0_3 x111 true))))) else none) else (some true))
end
def impl_PlantValid.l1 : Nat → List ByteArray → List S_impl_PlantFoe → List S_impl_PlantPlace → List S_impl_PlantValve → Int → Option (Bool)
  | 0, _, _, _, _, _ => none
  | k + 1, a0_0, a0_1, a0_2, a0_3, x66 => (if x66 < (a0_2.length : Int) then (if 0 ≤ x66 then ((impl_isName.f k ((rd_impl_PlantPlace a0_2 x66).f0)).bind fun t730 => (if t730 = true then (if ((rd_impl_PlantPlace a0_2 x66).f1) < 0 then (some false) else (if ((rd_impl_PlantPlace a0_2 x66).f1) > 1000 then (some false) else ((impl_isName.f k ((rd_impl_PlantPlace a0_2 x66).f2)).bind fun t731 => (if t731 = true then (if x66 > 0 then (if 0 ≤ (wrap64 (x66 - 1)) then (if (wrap64 (x66 - 1)) < (a0_2.length : Int) then (if (Op.bytesLess ((rd_impl_PlantPlace a0_2 (wrap64 (x66 - 1))).f0).toList ((rd_impl_PlantPlace a0_2 x66).f0).toList) = true then (impl_PlantValid.l1 k a0_0 a0_1 a0_2 a0_3 (wrap64 (x66 + 1))) else (some false)) else none) else none) else (impl_PlantValid.l1 k a0_0 a0_1 a0_2 a0_3 (wrap64 (x66 + 1)))) else (some false))))) else (some false))) else none) else (impl_PlantValid.l2 k a0_0 a0_1 a0_2 a0_3 0))
def impl_PlantValid.l0 : Nat → List ByteArray → List S_impl_PlantFoe → List S_impl_PlantPlace → List S_impl_PlantValve → Int → Option (Bool)
  | 0, _, _, _, _, _ => none
  | k + 1, a0_0, a0_1, a0_2, a0_3, x44 => (if x44 < (a0_1.length : Int) then (if 0 ≤ x44 then ((impl_has.f k a0_0 ((rd_impl_PlantFoe a0_1 x44).f0)).bind fun t722 => (if t722 = true then ((impl_has.f k a0_0 ((rd_impl_PlantFoe a0_1 x44).f1)).bind fun t723 => (if t723 = true then (impl_PlantValid.l0 k a0_0 a0_1 a0_2 a0_3 (wrap64 (x44 + 1))) else (some false))) else (some false))) else none) else (impl_PlantValid.l1 k a0_0 a0_1 a0_2 a0_3 0))
def impl_PlantValid.f (k : Nat) (a0_0 : List ByteArray) (a0_1 : List S_impl_PlantFoe) (a0_2 : List S_impl_PlantPlace) (a0_3 : List S_impl_PlantValve) : Option (Bool) := (if (a0_0.length : Int) > 8 then (some false) else ((impl_names.f k a0_0).bind fun t713 => (if t713 = true then ((impl_Plant_pairs.f k a0_0 a0_1 a0_2 a0_3).bind fun t714 => ((impl_foesOk.f k t714 12).bind fun t715 => (if t715 = true then (if (a0_2.length : Int) > 14 then (some false) else (if (a0_3.length : Int) > 18 then (some false) else (impl_PlantValid.l0 k a0_0 a0_1 a0_2 a0_3 0))) else (some false)))) else (some false))))
def sort_Strings.f (l0 : List ByteArray) : Option (List ByteArray) := sortSf l0
def impl_with.l0 : Nat → List ByteArray → List ByteArray → List ByteArray → Int → Option (List ByteArray)
  | 0, _, _, _, _ => none
  | k + 1, l0, l1, x5, x12 => (if x12 < (l1.length : Int) then (if 0 ≤ x12 then ((impl_has.f k x5 (rdOf ByteArray.empty l1 x12)).bind fun t799 => (if t799 = true then (impl_with.l0 k l0 l1 x5 (wrap64 (x12 + 1))) else (if (x5.length + 1) * 16 ≤ 140737488355328 then (impl_with.l0 k l0 l1 (x5 ++ ([rdOf ByteArray.empty l1 x12] : List ByteArray)) (wrap64 (x12 + 1))) else none))) else none) else ((sort_Strings.f x5).bind fun t801 => (some t801)))
def impl_with.f (k : Nat) (l0 : List ByteArray) (l1 : List ByteArray) : Option (List ByteArray) := (if l0.length * 16 ≤ 140737488355328 then (impl_with.l0 k l0 l1 l0 0) else none)
mutual
def impl_group.l1 : Nat → List S_impl_PlantValve → List ByteArray → List ByteArray → Bool → Int → Option (List ByteArray)
  | 0, _, _, _, _, _ => none
  | k + 1, a0_3, l1, x9_1, x10_1, x27 => (if x27 < (a0_3.length : Int) then (if 0 ≤ x27 then ((impl_has.f k l1 ((rd_impl_PlantValve a0_3 x27).f0)).bind fun t891 => (if t891 = true then ((impl_has.f k x9_1 ((rd_impl_PlantValve a0_3 x27).f1)).bind fun t892 => ((impl_has.f k x9_1 ((rd_impl_PlantValve a0_3 x27).f2)).bind fun t893 => (if (t892 != t893) = true then ((impl_with.f k x9_1 ([(rd_impl_PlantValve a0_3 x27).f1, (rd_impl_PlantValve a0_3 x27).f2] : List ByteArray)).bind fun t894 => (impl_group.l1 k a0_3 l1 t894 true (wrap64 (x27 + 1)))) else (impl_group.l1 k a0_3 l1 x9_1 x10_1 (wrap64 (x27 + 1)))))) else (impl_group.l1 k a0_3 l1 x9_1 x10_1 (wrap64 (x27 + 1))))) else none) else (impl_group.l0 k a0_3 l1 x9_1 x10_1))
def impl_group.l0 : Nat → List S_impl_PlantValve → List ByteArray → List ByteArray → Bool → Option (List ByteArray)
  | 0, _, _, _, _ => none
  | k + 1, a0_3, l1, x9, x10 => (if x10 = true then (impl_group.l1 k a0_3 l1 x9 false 0) else (some x9))
end
def impl_group.f (k : Nat) (a0_0 : List ByteArray) (a0_1 : List S_impl_PlantFoe) (a0_2 : List S_impl_PlantPlace) (a0_3 : List S_impl_PlantValve) (l1 : List ByteArray) (a2 : ByteArray) : Option (List ByteArray) := ((impl_Plant_place.f k a0_0 a0_1 a0_2 a0_3 a2).bind fun t865 => (if t865.2.2.2 = true then (impl_group.l0 k a0_3 l1 ([a2] : List ByteArray) true) else (some [])))
def impl_PlantGroups.l0 : Nat → List ByteArray → List S_impl_PlantFoe → List S_impl_PlantPlace → List S_impl_PlantValve → List ByteArray → List S_impl_PlantSet → Int → Option (List S_impl_PlantSet)
  | 0, _, _, _, _, _, _, _ => none
  | k + 1, a0_0, a0_1, a0_2, a0_3, l1, x5, x15 => (if x15 < (a0_2.length : Int) then (if 0 ≤ x15 then ((impl_group.f k a0_0 a0_1 a0_2 a0_3 l1 ((rd_impl_PlantPlace a0_2 x15).f0)).bind fun t2060 => (if 0 < (t2060.length : Int) then (if (rdOf ByteArray.empty t2060 0).toList = ((rd_impl_PlantPlace a0_2 x15).f0).toList then (if (x5.length + 1) * 24 ≤ 140737488355328 then (impl_PlantGroups.l0 k a0_0 a0_1 a0_2 a0_3 l1 (x5 ++ ([(⟨t2060⟩ : S_impl_PlantSet)] : List S_impl_PlantSet)) (wrap64 (x15 + 1))) else none) else (impl_PlantGroups.l0 k a0_0 a0_1 a0_2 a0_3 l1 x5 (wrap64 (x15 + 1)))) else none)) else none) else (some x5))
def impl_PlantGroups.f (k : Nat) (a0_0 : List ByteArray) (a0_1 : List S_impl_PlantFoe) (a0_2 : List S_impl_PlantPlace) (a0_3 : List S_impl_PlantValve) (l1 : List ByteArray) : Option (List S_impl_PlantSet) := ((impl_PlantValid.f k a0_0 a0_1 a0_2 a0_3).bind fun t2054 => (if t2054 = true then (impl_PlantGroups.l0 k a0_0 a0_1 a0_2 a0_3 l1 [] 0) else (some [])))
def laws_eqStringS.l0 : Nat → List ByteArray → List ByteArray → Int → Option (Bool)
  | 0, _, _, _ => none
  | k + 1, l0, l1, x5 => (if x5 < (l0.length : Int) then (if 0 ≤ x5 then (if x5 < (l1.length : Int) then (if (rdOf ByteArray.empty l0 x5).toList = (rdOf ByteArray.empty l1 x5).toList then (laws_eqStringS.l0 k l0 l1 (wrap64 (x5 + 1))) else (some false)) else none) else none) else (some true))
def laws_eqStringS.f (k : Nat) (l0 : List ByteArray) (l1 : List ByteArray) : Option (Bool) := (if (l0.length : Int) = (l1.length : Int) then (laws_eqStringS.l0 k l0 l1 0) else (some false))
def laws_eqPlantSet.f (k : Nat) (a0_0 : List ByteArray) (a1_0 : List ByteArray) : Option (Bool) := ((laws_eqStringS.f k a0_0 a1_0).bind fun t954 => (if t954 = true then (some true) else (some false)))
def laws_eqPlantSetS.l0 : Nat → List S_impl_PlantSet → List S_impl_PlantSet → Int → Option (Bool)
  | 0, _, _, _ => none
  | k + 1, l0, l1, x5 => (if x5 < (l0.length : Int) then (if 0 ≤ x5 then (if x5 < (l1.length : Int) then ((laws_eqPlantSet.f k ((rd_impl_PlantSet l0 x5).f0) ((rd_impl_PlantSet l1 x5).f0)).bind fun t958 => (if t958 = true then (laws_eqPlantSetS.l0 k l0 l1 (wrap64 (x5 + 1))) else (some false))) else none) else none) else (some true))
def laws_eqPlantSetS.f (k : Nat) (l0 : List S_impl_PlantSet) (l1 : List S_impl_PlantSet) : Option (Bool) := (if (l0.length : Int) = (l1.length : Int) then (laws_eqPlantSetS.l0 k l0 l1 0) else (some false))
def laws_eqPlantFoe.f (a0_0 : ByteArray) (a0_1 : ByteArray) (a1_0 : ByteArray) (a1_1 : ByteArray) : Option (Bool) := (if a0_0.toList = a1_0.toList then (if a0_1.toList = a1_1.toList then (some true) else (some false)) else (some false))
def laws_eqPlantFoeS.l0 : Nat → List S_impl_PlantFoe → List S_impl_PlantFoe → Int → Option (Bool)
  | 0, _, _, _ => none
  | k + 1, l0, l1, x5 => (if x5 < (l0.length : Int) then (if 0 ≤ x5 then (if x5 < (l1.length : Int) then ((laws_eqPlantFoe.f ((rd_impl_PlantFoe l0 x5).f0) ((rd_impl_PlantFoe l0 x5).f1) ((rd_impl_PlantFoe l1 x5).f0) ((rd_impl_PlantFoe l1 x5).f1)).bind fun t1028 => (if t1028 = true then (laws_eqPlantFoeS.l0 k l0 l1 (wrap64 (x5 + 1))) else (some false))) else none) else none) else (some true))
def laws_eqPlantFoeS.f (k : Nat) (l0 : List S_impl_PlantFoe) (l1 : List S_impl_PlantFoe) : Option (Bool) := (if (l0.length : Int) = (l1.length : Int) then (laws_eqPlantFoeS.l0 k l0 l1 0) else (some false))
def laws_eqPlantPlace.f (a0_0 : ByteArray) (a0_1 : Int) (a0_2 : ByteArray) (a1_0 : ByteArray) (a1_1 : Int) (a1_2 : ByteArray) : Option (Bool) := (if a0_0.toList = a1_0.toList then (if a0_1 = a1_1 then (if a0_2.toList = a1_2.toList then (some true) else (some false)) else (some false)) else (some false))
def laws_eqPlantPlaceS.l0 : Nat → List S_impl_PlantPlace → List S_impl_PlantPlace → Int → Option (Bool)
  | 0, _, _, _ => none
  | k + 1, l0, l1, x5 => (if x5 < (l0.length : Int) then (if 0 ≤ x5 then (if x5 < (l1.length : Int) then ((laws_eqPlantPlace.f ((rd_impl_PlantPlace l0 x5).f0) ((rd_impl_PlantPlace l0 x5).f1) ((rd_impl_PlantPlace l0 x5).f2) ((rd_impl_PlantPlace l1 x5).f0) ((rd_impl_PlantPlace l1 x5).f1) ((rd_impl_PlantPlace l1 x5).f2)).bind fun t1084 => (if t1084 = true then (laws_eqPlantPlaceS.l0 k l0 l1 (wrap64 (x5 + 1))) else (some false))) else none) else none) else (some true))
def laws_eqPlantPlaceS.f (k : Nat) (l0 : List S_impl_PlantPlace) (l1 : List S_impl_PlantPlace) : Option (Bool) := (if (l0.length : Int) = (l1.length : Int) then (laws_eqPlantPlaceS.l0 k l0 l1 0) else (some false))
def laws_eqPlantValve.f (a0_0 : ByteArray) (a0_1 : ByteArray) (a0_2 : ByteArray) (a0_3 : ByteArray) (a1_0 : ByteArray) (a1_1 : ByteArray) (a1_2 : ByteArray) (a1_3 : ByteArray) : Option (Bool) := (if a0_0.toList = a1_0.toList then (if a0_1.toList = a1_1.toList then (if a0_2.toList = a1_2.toList then (if a0_3.toList = a1_3.toList then (some true) else (some false)) else (some false)) else (some false)) else (some false))
def laws_eqPlantValveS.l0 : Nat → List S_impl_PlantValve → List S_impl_PlantValve → Int → Option (Bool)
  | 0, _, _, _ => none
  | k + 1, l0, l1, x5 => (if x5 < (l0.length : Int) then (if 0 ≤ x5 then (if x5 < (l1.length : Int) then ((laws_eqPlantValve.f ((rd_impl_PlantValve l0 x5).f0) ((rd_impl_PlantValve l0 x5).f1) ((rd_impl_PlantValve l0 x5).f2) ((rd_impl_PlantValve l0 x5).f3) ((rd_impl_PlantValve l1 x5).f0) ((rd_impl_PlantValve l1 x5).f1) ((rd_impl_PlantValve l1 x5).f2) ((rd_impl_PlantValve l1 x5).f3)).bind fun t1146 => (if t1146 = true then (laws_eqPlantValveS.l0 k l0 l1 (wrap64 (x5 + 1))) else (some false))) else none) else none) else (some true))
def laws_eqPlantValveS.f (k : Nat) (l0 : List S_impl_PlantValve) (l1 : List S_impl_PlantValve) : Option (Bool) := (if (l0.length : Int) = (l1.length : Int) then (laws_eqPlantValveS.l0 k l0 l1 0) else (some false))
def laws_eqPlant.f (k : Nat) (a0_0 : List ByteArray) (a0_1 : List S_impl_PlantFoe) (a0_2 : List S_impl_PlantPlace) (a0_3 : List S_impl_PlantValve) (a1_0 : List ByteArray) (a1_1 : List S_impl_PlantFoe) (a1_2 : List S_impl_PlantPlace) (a1_3 : List S_impl_PlantValve) : Option (Bool) := ((laws_eqStringS.f k a0_0 a1_0).bind fun t1149 => (if t1149 = true then ((laws_eqPlantFoeS.f k a0_1 a1_1).bind fun t1152 => (if t1152 = true then ((laws_eqPlantPlaceS.f k a0_2 a1_2).bind fun t1155 => (if t1155 = true then ((laws_eqPlantValveS.f k a0_3 a1_3).bind fun t1158 => (if t1158 = true then (some true) else (some false))) else (some false))) else (some false))) else (some false)))
def laws_markText.l0 : Nat → Int → ByteArray → Option (ByteArray)
  | 0, _, _ => none
  | k + 1, x0, x3 => (if x0 > 0 then (if (((⟨#[UInt8.ofNat (IntKind.wrap .u8 (wrap64 (48 + (Int.tmod x0 10)))).toNat]⟩ : ByteArray).size + x3.size : Nat) : Int) ≤ 9223372036854775807 then (laws_markText.l0 k (wrap64 (Int.tdiv x0 10)) ((⟨#[UInt8.ofNat (IntKind.wrap .u8 (wrap64 (48 + (Int.tmod x0 10)))).toNat]⟩ : ByteArray) ++ x3)) else none) else (if (((⟨#[109]⟩ : ByteArray).size + x3.size : Nat) : Int) ≤ 9223372036854775807 then (some ((⟨#[109]⟩ : ByteArray) ++ x3)) else none))
def laws_markText.f (k : Nat) (a0 : Int) : Option (ByteArray) := (if a0 ≤ 0 then (some (⟨#[109, 48]⟩ : ByteArray)) else (laws_markText.l0 k a0 (⟨#[]⟩ : ByteArray)))
def laws_markStringS.l0 : Nat → List ByteArray → Int → Int → List ByteArray → Option (Int × (List ByteArray))
  | 0, _, _, _, _ => none
  | k + 1, l0, x1, x5, x1000 => (if x1000.length = l0.length then (if x5 < (l0.length : Int) then ((laws_markText.f k x1).bind fun t1289 => (if 0 ≤ x5 then (laws_markStringS.l0 k l0 (wrap64 (x1 + 1)) (wrap64 (x5 + 1)) (x1000.set (x5).toNat t1289)) else none)) else (some (x1, x1000))) else none)
def laws_markStringS.f (k : Nat) (l0 : List ByteArray) (a1 : Int) : Option (Int × (List ByteArray)) := (laws_markStringS.l0 k l0 a1 0 l0)
def laws_markPlantFoeS.l0 : Nat → List S_impl_PlantFoe → Int → Int → List S_impl_PlantFoe → Option (Int × (List S_impl_PlantFoe))
  | 0, _, _, _, _ => none
  | k + 1, l0, x1, x5, x1000 => (if x1000.length = l0.length then (if x5 < (l0.length : Int) then ((laws_markText.f k x1).bind fun t1398 => (if 0 ≤ x5 then ((laws_markText.f k (wrap64 (x1 + 1))).bind fun t1399 => (laws_markPlantFoeS.l0 k l0 (wrap64 ((wrap64 (x1 + 1)) + 1)) (wrap64 (x5 + 1)) (x1000.set (x5).toNat (⟨t1398, t1399⟩ : S_impl_PlantFoe)))) else none)) else (some (x1, x1000))) else none)
def laws_markPlantFoeS.f (k : Nat) (l0 : List S_impl_PlantFoe) (a1 : Int) : Option (Int × (List S_impl_PlantFoe)) := (laws_markPlantFoeS.l0 k l0 a1 0 l0)
def laws_markPlantPlaceS.l0 : Nat → List S_impl_PlantPlace → Int → Int → List S_impl_PlantPlace → Option (Int × (List S_impl_PlantPlace))
  | 0, _, _, _, _ => none
  | k + 1, l0, x1, x5, x1000 => (if x1000.length = l0.length then (if x5 < (l0.length : Int) then ((laws_markText.f k x1).bind fun t1514 => (if 0 ≤ x5 then ((laws_markText.f k (wrap64 ((wrap64 (x1 + 1)) + 1))).bind fun t1515 => (laws_markPlantPlaceS.l0 k l0 (wrap64 ((wrap64 ((wrap64 (x1 + 1)) + 1)) + 1)) (wrap64 (x5 + 1)) (x1000.set (x5).toNat (⟨t1514, wrap64 (x1 + 1), t1515⟩ : S_impl_PlantPlace)))) else none)) else (some (x1, x1000))) else none)
def laws_markPlantPlaceS.f (k : Nat) (l0 : List S_impl_PlantPlace) (a1 : Int) : Option (Int × (List S_impl_PlantPlace)) := (laws_markPlantPlaceS.l0 k l0 a1 0 l0)
def laws_markPlantValveS.l0 : Nat → List S_impl_PlantValve → Int → Int → List S_impl_PlantValve → Option (Int × (List S_impl_PlantValve))
  | 0, _, _, _, _ => none
  | k + 1, l0, x1, x5, x1000 => (if x1000.length = l0.length then (if x5 < (l0.length : Int) then ((laws_markText.f k x1).bind fun t1646 => (if 0 ≤ x5 then ((laws_markText.f k (wrap64 (x1 + 1))).bind fun t1647 => ((laws_markText.f k (wrap64 ((wrap64 (x1 + 1)) + 1))).bind fun t1648 => ((laws_markText.f k (wrap64 ((wrap64 ((wrap64 (x1 + 1)) + 1)) + 1))).bind fun t1649 => (laws_markPlantValveS.l0 k l0 (wrap64 ((wrap64 ((wrap64 ((wrap64 (x1 + 1)) + 1)) + 1)) + 1)) (wrap64 (x5 + 1)) (x1000.set (x5).toNat (⟨t1646, t1647, t1648, t1649⟩ : S_impl_PlantValve)))))) else none)) else (some (x1, x1000))) else none)
def laws_markPlantValveS.f (k : Nat) (l0 : List S_impl_PlantValve) (a1 : Int) : Option (Int × (List S_impl_PlantValve)) := (laws_markPlantValveS.l0 k l0 a1 0 l0)
def laws_markPlant.f (k : Nat) (a0_0 : List ByteArray) (a0_1 : List S_impl_PlantFoe) (a0_2 : List S_impl_PlantPlace) (a0_3 : List S_impl_PlantValve) (a1 : Int) : Option (Int × (List ByteArray) × (List S_impl_PlantFoe) × (List S_impl_PlantPlace) × (List S_impl_PlantValve)) := ((laws_markStringS.f k a0_0 a1).bind fun t1688 => ((laws_markPlantFoeS.f k a0_1 t1688.1).bind fun t1690 => ((laws_markPlantPlaceS.f k a0_2 t1690.1).bind fun t1692 => ((laws_markPlantValveS.f k a0_3 t1692.1).bind fun t1694 => (some (t1694.1, t1688.2, t1690.2, t1692.2, t1694.2))))))
def laws_markPlantSetS.l0 : Nat → List S_impl_PlantSet → Int → Int → List S_impl_PlantSet → Option (Int × (List S_impl_PlantSet))
  | 0, _, _, _, _ => none
  | k + 1, l0, x1, x5, x1000 => (if x1000.length = l0.length then (if x5 < (l0.length : Int) then (if 0 ≤ x5 then ((laws_markStringS.f k ((rd_impl_PlantSet x1000 x5).f0) x1).bind fun t2202 => (laws_markPlantSetS.l0 k l0 t2202.1 (wrap64 (x5 + 1)) (x1000.set (x5).toNat (⟨t2202.2⟩ : S_impl_PlantSet)))) else none) else (some (x1, x1000))) else none)
def laws_markPlantSetS.f (k : Nat) (l0 : List S_impl_PlantSet) (a1 : Int) : Option (Int × (List S_impl_PlantSet)) := (laws_markPlantSetS.l0 k l0 a1 0 l0)
def laws_heldStringS.l0 : Nat → List ByteArray → Int → Int → Option (Int)
  | 0, _, _, _ => none
  | k + 1, l0, x1, x5 => (if x5 < (l0.length : Int) then (if 0 ≤ x5 then ((laws_markText.f k x1).bind fun t2287 => (if (rdOf ByteArray.empty l0 x5).toList = t2287.toList then (laws_heldStringS.l0 k l0 (wrap64 (x1 + 1)) (wrap64 (x5 + 1))) else (some (-1)))) else none) else (some x1))
def laws_heldStringS.f (k : Nat) (l0 : List ByteArray) (a1 : Int) : Option (Int) := (laws_heldStringS.l0 k l0 a1 0)
def laws_heldPlantSetS.l0 : Nat → List S_impl_PlantSet → Int → Int → Option (Int)
  | 0, _, _, _ => none
  | k + 1, l0, x1, x5 => (if x5 < (l0.length : Int) then (if 0 ≤ x5 then ((laws_heldStringS.f k ((rd_impl_PlantSet l0 x5).f0) x1).bind fun t2291 => (if t2291 < 0 then (some (-1)) else (laws_heldPlantSetS.l0 k l0 t2291 (wrap64 (x5 + 1))))) else none) else (some x1))
def laws_heldPlantSetS.f (k : Nat) (l0 : List S_impl_PlantSet) (a1 : Int) : Option (Int) := (laws_heldPlantSetS.l0 k l0 a1 0)
def laws_FnExactPlantGroups.f (k : Nat) (a0_0 : List ByteArray) (a0_1 : List S_laws_PlantFoe) (a0_2 : List S_laws_PlantPlace) (a0_3 : List S_laws_PlantValve) (l1 : List ByteArray) : Option (Bool) := ((laws_szPlant.f k a0_0 a0_1 a0_2 a0_3 1048576).bind fun t2293 => (if t2293 < 0 then (some true) else ((laws_szStringS.f k l1 t2293).bind fun t2295 => (if t2295 < 0 then (some true) else ((laws_toPlant.f k a0_0 a0_1 a0_2 a0_3).bind fun t2299 => ((laws_toStringS.f k l1).bind fun t2300 => ((spec_PlantGroups.f k t2299.1 t2299.2.1 t2299.2.2.1 t2299.2.2.2 t2300).bind fun t2301 => ((laws_toPlant.f k a0_0 a0_1 a0_2 a0_3).bind fun t2303 => ((laws_toStringS.f k l1).bind fun t2305 => ((impl_PlantGroups.f k t2303.1 t2303.2.1 t2303.2.2.1 t2303.2.2.2 t2305).bind fun t2307 => ((laws_eqPlantSetS.f k t2307 t2301).bind fun t2310 => (if t2310 = true then ((laws_toPlant.f k a0_0 a0_1 a0_2 a0_3).bind fun t2315 => ((laws_eqPlant.f k t2303.1 t2303.2.1 t2303.2.2.1 t2303.2.2.2 t2315.1 t2315.2.1 t2315.2.2.1 t2315.2.2.2).bind fun t2316 => (if t2316 = true then ((laws_toStringS.f k l1).bind fun t2321 => ((laws_eqStringS.f k t2305 t2321).bind fun t2322 => (if t2322 = true then ((laws_markPlant.f k t2303.1 t2303.2.1 t2303.2.2.1 t2303.2.2.2 1).bind fun t2324 => ((laws_markStringS.f k t2305 t2324.1).bind fun t2326 => (if t2326.1 < 0 then (some false) else ((laws_eqPlantSetS.f k t2307 t2301).bind fun t2329 => (if t2329 = true then ((laws_markPlantSetS.f k t2307 1).bind fun t2331 => ((laws_heldPlantSetS.f k t2331.2 1).bind fun t2333 => (if t2333 < 0 then (some false) else (if t2333 = t2331.1 then ((laws_toPlant.f k a0_0 a0_1 a0_2 a0_3).bind fun t2337 => ((laws_toStringS.f k l1).bind fun t2338 => ((impl_PlantGroups.f k t2337.1 t2337.2.1 t2337.2.2.1 t2337.2.2.2 t2338).bind fun t2339 => ((laws_eqPlantSetS.f k t2339 t2301).bind fun t2342 => (if t2342 = true then ((laws_heldPlantSetS.f k t2331.2 1).bind fun t2344 => (if t2344 < 0 then (some false) else (if t2344 = t2331.1 then (some true) else (some false)))) else (some false)))))) else (some false))))) else (some false)))))) else (some false)))) else (some false)))) else (some false)))))))))))))
end Go.Proofs.Ytodeegjblililaa.PS
namespace Go.Proofs.Ytodeegjblililaa.Pure
open Go Go.RowKit Go.Aw Go.Proofs.Ytodeegjblililaa.PS
set_option linter.unusedVariables false
set_option linter.unusedSimpArgs false
/-! ### general words -/
theorem ev_pos {α : Type} {c : Prop} {d : Decidable c} {g f : Nat → Option α} {r : α} (h : c) (k : Ev g r) : Ev (fun n => @ite _ c d (g n) (f n)) r := Ev.congr (fun _ => if_pos h) k
theorem ev_neg {α : Type} {c : Prop} {d : Decidable c} {g f : Nat → Option α} {r : α} (h : ¬ c) (k : Ev f r) : Ev (fun n => @ite _ c d (g n) (f n)) r := Ev.congr (fun _ => if_neg h) k
theorem ev_ret {α : Type} {a r : α} (h : a = r) : Ev (fun _ => some a) r := h ▸ Ev.now a
theorem ev_let {α β : Type} {g : Option α} {a : α} {r : β} {f : Nat → α → Option β} (h : g = some a) (k : Ev (fun n => f n a) r) : Ev (fun n => g.bind (f n)) r := by
  subst h; exact k
theorem ev_eq {α : Type} {g : Nat → Option α} {a r : α} (k : Ev g a) (h : a = r) : Ev g r := h ▸ k
theorem ev_split {α : Type} {c : Prop} {d : Decidable c} {g f : Nat → Option α} {r : α} (h : c → Ev g r) (k : ¬ c → Ev f r) : Ev (fun n => @ite _ c d (g n) (f n)) r := by
  by_cases q : c
  · exact ev_pos q (h q)
  · exact ev_neg q (k q)
/-- a value that is called on -/
theorem ev_of {α β : Type} {g : Nat → Option α} {a : α} {r : β} {f : Nat → α → Option β} (h : Ev g a) (k : Ev (fun n => f n a) r) : Ev (fun n => (g n).bind (f n)) r := Ev.bind h k
theorem ex_ret {α : Type} {a : α} : ∃ q, Ev (fun _ => some a) q := ⟨a, Ev.now a⟩
theorem ex_ite {α : Type} {c : Prop} {d : Decidable c} {g f : Nat → Option α} (h : ∃ q, Ev g q) (k : ∃ q, Ev f q) : ∃ q, Ev (fun n => @ite _ c d (g n) (f n)) q := by
  by_cases q : c
  · exact h.imp fun _ e => ev_pos q e
  · exact k.imp fun _ e => ev_neg q e
theorem ex_pos {α : Type} {c : Prop} {d : Decidable c} {g f : Nat → Option α} (h : c) (k : ∃ q, Ev g q) : ∃ q, Ev (fun n => @ite _ c d (g n) (f n)) q := k.imp fun _ e => ev_pos h e
theorem ex_bind {α β : Type} {g : Nat → Option α} {f : Nat → α → Option β} (h : ∃ a, Ev g a) (k : ∀ a, ∃ q, Ev (fun n => f n a) q) : ∃ q, Ev (fun n => (g n).bind (f n)) q := by
  obtain ⟨a, h⟩ := h
  exact (k a).imp fun _ e => Ev.bind h e
theorem ex_step {α : Type} {g f : Nat → Option α} (h : ∀ k, g (k + 1) = f k) (k : ∃ q, Ev f q) : ∃ q, Ev g q := k.imp fun _ e => Ev.step h e
theorem w64 {x : Int} (h0 : -9223372036854775808 ≤ x) (h1 : x ≤ 9223372036854775807) : wrap64 x = x := by unfold wrap64; omega
theorem wsucc {i n : Nat} (h : i < n) (hn : n ≤ 9223372036854775807) : wrap64 ((i : Int) + 1) = ((i + 1 : Nat) : Int) := by unfold wrap64; omega
theorem wplus {a : Int} (h0 : 0 ≤ a) (h1 : a ≤ 4611686018427387904) : wrap64 (a + 1) = a + 1 := by unfold wrap64; omega
theorem pre64 {i : Nat} (h : ¬ i = 0) (hi : i ≤ 9223372036854775807) : wrap64 ((i : Int) - 1) = ((i - 1 : Nat) : Int) := by unfold wrap64; omega
theorem getD_eq {α : Type} (d : α) (xs : List α) (i : Nat) (h : i < xs.length) : xs.getD i d = xs[i] := by
  rw [List.getD_eq_getElem?_getD, List.getElem?_eq_getElem h]; rfl
theorem mem_getD {α : Type} (d : α) (xs : List α) (i : Nat) (h : i < xs.length) : xs.getD i d ∈ xs := by
  rw [getD_eq d xs i h]; exact List.getElem_mem h
theorem getD_set {α : Type} (d : α) (xs : List α) (i j : Nat) (v : α) (h : i < xs.length) : (xs.set i v).getD j d = if j = i then v else xs.getD j d := by
  rw [List.getD_eq_getElem?_getD, List.getD_eq_getElem?_getD, List.getElem?_set]
  by_cases e : i = j
  · subst e; simp [h]
  · rw [if_neg e, if_neg (fun q => e q.symm)]
theorem fill_end {α : Type} (d : α) (z y : List α) (hl : y.length = z.length) (h : ∀ j, j < z.length → y.getD j d = z.getD j d) : y = z := by
  apply List.ext_getElem hl
  intro j h1 h2
  have e := h j h2
  rwa [getD_eq d y j h1, getD_eq d z j h2] at e
theorem fill_step {α : Type} (d : α) (z y : List α) (i : Nat) (hl : y.length = z.length) (hi : i < z.length) (h : ∀ j, j < i → y.getD j d = z.getD j d) (v : α) (hv : v = z.getD i d) :
    (y.set i v).length = z.length ∧ ∀ j, j < i + 1 → (y.set i v).getD j d = z.getD j d := by
  refine ⟨by simpa using hl, fun j hj => ?_⟩
  rw [getD_set d y i j v (by omega)]
  by_cases e : j = i
  · rw [if_pos e, e, hv]
  · rw [if_neg e]; exact h j (by omega)
theorem rdOf_nat {α : Type} (d : α) (xs : List α) (i : Nat) : rdOf d xs (i : Int) = xs.getD i d := by simp [rdOf]
theorem rd_nat (xs : List Int) (i : Nat) : rd xs (i : Int) = xs.getD i 0 := by simp [rd]
theorem map_getD {α β : Type} (e : β) (d : α) (f : α → β) (l : List α) (i : Nat) (h : i < l.length) : (l.map f).getD i e = f (l.getD i d) := by
  rw [getD_eq e _ i (by simpa using h), getD_eq d l i h, List.getElem_map]
/-- a list told from its end: what is left from place i on -/
theorem loopL {α : Type} (d : α) (l : List α) {P : Nat → List α → Prop} (h0 : P l.length []) (hs : ∀ i x r, i < l.length → l.getD i d = x → x ∈ l → l.drop (i + 1) = r → P (i + 1) r → P i (x :: r)) : P 0 l := by
  have key : ∀ (n i : Nat), i + n = l.length → P i (l.drop i) := fun n => by
    induction n with
    | zero =>
      intro i hi
      have e : i = l.length := by omega
      subst e; rw [List.drop_length]; exact h0
    | succ n ih =>
      intro i hi
      have hlt : i < l.length := by omega
      have e : l.drop i = l.getD i d :: l.drop (i + 1) := by rw [List.drop_eq_getElem_cons hlt, getD_eq d l i hlt]
      rw [e]
      exact hs i _ _ hlt rfl (mem_getD d l i hlt) rfl (ih (i + 1) (by omega))
  simpa using key l.length 0 (by omega)
/-- the element ahead of place i -/
def ahead {α : Type} (d : α) (l : List α) (i : Nat) : Option α := if i = 0 then none else some (l.getD (i - 1) d)
theorem ahead_zero {α : Type} (d : α) (l : List α) : ahead d l 0 = none := rfl
theorem ahead_succ {α : Type} (d : α) (l : List α) (i : Nat) : ahead d l (i + 1) = some (l.getD i d) := by simp [ahead]
theorem ahead_pos {α : Type} (d : α) (l : List α) (i : Nat) (h : ¬ i = 0) : ahead d l i = some (l.getD (i - 1) d) := if_neg h
/-! ### the order of bytes -/
theorem bl_irr : ∀ x : List UInt8, Op.bytesLess x x = false
  | [] => rfl
  | a :: x => by simp [Op.bytesLess, bl_irr x]
theorem bl_asym : ∀ x y : List UInt8, Op.bytesLess x y = true → Op.bytesLess y x = false
  | [], [], _ => rfl
  | [], _ :: _, _ => rfl
  | _ :: _, [], h => by simp [Op.bytesLess] at h
  | a :: x, b :: y, h => by
    simp only [Op.bytesLess, Bool.or_eq_true, Bool.and_eq_true, decide_eq_true_eq, beq_iff_eq] at h
    simp only [Op.bytesLess, Bool.or_eq_false_iff, Bool.and_eq_false_iff, decide_eq_false_iff_not, beq_eq_false_iff_ne]
    rcases h with h | ⟨rfl, h⟩
    · exact ⟨UInt8.lt_asymm h, .inl (fun e => by subst e; exact UInt8.lt_irrefl _ h)⟩
    · exact ⟨UInt8.lt_irrefl _, .inr (bl_asym x y h)⟩
theorem bl_tri : ∀ x y : List UInt8, Op.bytesLess x y = true ∨ x = y ∨ Op.bytesLess y x = true
  | [], [] => .inr (.inl rfl)
  | [], _ :: _ => .inl rfl
  | _ :: _, [] => .inr (.inr rfl)
  | a :: x, b :: y => by
    simp only [Op.bytesLess, Bool.or_eq_true, Bool.and_eq_true, decide_eq_true_eq, beq_iff_eq, List.cons.injEq]
    rcases UInt8.lt_or_lt_of_ne (a := a) (b := b) |> fun f => (Classical.em (a = b)).imp id f with rfl | h | h
    · rcases bl_tri x y with q | rfl | q
      · exact .inl (.inr ⟨rfl, q⟩)
      · exact .inr (.inl ⟨rfl, rfl⟩)
      · exact .inr (.inr (.inr ⟨rfl, q⟩))
    · exact .inl (.inl h)
    · exact .inr (.inr (.inl h))
theorem bl_trans : ∀ x y z : List UInt8, Op.bytesLess x y = true → Op.bytesLess y z = true → Op.bytesLess x z = true
  | [], _, _ :: _, _, _ => rfl
  | [], [], [], h, _ => h
  | [], _ :: _, [], _, h => by simp [Op.bytesLess] at h
  | _ :: _, [], _, h, _ => by simp [Op.bytesLess] at h
  | _ :: _, _ :: _, [], _, h => by simp [Op.bytesLess] at h
  | a :: x, b :: y, c :: z, h, k => by
    simp only [Op.bytesLess, Bool.or_eq_true, Bool.and_eq_true, decide_eq_true_eq, beq_iff_eq] at h k ⊢
    rcases h with h | ⟨rfl, h⟩
    · rcases k with k | ⟨rfl, k⟩
      · exact .inl (UInt8.lt_trans h k)
      · exact .inl h
    · rcases k with k | ⟨rfl, k⟩
      · exact .inl k
      · exact .inr ⟨rfl, bl_trans x y z h k⟩
theorem ba_ext {a b : ByteArray} (h : a.toList = b.toList) : a = b := by
  apply ByteArray.ext
  apply Array.ext'
  simpa [ByteArray.toList_eq] using h
theorem ba_iff {a b : ByteArray} : a.toList = b.toList ↔ a = b := ⟨ba_ext, fun h => h ▸ rfl⟩
/-- a text ahead of another -/
def lt (a b : ByteArray) : Bool := Op.bytesLess a.toList b.toList
theorem lt_irr (a : ByteArray) : lt a a = false := bl_irr _
theorem lt_asym {a b : ByteArray} (h : lt a b = true) : lt b a = false := bl_asym _ _ h
theorem lt_trans {a b c : ByteArray} (h : lt a b = true) (k : lt b c = true) : lt a c = true := bl_trans _ _ _ h k
theorem lt_tri (a b : ByteArray) : lt a b = true ∨ a = b ∨ lt b a = true := (bl_tri a.toList b.toList).imp id (·.imp ba_ext id)
theorem lt_ne {a b : ByteArray} (h : lt a b = true) : a ≠ b := fun e => by rw [e, lt_irr] at h; cases h
/-- pair by pair: the first, then the second -/
def befB (a0 a1 b0 b1 : ByteArray) : Bool := lt a0 b0 || (decide (a0 = b0) && lt a1 b1)
/-! ### marks: a text a number -/
theorem one_size (x : Int) : ((⟨#[UInt8.ofNat x.toNat]⟩ : ByteArray)).size = 1 := rfl
theorem markLoop_ev : ∀ (n : Nat) (x : Int) (s : ByteArray), 0 ≤ x → x.toNat ≤ n → x ≤ 4611686018427387904 → s.size + x.toNat ≤ 4611686018427387904 → ∃ r, Ev (fun k => laws_markText.l0 k x s) r
  | 0, x, s, h0, hn, hx, hs => ⟨(⟨#[109]⟩ : ByteArray) ++ s, by
      refine Ev.step (fun k => by rw [laws_markText.l0]) ?_
      exact ev_neg (by omega) (ev_pos (by show ((1 + s.size : Nat) : Int) ≤ _; omega) (ev_ret rfl))⟩
  | n + 1, x, s, h0, hn, hx, hs => by
    by_cases c : x > 0
    · have hd : Int.tdiv x 10 = x / 10 := Int.tdiv_eq_ediv_of_nonneg (by omega)
      have hw : wrap64 (Int.tdiv x 10) = x / 10 := by rw [hd]; unfold wrap64; omega
      obtain ⟨r, hr⟩ := markLoop_ev n (x / 10) ((⟨#[UInt8.ofNat (IntKind.wrap .u8 (wrap64 (48 + (Int.tmod x 10)))).toNat]⟩ : ByteArray) ++ s) (by omega) (by omega) (by omega) (by rw [ByteArray.size_append, one_size]; omega)
      refine ⟨r, ?_⟩
      refine Ev.step (fun k => by rw [laws_markText.l0]) ?_
      refine ev_pos c ?_
      rw [hw]
      exact ev_pos (by rw [one_size]; omega) hr
    · refine ⟨(⟨#[109]⟩ : ByteArray) ++ s, ?_⟩
      refine Ev.step (fun k => by rw [laws_markText.l0]) ?_
      exact ev_neg c (ev_pos (by show ((1 + s.size : Nat) : Int) ≤ _; omega) (ev_ret rfl))
theorem markText_ex (x : Int) (h : x ≤ 1152921504606846976) : ∃ r, Ev (fun k => laws_markText.f k x) r := by
  unfold laws_markText.f
  by_cases c : x ≤ 0
  · exact ⟨_, ev_pos c (ev_ret rfl)⟩
  · obtain ⟨r, hr⟩ := markLoop_ev x.toNat x (⟨#[]⟩ : ByteArray) (by omega) (Nat.le_refl _) (by omega) (by show 0 + x.toNat ≤ _; omega)
    exact ⟨r, ev_neg c hr⟩
open Classical in
noncomputable def mtx (x : Int) : ByteArray := if h : x ≤ 1152921504606846976 then (markText_ex x h).choose else ByteArray.empty
theorem markText_ev (x : Int) (h : x ≤ 1152921504606846976) : Ev (fun k => laws_markText.f k x) (mtx x) := by
  unfold mtx
  rw [dif_pos h]
  exact (markText_ex x h).choose_spec
theorem range_map_getD {α : Type} (d : α) (n : Nat) (f : Nat → α) (i : Nat) (h : i < n) : ((List.range n).map f).getD i d = f i := by
  rw [List.getD_eq_getElem?_getD, List.getElem?_map, List.getElem?_range h]; rfl
/-! ### the laws' own words -/
theorem szStringS_ev (l : List ByteArray) (hl : l.length ≤ 140737488351232) (h : ∀ z ∈ l, z.size ≤ 140737488351232) (a : Int) : ∃ q, Ev (fun k => laws_szStringS.f k l a) q := by
  have key : ∀ b, ∃ q, Ev (fun k => laws_szStringS.l0 k l b 0) q := loopL ByteArray.empty l (P := fun i _ => ∀ b, ∃ q, Ev (fun k => laws_szStringS.l0 k l b (i : Int)) q)
    (fun b => ex_step (fun k => by rw [laws_szStringS.l0]) ⟨_, ev_neg (by omega) (ev_ret rfl)⟩)
    (fun i x r hi hx hm _ ih b => ex_step (fun k => by rw [laws_szStringS.l0]) (ex_pos (by omega) (ex_pos (by omega) (by
      rw [wsucc hi (by omega)]
      exact ex_ite ex_ret (ih _)))))
  unfold laws_szStringS.f
  exact ex_ite ex_ret (key _)
theorem szPlantFoe_ev (x : S_laws_PlantFoe) (h : ok_laws_PlantFoe x) (a : Int) : ∃ q, Ev (fun k => laws_szPlantFoe.f x.f0 x.f1 a) q := by
  have h0 := h.1
  have h1 := h.2
  unfold laws_szPlantFoe.f
  repeat' (first | exact ex_ret | refine ex_ite ?_ ?_ | refine ex_bind ?_ (fun t => ?_))
theorem szPlantFoeS_ev (l : List S_laws_PlantFoe) (hl : l.length ≤ 140737488351232) (h : ∀ z ∈ l, ok_laws_PlantFoe z) (a : Int) : ∃ q, Ev (fun k => laws_szPlantFoeS.f k l a) q := by
  have key : ∀ b, ∃ q, Ev (fun k => laws_szPlantFoeS.l0 k l b 0) q := loopL z_laws_PlantFoe l (P := fun i _ => ∀ b, ∃ q, Ev (fun k => laws_szPlantFoeS.l0 k l b (i : Int)) q)
    (fun b => ex_step (fun k => by rw [laws_szPlantFoeS.l0]) ⟨_, ev_neg (by omega) (ev_ret rfl)⟩)
    (fun i x r hi hx hm _ ih b => ex_step (fun k => by rw [laws_szPlantFoeS.l0]) (ex_pos (by omega) (ex_pos (by omega) (by
      rw [wsucc hi (by omega)]
      refine ex_bind (by rw [show rd_laws_PlantFoe l (i : Int) = x from by unfold rd_laws_PlantFoe; simpa using hx]; exact szPlantFoe_ev x (h x hm) b) (fun t => ex_ite ex_ret (ih _))))))
  unfold laws_szPlantFoeS.f
  exact ex_ite ex_ret (key _)
theorem szPlantPlace_ev (x : S_laws_PlantPlace) (h : ok_laws_PlantPlace x) (a : Int) : ∃ q, Ev (fun k => laws_szPlantPlace.f x.f0 x.f1 x.f2 a) q := by
  have h0 := h.1
  have h1 := h.2.1
  have h2 := h.2.2
  unfold laws_szPlantPlace.f
  repeat' (first | exact ex_ret | refine ex_ite ?_ ?_ | refine ex_bind ?_ (fun t => ?_))
theorem szPlantPlaceS_ev (l : List S_laws_PlantPlace) (hl : l.length ≤ 140737488351232) (h : ∀ z ∈ l, ok_laws_PlantPlace z) (a : Int) : ∃ q, Ev (fun k => laws_szPlantPlaceS.f k l a) q := by
  have key : ∀ b, ∃ q, Ev (fun k => laws_szPlantPlaceS.l0 k l b 0) q := loopL z_laws_PlantPlace l (P := fun i _ => ∀ b, ∃ q, Ev (fun k => laws_szPlantPlaceS.l0 k l b (i : Int)) q)
    (fun b => ex_step (fun k => by rw [laws_szPlantPlaceS.l0]) ⟨_, ev_neg (by omega) (ev_ret rfl)⟩)
    (fun i x r hi hx hm _ ih b => ex_step (fun k => by rw [laws_szPlantPlaceS.l0]) (ex_pos (by omega) (ex_pos (by omega) (by
      rw [wsucc hi (by omega)]
      refine ex_bind (by rw [show rd_laws_PlantPlace l (i : Int) = x from by unfold rd_laws_PlantPlace; simpa using hx]; exact szPlantPlace_ev x (h x hm) b) (fun t => ex_ite ex_ret (ih _))))))
  unfold laws_szPlantPlaceS.f
  exact ex_ite ex_ret (key _)
theorem szPlantValve_ev (x : S_laws_PlantValve) (h : ok_laws_PlantValve x) (a : Int) : ∃ q, Ev (fun k => laws_szPlantValve.f x.f0 x.f1 x.f2 x.f3 a) q := by
  have h0 := h.1
  have h1 := h.2.1
  have h2 := h.2.2.1
  have h3 := h.2.2.2
  unfold laws_szPlantValve.f
  repeat' (first | exact ex_ret | refine ex_ite ?_ ?_ | refine ex_bind ?_ (fun t => ?_))
theorem szPlantValveS_ev (l : List S_laws_PlantValve) (hl : l.length ≤ 140737488351232) (h : ∀ z ∈ l, ok_laws_PlantValve z) (a : Int) : ∃ q, Ev (fun k => laws_szPlantValveS.f k l a) q := by
  have key : ∀ b, ∃ q, Ev (fun k => laws_szPlantValveS.l0 k l b 0) q := loopL z_laws_PlantValve l (P := fun i _ => ∀ b, ∃ q, Ev (fun k => laws_szPlantValveS.l0 k l b (i : Int)) q)
    (fun b => ex_step (fun k => by rw [laws_szPlantValveS.l0]) ⟨_, ev_neg (by omega) (ev_ret rfl)⟩)
    (fun i x r hi hx hm _ ih b => ex_step (fun k => by rw [laws_szPlantValveS.l0]) (ex_pos (by omega) (ex_pos (by omega) (by
      rw [wsucc hi (by omega)]
      refine ex_bind (by rw [show rd_laws_PlantValve l (i : Int) = x from by unfold rd_laws_PlantValve; simpa using hx]; exact szPlantValve_ev x (h x hm) b) (fun t => ex_ite ex_ret (ih _))))))
  unfold laws_szPlantValveS.f
  exact ex_ite ex_ret (key _)
theorem szPlant_ev (x : S_laws_Plant) (h : ok_laws_Plant x) (a : Int) : ∃ q, Ev (fun k => laws_szPlant.f k x.f0 x.f1 x.f2 x.f3 a) q := by
  have h0 := h.1
  have h1 := h.2.1
  have h2 := h.2.2.1
  have h3 := h.2.2.2
  unfold laws_szPlant.f
  repeat' (first | exact ex_ret | with_reducible exact szStringS_ev _ (by have := h0.1; omega) (h0.2) _ | with_reducible exact szPlantFoeS_ev _ (by have := h1.1; omega) (h1.2) _ | with_reducible exact szPlantPlaceS_ev _ (by have := h2.1; omega) (h2.2) _ | with_reducible exact szPlantValveS_ev _ (by have := h3.1; omega) (h3.2) _ | refine ex_ite ?_ ?_ | refine ex_bind ?_ (fun t => ?_))
theorem toStringS_ev (l : List ByteArray) (hl : l.length ≤ 8796093022208) : Ev (fun k => laws_toStringS.f k l) l := by
  unfold laws_toStringS.f
  refine ev_pos (by omega) ?_
  refine loopL ByteArray.empty l (P := fun i _ => ∀ y : List ByteArray, y.length = l.length → (∀ j, j < i → y.getD j ByteArray.empty = l.getD j ByteArray.empty) → Ev (fun k => laws_toStringS.l0 k l y (i : Int)) l)
    (fun y hyl hy => by
      obtain rfl := fill_end ByteArray.empty l y hyl (fun j hj => hy j hj)
      refine Ev.step (fun k => by rw [laws_toStringS.l0]) (ev_neg (by omega) (ev_ret rfl)))
    (fun i x r hi hx hm _ ih y hyl hy => by
      refine Ev.step (fun k => by rw [laws_toStringS.l0]) (ev_pos (by omega) (ev_pos (by omega) (ev_pos (by omega) ?_)))
      rw [wsucc hi (by omega), Int.toNat_natCast, rdOf_nat]
      obtain ⟨h1, h2⟩ := fill_step ByteArray.empty l y i hyl hi hy (l.getD i ByteArray.empty) rfl
      exact ih _ h1 h2) _ (by simp) (fun j hj => absurd hj (Nat.not_lt_zero _))
def cv_laws_PlantFoe (x : S_laws_PlantFoe) : S_impl_PlantFoe := ⟨x.f0, x.f1⟩
theorem toPlantFoe_ev (x : S_laws_PlantFoe) (h : ok_laws_PlantFoe x) : Ev (fun k => laws_toPlantFoe.f x.f0 x.f1) ((cv_laws_PlantFoe x).f0, (cv_laws_PlantFoe x).f1) := by
  have h0 := h.1
  have h1 := h.2
  unfold laws_toPlantFoe.f
  repeat' (first | exact ev_ret rfl)
theorem toPlantFoeS_ev (l : List S_laws_PlantFoe) (hl : l.length ≤ 4398046511104) (h : ∀ z ∈ l, ok_laws_PlantFoe z) : Ev (fun k => laws_toPlantFoeS.f k l) (l.map cv_laws_PlantFoe) := by
  unfold laws_toPlantFoeS.f
  refine ev_pos (by omega) ?_
  refine loopL z_laws_PlantFoe l (P := fun i _ => ∀ y : List S_impl_PlantFoe, y.length = l.length → (∀ j, j < i → y.getD j z_impl_PlantFoe = (l.map cv_laws_PlantFoe).getD j z_impl_PlantFoe) → Ev (fun k => laws_toPlantFoeS.l0 k l y (i : Int)) (l.map cv_laws_PlantFoe))
    (fun y hyl hy => by
      obtain rfl := fill_end z_impl_PlantFoe (l.map cv_laws_PlantFoe) y (by simpa using hyl) (fun j hj => hy j (by simpa using hj))
      refine Ev.step (fun k => by rw [laws_toPlantFoeS.l0]) (ev_neg (by omega) (ev_ret rfl)))
    (fun i x r hi hx hm _ ih y hyl hy => by
      refine Ev.step (fun k => by rw [laws_toPlantFoeS.l0]) (ev_pos (by omega) (ev_pos (by omega) ?_))
      rw [wsucc hi (by omega), Int.toNat_natCast, show rd_laws_PlantFoe l (i : Int) = x from by unfold rd_laws_PlantFoe; simpa using hx]
      refine Ev.bind (toPlantFoe_ev x (h x hm)) (ev_pos (by omega) ?_)
      obtain ⟨h1, h2⟩ := fill_step z_impl_PlantFoe (l.map cv_laws_PlantFoe) y i (by simpa using hyl) (by simpa using hi) hy (cv_laws_PlantFoe x) (by rw [map_getD z_impl_PlantFoe z_laws_PlantFoe _ l i hi, hx])
      exact ih _ (by rw [h1]; simp) h2) _ (by simp) (fun j hj => absurd hj (Nat.not_lt_zero _))
def cv_laws_PlantPlace (x : S_laws_PlantPlace) : S_impl_PlantPlace := ⟨x.f0, x.f1, x.f2⟩
theorem toPlantPlace_ev (x : S_laws_PlantPlace) (h : ok_laws_PlantPlace x) : Ev (fun k => laws_toPlantPlace.f x.f0 x.f1 x.f2) ((cv_laws_PlantPlace x).f0, (cv_laws_PlantPlace x).f1, (cv_laws_PlantPlace x).f2) := by
  have h0 := h.1
  have h1 := h.2.1
  have h2 := h.2.2
  unfold laws_toPlantPlace.f
  repeat' (first | exact ev_ret rfl)
theorem toPlantPlaceS_ev (l : List S_laws_PlantPlace) (hl : l.length ≤ 3518437208883) (h : ∀ z ∈ l, ok_laws_PlantPlace z) : Ev (fun k => laws_toPlantPlaceS.f k l) (l.map cv_laws_PlantPlace) := by
  unfold laws_toPlantPlaceS.f
  refine ev_pos (by omega) ?_
  refine loopL z_laws_PlantPlace l (P := fun i _ => ∀ y : List S_impl_PlantPlace, y.length = l.length → (∀ j, j < i → y.getD j z_impl_PlantPlace = (l.map cv_laws_PlantPlace).getD j z_impl_PlantPlace) → Ev (fun k => laws_toPlantPlaceS.l0 k l y (i : Int)) (l.map cv_laws_PlantPlace))
    (fun y hyl hy => by
      obtain rfl := fill_end z_impl_PlantPlace (l.map cv_laws_PlantPlace) y (by simpa using hyl) (fun j hj => hy j (by simpa using hj))
      refine Ev.step (fun k => by rw [laws_toPlantPlaceS.l0]) (ev_neg (by omega) (ev_ret rfl)))
    (fun i x r hi hx hm _ ih y hyl hy => by
      refine Ev.step (fun k => by rw [laws_toPlantPlaceS.l0]) (ev_pos (by omega) (ev_pos (by omega) ?_))
      rw [wsucc hi (by omega), Int.toNat_natCast, show rd_laws_PlantPlace l (i : Int) = x from by unfold rd_laws_PlantPlace; simpa using hx]
      refine Ev.bind (toPlantPlace_ev x (h x hm)) (ev_pos (by omega) ?_)
      obtain ⟨h1, h2⟩ := fill_step z_impl_PlantPlace (l.map cv_laws_PlantPlace) y i (by simpa using hyl) (by simpa using hi) hy (cv_laws_PlantPlace x) (by rw [map_getD z_impl_PlantPlace z_laws_PlantPlace _ l i hi, hx])
      exact ih _ (by rw [h1]; simp) h2) _ (by simp) (fun j hj => absurd hj (Nat.not_lt_zero _))
def cv_laws_PlantValve (x : S_laws_PlantValve) : S_impl_PlantValve := ⟨x.f0, x.f1, x.f2, x.f3⟩
theorem toPlantValve_ev (x : S_laws_PlantValve) (h : ok_laws_PlantValve x) : Ev (fun k => laws_toPlantValve.f x.f0 x.f1 x.f2 x.f3) ((cv_laws_PlantValve x).f0, (cv_laws_PlantValve x).f1, (cv_laws_PlantValve x).f2, (cv_laws_PlantValve x).f3) := by
  have h0 := h.1
  have h1 := h.2.1
  have h2 := h.2.2.1
  have h3 := h.2.2.2
  unfold laws_toPlantValve.f
  repeat' (first | exact ev_ret rfl)
theorem toPlantValveS_ev (l : List S_laws_PlantValve) (hl : l.length ≤ 2199023255552) (h : ∀ z ∈ l, ok_laws_PlantValve z) : Ev (fun k => laws_toPlantValveS.f k l) (l.map cv_laws_PlantValve) := by
  unfold laws_toPlantValveS.f
  refine ev_pos (by omega) ?_
  refine loopL z_laws_PlantValve l (P := fun i _ => ∀ y : List S_impl_PlantValve, y.length = l.length → (∀ j, j < i → y.getD j z_impl_PlantValve = (l.map cv_laws_PlantValve).getD j z_impl_PlantValve) → Ev (fun k => laws_toPlantValveS.l0 k l y (i : Int)) (l.map cv_laws_PlantValve))
    (fun y hyl hy => by
      obtain rfl := fill_end z_impl_PlantValve (l.map cv_laws_PlantValve) y (by simpa using hyl) (fun j hj => hy j (by simpa using hj))
      refine Ev.step (fun k => by rw [laws_toPlantValveS.l0]) (ev_neg (by omega) (ev_ret rfl)))
    (fun i x r hi hx hm _ ih y hyl hy => by
      refine Ev.step (fun k => by rw [laws_toPlantValveS.l0]) (ev_pos (by omega) (ev_pos (by omega) ?_))
      rw [wsucc hi (by omega), Int.toNat_natCast, show rd_laws_PlantValve l (i : Int) = x from by unfold rd_laws_PlantValve; simpa using hx]
      refine Ev.bind (toPlantValve_ev x (h x hm)) (ev_pos (by omega) ?_)
      obtain ⟨h1, h2⟩ := fill_step z_impl_PlantValve (l.map cv_laws_PlantValve) y i (by simpa using hyl) (by simpa using hi) hy (cv_laws_PlantValve x) (by rw [map_getD z_impl_PlantValve z_laws_PlantValve _ l i hi, hx])
      exact ih _ (by rw [h1]; simp) h2) _ (by simp) (fun j hj => absurd hj (Nat.not_lt_zero _))
theorem toPlant_ev (x : S_laws_Plant) (h : ok_laws_Plant x) : Ev (fun k => laws_toPlant.f k x.f0 x.f1 x.f2 x.f3) (x.f0, x.f1.map cv_laws_PlantFoe, x.f2.map cv_laws_PlantPlace, x.f3.map cv_laws_PlantValve) := by
  have h0 := h.1
  have h1 := h.2.1
  have h2 := h.2.2.1
  have h3 := h.2.2.2
  unfold laws_toPlant.f
  repeat' (first | with_reducible refine Ev.bind (toStringS_ev _ (by have := h0.1; omega)) ?_ | with_reducible refine Ev.bind (toPlantFoeS_ev _ (by have := h1.1; omega) h1.2) ?_ | with_reducible refine Ev.bind (toPlantPlaceS_ev _ (by have := h2.1; omega) h2.2) ?_ | with_reducible refine Ev.bind (toPlantValveS_ev _ (by have := h3.1; omega) h3.2) ?_ | exact ev_ret rfl)
theorem eqStringS_ev (l : List ByteArray) (hl : l.length ≤ 140737488351232) : Ev (fun k => laws_eqStringS.f k l l) true := by
  unfold laws_eqStringS.f
  refine ev_pos rfl ?_
  refine loopL ByteArray.empty l (P := fun i _ => Ev (fun k => laws_eqStringS.l0 k l l (i : Int)) true)
    (Ev.step (fun k => by rw [laws_eqStringS.l0]) (ev_neg (by omega) (ev_ret rfl)))
    (fun i x r hi hx hm _ ih => Ev.step (fun k => by rw [laws_eqStringS.l0]) (ev_pos (by omega) (ev_pos (by omega) (ev_pos (by omega) (by
      rw [wsucc hi (by omega)]
      exact ev_pos rfl ih)))))
def ok_impl_PlantFoe (y : S_impl_PlantFoe) : Prop := (y.f0.size ≤ 140737488351232) ∧ (y.f1.size ≤ 140737488351232)
theorem eqPlantFoe_ev (x : S_impl_PlantFoe) (h : ok_impl_PlantFoe x) : Ev (fun k => laws_eqPlantFoe.f x.f0 x.f1 x.f0 x.f1) true := by
  have h0 := h.1
  have h1 := h.2
  unfold laws_eqPlantFoe.f
  repeat' (first | exact ev_ret rfl | refine ev_pos rfl ?_ | refine ev_neg (by simp) ?_)
theorem eqPlantFoeS_ev (l : List S_impl_PlantFoe) (hl : l.length ≤ 140737488351232) (h : ∀ z ∈ l, ok_impl_PlantFoe z) : Ev (fun k => laws_eqPlantFoeS.f k l l) true := by
  unfold laws_eqPlantFoeS.f
  refine ev_pos rfl ?_
  refine loopL z_impl_PlantFoe l (P := fun i _ => Ev (fun k => laws_eqPlantFoeS.l0 k l l (i : Int)) true)
    (Ev.step (fun k => by rw [laws_eqPlantFoeS.l0]) (ev_neg (by omega) (ev_ret rfl)))
    (fun i x r hi hx hm _ ih => Ev.step (fun k => by rw [laws_eqPlantFoeS.l0]) (ev_pos (by omega) (ev_pos (by omega) (ev_pos (by omega) (by
      rw [wsucc hi (by omega)]
      rw [show rd_impl_PlantFoe l (i : Int) = x from by unfold rd_impl_PlantFoe; simpa using hx]
      exact Ev.bind (eqPlantFoe_ev x (h x hm)) (ev_pos rfl ih))))))
def ok_impl_PlantPlace (y : S_impl_PlantPlace) : Prop := (y.f0.size ≤ 140737488351232) ∧ ((Lit.int .i64 y.f1).wf = true) ∧ (y.f2.size ≤ 140737488351232)
theorem eqPlantPlace_ev (x : S_impl_PlantPlace) (h : ok_impl_PlantPlace x) : Ev (fun k => laws_eqPlantPlace.f x.f0 x.f1 x.f2 x.f0 x.f1 x.f2) true := by
  have h0 := h.1
  have h1 := h.2.1
  have h2 := h.2.2
  unfold laws_eqPlantPlace.f
  repeat' (first | exact ev_ret rfl | refine ev_pos rfl ?_ | refine ev_neg (by simp) ?_)
theorem eqPlantPlaceS_ev (l : List S_impl_PlantPlace) (hl : l.length ≤ 140737488351232) (h : ∀ z ∈ l, ok_impl_PlantPlace z) : Ev (fun k => laws_eqPlantPlaceS.f k l l) true := by
  unfold laws_eqPlantPlaceS.f
  refine ev_pos rfl ?_
  refine loopL z_impl_PlantPlace l (P := fun i _ => Ev (fun k => laws_eqPlantPlaceS.l0 k l l (i : Int)) true)
    (Ev.step (fun k => by rw [laws_eqPlantPlaceS.l0]) (ev_neg (by omega) (ev_ret rfl)))
    (fun i x r hi hx hm _ ih => Ev.step (fun k => by rw [laws_eqPlantPlaceS.l0]) (ev_pos (by omega) (ev_pos (by omega) (ev_pos (by omega) (by
      rw [wsucc hi (by omega)]
      rw [show rd_impl_PlantPlace l (i : Int) = x from by unfold rd_impl_PlantPlace; simpa using hx]
      exact Ev.bind (eqPlantPlace_ev x (h x hm)) (ev_pos rfl ih))))))
def ok_impl_PlantValve (y : S_impl_PlantValve) : Prop := (y.f0.size ≤ 140737488351232) ∧ (y.f1.size ≤ 140737488351232) ∧ (y.f2.size ≤ 140737488351232) ∧ (y.f3.size ≤ 140737488351232)
theorem eqPlantValve_ev (x : S_impl_PlantValve) (h : ok_impl_PlantValve x) : Ev (fun k => laws_eqPlantValve.f x.f0 x.f1 x.f2 x.f3 x.f0 x.f1 x.f2 x.f3) true := by
  have h0 := h.1
  have h1 := h.2.1
  have h2 := h.2.2.1
  have h3 := h.2.2.2
  unfold laws_eqPlantValve.f
  repeat' (first | exact ev_ret rfl | refine ev_pos rfl ?_ | refine ev_neg (by simp) ?_)
theorem eqPlantValveS_ev (l : List S_impl_PlantValve) (hl : l.length ≤ 140737488351232) (h : ∀ z ∈ l, ok_impl_PlantValve z) : Ev (fun k => laws_eqPlantValveS.f k l l) true := by
  unfold laws_eqPlantValveS.f
  refine ev_pos rfl ?_
  refine loopL z_impl_PlantValve l (P := fun i _ => Ev (fun k => laws_eqPlantValveS.l0 k l l (i : Int)) true)
    (Ev.step (fun k => by rw [laws_eqPlantValveS.l0]) (ev_neg (by omega) (ev_ret rfl)))
    (fun i x r hi hx hm _ ih => Ev.step (fun k => by rw [laws_eqPlantValveS.l0]) (ev_pos (by omega) (ev_pos (by omega) (ev_pos (by omega) (by
      rw [wsucc hi (by omega)]
      rw [show rd_impl_PlantValve l (i : Int) = x from by unfold rd_impl_PlantValve; simpa using hx]
      exact Ev.bind (eqPlantValve_ev x (h x hm)) (ev_pos rfl ih))))))
theorem eqPlant_ev (x0 : List ByteArray) (x1 : List S_impl_PlantFoe) (x2 : List S_impl_PlantPlace) (x3 : List S_impl_PlantValve) (h0 : (x0.length ≤ 9223372036854775807 ∧ x0.length * 16 ≤ 140737488351232) ∧ ∀ z ∈ x0, z.size ≤ 140737488351232) (h1 : (x1.length ≤ 9223372036854775807 ∧ x1.length * 32 ≤ 140737488351232) ∧ ∀ z ∈ x1, ok_impl_PlantFoe z) (h2 : (x2.length ≤ 9223372036854775807 ∧ x2.length * 40 ≤ 140737488351232) ∧ ∀ z ∈ x2, ok_impl_PlantPlace z) (h3 : (x3.length ≤ 9223372036854775807 ∧ x3.length * 64 ≤ 140737488351232) ∧ ∀ z ∈ x3, ok_impl_PlantValve z) : Ev (fun k => laws_eqPlant.f k x0 x1 x2 x3 x0 x1 x2 x3) true := by
  unfold laws_eqPlant.f
  repeat' (first | with_reducible refine Ev.bind (eqStringS_ev _ (by have := h0.1; omega)) ?_ | with_reducible refine Ev.bind (eqPlantFoeS_ev _ (by have := h1.1; omega) h1.2) ?_ | with_reducible refine Ev.bind (eqPlantPlaceS_ev _ (by have := h2.1; omega) h2.2) ?_ | with_reducible refine Ev.bind (eqPlantValveS_ev _ (by have := h3.1; omega) h3.2) ?_ | exact ev_ret rfl | refine ev_pos rfl ?_ | refine ev_neg (by simp) ?_)
noncomputable def mk_StringS (n : Nat) (a : Int) : List ByteArray := (List.range n).map fun (i : Nat) => mtx (a + 1 * (i : Int))
theorem mk_StringS_length (n : Nat) (a : Int) : (mk_StringS n a).length = n := by simp [mk_StringS]
theorem markStringS_ev (l : List ByteArray) (a : Int) (ha : 0 ≤ a) (hb : a ≤ 281474976710656) (hn : l.length ≤ 140737488351232) : Ev (fun k => laws_markStringS.f k l a) (a + 1 * (l.length : Int), mk_StringS l.length a) := by
  unfold laws_markStringS.f
  have key := loopL ByteArray.empty l (P := fun i _ => ∀ y : List ByteArray, y.length = l.length → (∀ j, j < i → y.getD j ByteArray.empty = (mk_StringS l.length a).getD j ByteArray.empty) → Ev (fun k => laws_markStringS.l0 k l (a + 1 * (i : Int)) (i : Int) y) (a + 1 * (l.length : Int), mk_StringS l.length a))
    (fun y hyl hy => by
      obtain rfl := fill_end ByteArray.empty (mk_StringS l.length a) y (by rw [mk_StringS_length]; exact hyl) (fun j hj => hy j (by rwa [mk_StringS_length] at hj))
      exact Ev.step (fun k => by rw [laws_markStringS.l0]) (ev_pos hyl (ev_neg (by omega) (ev_ret rfl))))
    (fun i x r hi hx hm _ ih y hyl hy => by
      obtain ⟨h1, h2⟩ := fill_step ByteArray.empty (mk_StringS l.length a) y i (by rw [mk_StringS_length]; exact hyl) (by rw [mk_StringS_length]; exact hi) hy _ (range_map_getD _ _ _ i hi).symm
      have hk := ih _ (by simpa using hyl) h2
      have hbd : 0 ≤ a + 1 * (i : Int) ∧ a + 1 * (i : Int) ≤ 1125899906842624 := by omega
      have e : a + 1 * ((i + 1 : Nat) : Int) = a + 1 * (i : Int) + 1 := by omega
      rw [e] at hk
      clear h1 h2 hy e ih
      generalize a + 1 * (i : Int) = b at hk hbd ⊢
      refine Ev.step (fun k => by rw [laws_markStringS.l0]) (ev_pos hyl (ev_pos (by omega) ?_))
      have w1 : wrap64 (b + 1) = b + 1 := by unfold wrap64; omega
      simp only [w1, wsucc hi (by omega : l.length ≤ 9223372036854775807), Int.toNat_natCast]
      repeat' (first | with_reducible exact hk | with_reducible refine Ev.bind (markText_ev _ (by omega)) ?_ | refine ev_pos (by omega) ?_))
  simpa using key l rfl (fun j hj => absurd hj (Nat.not_lt_zero _))
theorem heldStringS_ev (n : Nat) (a : Int) (ha : 0 ≤ a) (hb : a ≤ 281474976710656) (hn : n ≤ 140737488351232) : Ev (fun k => laws_heldStringS.f k (mk_StringS n a) a) (a + 1 * (n : Int)) := by
  unfold laws_heldStringS.f
  have key := loopL ByteArray.empty (mk_StringS n a) (P := fun i _ => Ev (fun k => laws_heldStringS.l0 k (mk_StringS n a) (a + 1 * (i : Int)) (i : Int)) (a + 1 * (n : Int)))
    (Ev.step (fun k => by rw [laws_heldStringS.l0]) (ev_neg (by omega) (ev_ret (by rw [mk_StringS_length]))))
    (fun i x r hi hx hm _ ih => by
      have hi' := hi
      rw [mk_StringS_length] at hi'
      have hx' := (range_map_getD ByteArray.empty n _ i hi').symm.trans hx
      have hr : rdOf ByteArray.empty (mk_StringS n a) (i : Int) = x := by rw [rdOf_nat]; exact hx
      have hbd : 0 ≤ a + 1 * (i : Int) ∧ a + 1 * (i : Int) ≤ 1125899906842624 := by omega
      have e : a + 1 * ((i + 1 : Nat) : Int) = a + 1 * (i : Int) + 1 := by omega
      rw [e] at ih
      have hlt : (i : Int) < ((mk_StringS n a).length : Int) := by omega
      have hl9 : (mk_StringS n a).length ≤ 9223372036854775807 := by rw [mk_StringS_length]; omega
      generalize mk_StringS n a = L at *
      clear e hx
      generalize a + 1 * (i : Int) = b at ih hbd hx' ⊢
      refine Ev.step (fun k => by rw [laws_heldStringS.l0]) (ev_pos (by omega) ?_)
      have w1 : wrap64 (b + 1) = b + 1 := by unfold wrap64; omega
      simp only [w1, wsucc hi hl9, hr]
      subst hx'
      repeat' (first | with_reducible exact ih | with_reducible refine Ev.bind (markText_ev _ (by omega)) ?_ | refine ev_pos (by omega) ?_ | refine ev_pos rfl ?_ | refine ev_neg (by simp) ?_))
  simpa using key
noncomputable def mk_PlantFoeS (n : Nat) (a : Int) : List S_impl_PlantFoe := (List.range n).map fun (i : Nat) => ⟨mtx (a + 2 * (i : Int)), mtx (a + 2 * (i : Int) + 1)⟩
theorem mk_PlantFoeS_length (n : Nat) (a : Int) : (mk_PlantFoeS n a).length = n := by simp [mk_PlantFoeS]
theorem markPlantFoeS_ev (l : List S_impl_PlantFoe) (a : Int) (ha : 0 ≤ a) (hb : a ≤ 281474976710656) (hn : l.length ≤ 140737488351232) : Ev (fun k => laws_markPlantFoeS.f k l a) (a + 2 * (l.length : Int), mk_PlantFoeS l.length a) := by
  unfold laws_markPlantFoeS.f
  have key := loopL z_impl_PlantFoe l (P := fun i _ => ∀ y : List S_impl_PlantFoe, y.length = l.length → (∀ j, j < i → y.getD j z_impl_PlantFoe = (mk_PlantFoeS l.length a).getD j z_impl_PlantFoe) → Ev (fun k => laws_markPlantFoeS.l0 k l (a + 2 * (i : Int)) (i : Int) y) (a + 2 * (l.length : Int), mk_PlantFoeS l.length a))
    (fun y hyl hy => by
      obtain rfl := fill_end z_impl_PlantFoe (mk_PlantFoeS l.length a) y (by rw [mk_PlantFoeS_length]; exact hyl) (fun j hj => hy j (by rwa [mk_PlantFoeS_length] at hj))
      exact Ev.step (fun k => by rw [laws_markPlantFoeS.l0]) (ev_pos hyl (ev_neg (by omega) (ev_ret rfl))))
    (fun i x r hi hx hm _ ih y hyl hy => by
      obtain ⟨h1, h2⟩ := fill_step z_impl_PlantFoe (mk_PlantFoeS l.length a) y i (by rw [mk_PlantFoeS_length]; exact hyl) (by rw [mk_PlantFoeS_length]; exact hi) hy _ (range_map_getD _ _ _ i hi).symm
      have hk := ih _ (by simpa using hyl) h2
      have hbd : 0 ≤ a + 2 * (i : Int) ∧ a + 2 * (i : Int) ≤ 1125899906842624 := by omega
      have e : a + 2 * ((i + 1 : Nat) : Int) = a + 2 * (i : Int) + 1 + 1 := by omega
      rw [e] at hk
      clear h1 h2 hy e ih
      generalize a + 2 * (i : Int) = b at hk hbd ⊢
      refine Ev.step (fun k => by rw [laws_markPlantFoeS.l0]) (ev_pos hyl (ev_pos (by omega) ?_))
      have w1 : wrap64 (b + 1) = b + 1 := by unfold wrap64; omega
      have w2 : wrap64 (b + 1 + 1) = b + 1 + 1 := by unfold wrap64; omega
      simp only [w1, w2, wsucc hi (by omega : l.length ≤ 9223372036854775807), Int.toNat_natCast]
      repeat' (first | with_reducible exact hk | with_reducible refine Ev.bind (markText_ev _ (by omega)) ?_ | refine ev_pos (by omega) ?_))
  simpa using key l rfl (fun j hj => absurd hj (Nat.not_lt_zero _))
noncomputable def mk_PlantPlaceS (n : Nat) (a : Int) : List S_impl_PlantPlace := (List.range n).map fun (i : Nat) => ⟨mtx (a + 3 * (i : Int)), a + 3 * (i : Int) + 1, mtx (a + 3 * (i : Int) + 1 + 1)⟩
theorem mk_PlantPlaceS_length (n : Nat) (a : Int) : (mk_PlantPlaceS n a).length = n := by simp [mk_PlantPlaceS]
theorem markPlantPlaceS_ev (l : List S_impl_PlantPlace) (a : Int) (ha : 0 ≤ a) (hb : a ≤ 281474976710656) (hn : l.length ≤ 140737488351232) : Ev (fun k => laws_markPlantPlaceS.f k l a) (a + 3 * (l.length : Int), mk_PlantPlaceS l.length a) := by
  unfold laws_markPlantPlaceS.f
  have key := loopL z_impl_PlantPlace l (P := fun i _ => ∀ y : List S_impl_PlantPlace, y.length = l.length → (∀ j, j < i → y.getD j z_impl_PlantPlace = (mk_PlantPlaceS l.length a).getD j z_impl_PlantPlace) → Ev (fun k => laws_markPlantPlaceS.l0 k l (a + 3 * (i : Int)) (i : Int) y) (a + 3 * (l.length : Int), mk_PlantPlaceS l.length a))
    (fun y hyl hy => by
      obtain rfl := fill_end z_impl_PlantPlace (mk_PlantPlaceS l.length a) y (by rw [mk_PlantPlaceS_length]; exact hyl) (fun j hj => hy j (by rwa [mk_PlantPlaceS_length] at hj))
      exact Ev.step (fun k => by rw [laws_markPlantPlaceS.l0]) (ev_pos hyl (ev_neg (by omega) (ev_ret rfl))))
    (fun i x r hi hx hm _ ih y hyl hy => by
      obtain ⟨h1, h2⟩ := fill_step z_impl_PlantPlace (mk_PlantPlaceS l.length a) y i (by rw [mk_PlantPlaceS_length]; exact hyl) (by rw [mk_PlantPlaceS_length]; exact hi) hy _ (range_map_getD _ _ _ i hi).symm
      have hk := ih _ (by simpa using hyl) h2
      have hbd : 0 ≤ a + 3 * (i : Int) ∧ a + 3 * (i : Int) ≤ 1125899906842624 := by omega
      have e : a + 3 * ((i + 1 : Nat) : Int) = a + 3 * (i : Int) + 1 + 1 + 1 := by omega
      rw [e] at hk
      clear h1 h2 hy e ih
      generalize a + 3 * (i : Int) = b at hk hbd ⊢
      refine Ev.step (fun k => by rw [laws_markPlantPlaceS.l0]) (ev_pos hyl (ev_pos (by omega) ?_))
      have w1 : wrap64 (b + 1) = b + 1 := by unfold wrap64; omega
      have w2 : wrap64 (b + 1 + 1) = b + 1 + 1 := by unfold wrap64; omega
      have w3 : wrap64 (b + 1 + 1 + 1) = b + 1 + 1 + 1 := by unfold wrap64; omega
      simp only [w1, w2, w3, wsucc hi (by omega : l.length ≤ 9223372036854775807), Int.toNat_natCast]
      repeat' (first | with_reducible exact hk | with_reducible refine Ev.bind (markText_ev _ (by omega)) ?_ | refine ev_pos (by omega) ?_))
  simpa using key l rfl (fun j hj => absurd hj (Nat.not_lt_zero _))
noncomputable def mk_PlantValveS (n : Nat) (a : Int) : List S_impl_PlantValve := (List.range n).map fun (i : Nat) => ⟨mtx (a + 4 * (i : Int)), mtx (a + 4 * (i : Int) + 1), mtx (a + 4 * (i : Int) + 1 + 1), mtx (a + 4 * (i : Int) + 1 + 1 + 1)⟩
theorem mk_PlantValveS_length (n : Nat) (a : Int) : (mk_PlantValveS n a).length = n := by simp [mk_PlantValveS]
theorem markPlantValveS_ev (l : List S_impl_PlantValve) (a : Int) (ha : 0 ≤ a) (hb : a ≤ 281474976710656) (hn : l.length ≤ 140737488351232) : Ev (fun k => laws_markPlantValveS.f k l a) (a + 4 * (l.length : Int), mk_PlantValveS l.length a) := by
  unfold laws_markPlantValveS.f
  have key := loopL z_impl_PlantValve l (P := fun i _ => ∀ y : List S_impl_PlantValve, y.length = l.length → (∀ j, j < i → y.getD j z_impl_PlantValve = (mk_PlantValveS l.length a).getD j z_impl_PlantValve) → Ev (fun k => laws_markPlantValveS.l0 k l (a + 4 * (i : Int)) (i : Int) y) (a + 4 * (l.length : Int), mk_PlantValveS l.length a))
    (fun y hyl hy => by
      obtain rfl := fill_end z_impl_PlantValve (mk_PlantValveS l.length a) y (by rw [mk_PlantValveS_length]; exact hyl) (fun j hj => hy j (by rwa [mk_PlantValveS_length] at hj))
      exact Ev.step (fun k => by rw [laws_markPlantValveS.l0]) (ev_pos hyl (ev_neg (by omega) (ev_ret rfl))))
    (fun i x r hi hx hm _ ih y hyl hy => by
      obtain ⟨h1, h2⟩ := fill_step z_impl_PlantValve (mk_PlantValveS l.length a) y i (by rw [mk_PlantValveS_length]; exact hyl) (by rw [mk_PlantValveS_length]; exact hi) hy _ (range_map_getD _ _ _ i hi).symm
      have hk := ih _ (by simpa using hyl) h2
      have hbd : 0 ≤ a + 4 * (i : Int) ∧ a + 4 * (i : Int) ≤ 1125899906842624 := by omega
      have e : a + 4 * ((i + 1 : Nat) : Int) = a + 4 * (i : Int) + 1 + 1 + 1 + 1 := by omega
      rw [e] at hk
      clear h1 h2 hy e ih
      generalize a + 4 * (i : Int) = b at hk hbd ⊢
      refine Ev.step (fun k => by rw [laws_markPlantValveS.l0]) (ev_pos hyl (ev_pos (by omega) ?_))
      have w1 : wrap64 (b + 1) = b + 1 := by unfold wrap64; omega
      have w2 : wrap64 (b + 1 + 1) = b + 1 + 1 := by unfold wrap64; omega
      have w3 : wrap64 (b + 1 + 1 + 1) = b + 1 + 1 + 1 := by unfold wrap64; omega
      have w4 : wrap64 (b + 1 + 1 + 1 + 1) = b + 1 + 1 + 1 + 1 := by unfold wrap64; omega
      simp only [w1, w2, w3, w4, wsucc hi (by omega : l.length ≤ 9223372036854775807), Int.toNat_natCast]
      repeat' (first | with_reducible exact hk | with_reducible refine Ev.bind (markText_ev _ (by omega)) ?_ | refine ev_pos (by omega) ?_))
  simpa using key l rfl (fun j hj => absurd hj (Nat.not_lt_zero _))
theorem markPlant_ev (x0 : List ByteArray) (x1 : List S_impl_PlantFoe) (x2 : List S_impl_PlantPlace) (x3 : List S_impl_PlantValve) (a : Int) (ha : 0 ≤ a) (hb : a ≤ 140737488355328) (h0 : x0.length ≤ 8796093022208) (h1 : x1.length ≤ 8796093022208) (h2 : x2.length ≤ 8796093022208) (h3 : x3.length ≤ 8796093022208) : Ev (fun k => laws_markPlant.f k x0 x1 x2 x3 a) (a + 1 * (x0.length : Int) + 2 * (x1.length : Int) + 3 * (x2.length : Int) + 4 * (x3.length : Int), mk_StringS x0.length (a), mk_PlantFoeS x1.length (a + 1 * (x0.length : Int)), mk_PlantPlaceS x2.length (a + 1 * (x0.length : Int) + 2 * (x1.length : Int)), mk_PlantValveS x3.length (a + 1 * (x0.length : Int) + 2 * (x1.length : Int) + 3 * (x2.length : Int))) := by
  unfold laws_markPlant.f
  refine Ev.bind (markStringS_ev x0 (a) (by omega) (by omega) (by omega)) ?_
  refine Ev.bind (markPlantFoeS_ev x1 (a + 1 * (x0.length : Int)) (by omega) (by omega) (by omega)) ?_
  refine Ev.bind (markPlantPlaceS_ev x2 (a + 1 * (x0.length : Int) + 2 * (x1.length : Int)) (by omega) (by omega) (by omega)) ?_
  refine Ev.bind (markPlantValveS_ev x3 (a + 1 * (x0.length : Int) + 2 * (x1.length : Int) + 3 * (x2.length : Int)) (by omega) (by omega) (by omega)) ?_
  exact ev_ret rfl
/-! ### names -/
theorem ev_b {α : Type} {b : Bool} {g f : Nat → Option α} {r : α} (h : b = true → Ev g r) (k : b = false → Ev f r) : Ev (fun n => if b = true then g n else f n) r := by
  cases b
  · exact ev_neg (by simp) (k rfl)
  · exact ev_pos rfl (h rfl)
/-- a yes or no that is asked -/
theorem ev_ask {α : Type} {o g f : Nat → Option α} {q : Nat → Option Bool} {b : Bool} {r : α} (hq : Ev q b) (h : b = true → Ev g r) (k : b = false → Ev f r) : Ev (fun n => (q n).bind fun t => if t = true then g n else f n) r := Ev.bind (f := fun n t => if t = true then g n else f n) hq (ev_b h k)
def okc (c : Int) : Bool := (decide (97 ≤ c) && decide (c ≤ 122)) || ((decide (48 ≤ c) && decide (c ≤ 57)) || decide (c = 45))
theorem okc_t {c : Int} (h : 97 ≤ c ∧ c ≤ 122 ∨ 48 ≤ c ∧ c ≤ 57 ∨ c = 45) : okc c = true := by simp [okc]; omega
theorem okc_f {c : Int} (h : ¬ (97 ≤ c ∧ c ≤ 122 ∨ 48 ≤ c ∧ c ≤ 57 ∨ c = 45)) : okc c = false := by
  rw [← Bool.not_eq_true]; intro q; apply h; simp [okc] at q; omega
def allFrom (s : ByteArray) (i : Nat) : Bool := decide (∀ j, j < s.size → i ≤ j → okc (bt s (j : Int)) = true)
theorem allFrom_step (s : ByteArray) (i : Nat) (h : i < s.size) : allFrom s i = (okc (bt s (i : Int)) && allFrom s (i + 1)) := by
  unfold allFrom
  rw [Bool.eq_iff_iff, Bool.and_eq_true, decide_eq_true_iff, decide_eq_true_iff]
  refine ⟨fun q => ⟨q i h (Nat.le_refl _), fun j hj hi => q j hj (by omega)⟩, fun q j hj hi => ?_⟩
  by_cases e : j = i
  · rw [e]; exact q.1
  · exact q.2 j hj (by omega)
theorem allFrom_end (s : ByteArray) : allFrom s s.size = true := by
  unfold allFrom
  rw [decide_eq_true_iff]
  intro j hj hi; omega
def nameB (s : ByteArray) : Bool := decide (1 ≤ s.size ∧ s.size ≤ 8) && allFrom s 0
/-- a walk over the places of a text -/
theorem loopN (n : Nat) {P : Nat → Prop} (h0 : P n) (hs : ∀ i, i < n → P (i + 1) → P i) : P 0 := by
  have key : ∀ (m i : Nat), i + m = n → P i := fun m => by
    induction m with
    | zero => intro i hi; have e : i = n := by omega
              subst e; exact h0
    | succ m ih => intro i hi; exact hs i (by omega) (ih (i + 1) (by omega))
  exact key n 0 (by omega)
/-- each before the next -/
def chainB {α : Type} (p : α → α → Bool) : Option α → List α → Bool
  | _, [] => true
  | none, x :: r => chainB p (some x) r
  | some y, x :: r => p y x && chainB p (some x) r
def namesB (l : List ByteArray) : Bool := l.all nameB && chainB lt none l
def hasB (l : List ByteArray) (s : ByteArray) : Bool := l.any fun x => decide (x = s)
theorem hasB_iff {l : List ByteArray} {s : ByteArray} : hasB l s = true ↔ s ∈ l := by
  unfold hasB
  rw [List.any_eq_true]
  exact ⟨fun ⟨x, h, e⟩ => by simp at e; exact e ▸ h, fun h => ⟨s, h, by simp⟩⟩
def inB (a b c : Int) : Bool := decide (b ≤ a ∧ a ≤ c)
theorem inB_t {a b c : Int} (h : b ≤ a ∧ a ≤ c) : inB a b c = true := decide_eq_true h
theorem inB_f {a b c : Int} (h : ¬ (b ≤ a ∧ a ≤ c)) : inB a b c = false := decide_eq_false h
theorem l2In_ev (a b c : Int) : Ev (fun _ => spec_l1In.f a b c) (inB a b c) := by
  unfold spec_l1In.f inB
  refine ev_split (fun h => ev_ret (decide_eq_decide.2 (by omega))) (fun h => ev_ret ?_)
  symm; apply decide_eq_false; omega
theorem l2NameOk_ev (s : ByteArray) : Ev (fun k => spec_l2NameOk.f k s) (nameB s) := by
  unfold spec_l2NameOk.f nameB
  refine Ev.bind (l2In_ev _ _ _) (ev_b (fun h => ?_) (fun h => ev_ret ?_))
  · have hs : 1 ≤ s.size ∧ s.size ≤ 8 := by have : inB _ _ _ = true := h; unfold inB at this; have := of_decide_eq_true this; omega
    rw [decide_eq_true hs, Bool.true_and]
    refine loopN s.size (P := fun i => Ev (fun k => spec_l2NameOk.l0 k s (i : Int)) (allFrom s i))
      (by refine Ev.step (fun k => by rw [spec_l2NameOk.l0]) ?_; exact ev_neg (by omega) (ev_ret (allFrom_end s).symm)) (fun i hi ih => ?_)
    refine Ev.step (fun k => by rw [spec_l2NameOk.l0]) (ev_pos (by omega) (ev_pos (by omega) ?_))
    rw [wsucc hi (by omega), allFrom_step s i hi]
    generalize bt s (i : Int) = c
    repeat' (first | (refine ev_split (fun _ => ?_) (fun _ => ?_)) | (rw [okc_t (by omega), Bool.true_and]; exact ih) | (rw [okc_f (by omega)]; exact ev_ret rfl))
  · have hs : ¬ (1 ≤ s.size ∧ s.size ≤ 8) := fun q => by have : inB _ _ _ = false := h; unfold inB at this; have := of_decide_eq_false this; omega
    rw [decide_eq_false hs]; rfl
theorem l2Has_ev (l : List ByteArray) (s : ByteArray) (hn : l.length ≤ 140737488351232) : Ev (fun k => spec_l2Has.f k l s) (hasB l s) := by
  unfold spec_l2Has.f hasB
  refine loopL ByteArray.empty l (P := fun i r => Ev (fun k => spec_l2Has.l0 k l s (i : Int)) (r.any fun x => decide (x = s)))
    (by refine Ev.step (fun k => by rw [spec_l2Has.l0]) ?_; exact ev_neg (by omega) (ev_ret rfl)) (fun i x r hi hx _ _ ih => ?_)
  refine Ev.step (fun k => by rw [spec_l2Has.l0]) (ev_pos (by omega) (ev_pos (by omega) ?_))
  rw [wsucc hi (by omega), rdOf_nat, hx]
  refine ev_split (fun c => ev_ret ?_) (fun c => ev_eq ih ?_)
  · simp [ba_iff.1 c]
  · simp [show ¬ x = s from fun e => c (ba_iff.2 e)]
theorem isName_ev (s : ByteArray) (hn : s.size ≤ 140737488351232) : Ev (fun k => impl_isName.f k s) (nameB s) := by
  unfold impl_isName.f nameB
  refine loopN s.size (P := fun i => Ev (fun k => impl_isName.l0 k s (i : Int)) (decide (1 ≤ s.size ∧ s.size ≤ 8) && allFrom s i))
    (by
      refine Ev.step (fun k => by rw [impl_isName.l0]) (ev_neg (by omega) ?_)
      rw [allFrom_end, Bool.and_true]
      refine ev_split (fun h => ev_ret (decide_eq_decide.2 (by omega))) (fun h => ev_ret ?_)
      symm; apply decide_eq_false; omega) (fun i hi ih => ?_)
  refine Ev.step (fun k => by rw [impl_isName.l0]) (ev_pos (by omega) (ev_pos (by omega) ?_))
  rw [wsucc hi (by omega), allFrom_step s i hi]
  generalize bt s (i : Int) = c
  repeat' (first | (refine ev_split (fun _ => ?_) (fun _ => ?_)) | (rw [okc_t (by omega), Bool.true_and]; exact ih) | (rw [okc_f (by omega), Bool.false_and, Bool.and_false]; exact ev_ret rfl))
theorem chain_none {α : Type} (p : α → α → Bool) (x : α) (r : List α) : chainB p none (x :: r) = chainB p (some x) r := rfl
theorem rising_ev (l : List ByteArray) (hn : l.length ≤ 140737488351232) : Ev (fun k => impl_rising.f k l) (chainB lt none l) := by
  unfold impl_rising.f
  have key : ∀ r i, l.drop (i + 1) = r → i < l.length → Ev (fun k => impl_rising.l0 k l ((i + 1 : Nat) : Int)) (chainB lt (some (l.getD i ByteArray.empty)) r) := fun r => by
    induction r with
    | nil =>
      intro i hd hi
      have : l.length ≤ i + 1 := List.drop_eq_nil_iff.1 hd
      refine Ev.step (fun k => by rw [impl_rising.l0]) ?_
      exact ev_neg (by omega) (ev_ret rfl)
    | cons x r ih =>
      intro i hd hi
      have hlt : i + 1 < l.length := by
        refine Nat.lt_of_not_le fun hle => ?_
        rw [List.drop_eq_nil_iff.2 hle] at hd; cases hd
      have e := List.drop_eq_getElem_cons hlt
      rw [hd] at e; injection e with e1 e2
      have hx : l.getD (i + 1) ByteArray.empty = x := by rw [getD_eq _ l _ hlt]; exact e1.symm
      refine Ev.step (fun k => by rw [impl_rising.l0]) (ev_pos (by omega) ?_)
      have hw : wrap64 (((i + 1 : Nat) : Int) - 1) = ((i : Nat) : Int) := by unfold wrap64; omega
      rw [hw, rdOf_nat, rdOf_nat, hx, wsucc hlt (by omega)]
      refine ev_pos (by omega) (ev_pos (by omega) (ev_pos (by omega) (ev_b (fun c => ?_) (fun c => ev_ret ?_))))
      · have c : lt (l.getD i ByteArray.empty) x = true := c
        have := ih (i + 1) e2.symm hlt
        rw [hx] at this
        simp only [chainB, c, Bool.true_and]; exact this
      · have c : lt (l.getD i ByteArray.empty) x = false := c
        simp only [chainB, c, Bool.false_and]
  cases l with
  | nil =>
    refine Ev.step (fun k => by rw [impl_rising.l0]) ?_
    exact ev_neg (show ¬ (1 : Int) < ((0 : Nat) : Int) by omega) (ev_ret rfl)
  | cons x r =>
    rw [chain_none]
    exact key r 0 rfl (by simp)
theorem names_ev (l : List ByteArray) (hn : l.length ≤ 140737488351232) (h : ∀ x ∈ l, x.size ≤ 140737488351232) : Ev (fun k => impl_names.f k l) (namesB l) := by
  unfold impl_names.f namesB
  refine loopL ByteArray.empty l (P := fun i r => Ev (fun k => impl_names.l0 k l (i : Int)) (r.all nameB && chainB lt none l))
    (by refine Ev.step (fun k => by rw [impl_names.l0]) ?_; exact ev_neg (by omega) (Ev.bind (rising_ev l hn) (ev_ret rfl))) (fun i x r hi hx hm _ ih => ?_)
  refine Ev.step (fun k => by rw [impl_names.l0]) (ev_pos (by omega) (ev_pos (by omega) ?_))
  rw [wsucc hi (by omega), rdOf_nat, hx]
  refine Ev.bind (isName_ev x (h x hm)) (ev_b (fun c => ?_) (fun c => ev_ret ?_))
  · simpa [c] using ih
  · simp [c]
theorem has_ev (l : List ByteArray) (s : ByteArray) (hn : l.length ≤ 140737488351232) : Ev (fun k => impl_has.f k l s) (hasB l s) := by
  have key : ∃ v : Int, (decide (v ≥ 0) = hasB l s) ∧ Ev (fun k => slices_Index_string_string.f k l s) v := by
    unfold slices_Index_string_string.f hasB
    refine loopL ByteArray.empty l (P := fun i r => ∃ v : Int, (decide (v ≥ 0) = r.any fun x => decide (x = s)) ∧ Ev (fun k => slices_Index_string_string.l0 k l s (i : Int)) v)
      ⟨-1, rfl, Ev.step (fun k => by rw [slices_Index_string_string.l0]) (ev_neg (by omega) (ev_ret rfl))⟩ (fun i x r hi hx _ _ ih => ?_)
    obtain ⟨v, hv, he⟩ := ih
    by_cases c : x = s
    · refine ⟨(i : Int), by simp [c], Ev.step (fun k => by rw [slices_Index_string_string.l0]) ?_⟩
      rw [rdOf_nat, hx]
      exact ev_pos (by omega) (ev_pos (by omega) (ev_pos (by rw [c]) (ev_ret rfl)))
    · refine ⟨v, by simpa [c] using hv, Ev.step (fun k => by rw [slices_Index_string_string.l0]) ?_⟩
      rw [rdOf_nat, hx, wsucc hi (by omega)]
      exact ev_pos (by omega) (ev_pos (by omega) (ev_neg (fun q => c (ba_ext q).symm) he))
  obtain ⟨v, hv, he⟩ := key
  unfold impl_has.f slices_Contains_string_string.f
  exact Ev.bind (Ev.bind he (ev_ret hv)) (ev_ret rfl)
/-! ### plants: what a valid one is -/
theorem rdF (l : List S_impl_PlantFoe) (i : Nat) : rd_impl_PlantFoe l (i : Int) = l.getD i z_impl_PlantFoe := by unfold rd_impl_PlantFoe; rw [Int.toNat_natCast]
theorem rdP (l : List S_impl_PlantPlace) (i : Nat) : rd_impl_PlantPlace l (i : Int) = l.getD i z_impl_PlantPlace := by unfold rd_impl_PlantPlace; rw [Int.toNat_natCast]
theorem rdV (l : List S_impl_PlantValve) (i : Nat) : rd_impl_PlantValve l (i : Int) = l.getD i z_impl_PlantValve := by unfold rd_impl_PlantValve; rw [Int.toNat_natCast]
def foeLt (x y : S_impl_PlantFoe) : Bool := befB x.f0 x.f1 y.f0 y.f1
def foeB (s : List ByteArray) (x : S_impl_PlantFoe) : Bool := lt x.f0 x.f1 && (hasB s x.f0 && hasB s x.f1)
def foesB (s : List ByteArray) (f : List S_impl_PlantFoe) : Bool := f.all (foeB s) && chainB foeLt none f
def placeLt (x y : S_impl_PlantPlace) : Bool := lt x.f0 y.f0
def placeB (x : S_impl_PlantPlace) : Bool := nameB x.f0 && (inB x.f1 0 1000 && nameB x.f2)
def placesB (p : List S_impl_PlantPlace) : Bool := p.all placeB && chainB placeLt none p
def placeHas (p : List S_impl_PlantPlace) (x : ByteArray) : Bool := p.any fun y => decide (y.f0 = x)
def valveLt (x y : S_impl_PlantValve) : Bool := lt x.f0 y.f0
def valveB (p : List S_impl_PlantPlace) (x : S_impl_PlantValve) : Bool := nameB x.f0 && (lt x.f1 x.f2 && (placeHas p x.f1 && (placeHas p x.f2 && nameB x.f3)))
def valvesB (p : List S_impl_PlantPlace) (v : List S_impl_PlantValve) : Bool := v.all (valveB p) && chainB valveLt none v
def validB (s : List ByteArray) (f : List S_impl_PlantFoe) (p : List S_impl_PlantPlace) (v : List S_impl_PlantValve) : Bool :=
  (decide (s.length ≤ 8) && decide (f.length ≤ 12)) && ((namesB s && foesB s f) && ((decide (p.length ≤ 14) && placesB p) && (decide (v.length ≤ 18) && valvesB p v)))
theorem l2Before_ev (a0 a1 b0 b1 : ByteArray) : Ev (fun _ => spec_l2Before.f a0 a1 b0 b1) (befB a0 a1 b0 b1) := by
  unfold spec_l2Before.f
  repeat' (first
    | with_reducible refine ev_pos (by omega) ?_
    | with_reducible refine ev_neg (by omega) ?_
    | with_reducible refine ev_b (fun c => ?_) (fun c => ?_)
    | with_reducible refine ev_split (fun c => ?_) (fun c => ?_))
  all_goals (first
    | (with_reducible refine ev_ret ?_; simp_all [chainB, lt, ba_iff, befB]; done)
    | (with_reducible refine ev_eq (ih) ?_; simp_all [chainB, lt, ba_iff, befB]; done))
theorem l2Foes1_ev (s : List ByteArray) (f : List S_impl_PlantFoe) (hs : s.length ≤ 140737488351232) (hf : f.length ≤ 140737488351232) : Ev (fun k => spec_l2StuffsOk.l1 k s f 0) (foesB s f) := by
  refine loopL z_impl_PlantFoe f (P := fun i r => Ev (fun k => spec_l2StuffsOk.l1 k s f (i : Int)) (r.all (foeB s) && chainB foeLt (ahead z_impl_PlantFoe f i) r))
    (by refine Ev.step (fun k => by rw [spec_l2StuffsOk.l1]) ?_; exact ev_neg (by omega) (ev_ret rfl)) (fun i x r hi hx _ _ ih => ?_)
  refine Ev.step (fun k => by rw [spec_l2StuffsOk.l1]) (ev_pos (by omega) (ev_pos (by omega) ?_))
  rw [wsucc hi (by omega), rdF, hx]
  rw [ahead_succ, hx] at ih
  clear hx
  by_cases z : i = 0
  · subst z
    rw [ahead_zero]
    repeat' (first
      | with_reducible refine Ev.bind (l2Has_ev _ _ hs) ?_
      | with_reducible refine ev_pos (by omega) ?_
      | with_reducible refine ev_neg (by omega) ?_
      | with_reducible refine ev_b (fun c => ?_) (fun c => ?_)
      | with_reducible refine ev_split (fun c => ?_) (fun c => ?_))
    all_goals (first
      | (with_reducible refine ev_ret ?_; simp_all [chainB, lt, ba_iff, foeB, foeLt]; done)
      | (with_reducible refine ev_eq (ih) ?_; simp_all [chainB, lt, ba_iff, foeB, foeLt]; done))
  · rw [pre64 z (by omega), rdF, ahead_pos _ _ _ z]
    generalize f.getD (i - 1) z_impl_PlantFoe = y
    repeat' (first
      | with_reducible refine Ev.bind (l2Has_ev _ _ hs) ?_
      | with_reducible refine Ev.bind (l2Before_ev _ _ _ _) ?_
      | with_reducible refine ev_pos (by omega) ?_
      | with_reducible refine ev_neg (by omega) ?_
      | with_reducible refine ev_b (fun c => ?_) (fun c => ?_)
      | with_reducible refine ev_split (fun c => ?_) (fun c => ?_))
    all_goals (first
      | (with_reducible refine ev_ret ?_; simp_all [chainB, lt, ba_iff, foeB, foeLt]; done)
      | (with_reducible refine ev_eq (ih) ?_; simp_all [chainB, lt, ba_iff, foeB, foeLt]; done))
theorem l2Stuffs_ev (s : List ByteArray) (f : List S_impl_PlantFoe) (p : List S_impl_PlantPlace) (v : List S_impl_PlantValve) (hs : s.length ≤ 140737488351232) (hf : f.length ≤ 140737488351232) :
    Ev (fun k => spec_l2StuffsOk.f k s f p v) ((decide (s.length ≤ 8) && decide (f.length ≤ 12)) && (namesB s && foesB s f)) := by
  have L1 := l2Foes1_ev s f hs hf
  generalize foesB s f = T at L1 ⊢
  have L0 : Ev (fun k => spec_l2StuffsOk.l0 k s f 0) (namesB s && T) := by
    refine loopL ByteArray.empty s (P := fun i r => Ev (fun k => spec_l2StuffsOk.l0 k s f (i : Int)) ((r.all nameB && chainB lt (ahead ByteArray.empty s i) r) && T))
      (by refine Ev.step (fun k => by rw [spec_l2StuffsOk.l0]) ?_; exact ev_neg (by omega) L1) (fun i x r hi hx _ _ ih => ?_)
    refine Ev.step (fun k => by rw [spec_l2StuffsOk.l0]) (ev_pos (by omega) (ev_pos (by omega) ?_))
    rw [wsucc hi (by omega), rdOf_nat, hx]
    rw [ahead_succ, hx] at ih
    clear hx L1
    by_cases z : i = 0
    · subst z
      rw [ahead_zero]
      repeat' (first
        | with_reducible refine Ev.bind (l2NameOk_ev _) ?_
        | with_reducible refine ev_pos (by omega) ?_
        | with_reducible refine ev_neg (by omega) ?_
        | with_reducible refine ev_b (fun c => ?_) (fun c => ?_)
        | with_reducible refine ev_split (fun c => ?_) (fun c => ?_))
      all_goals (first
        | (with_reducible refine ev_ret ?_; simp_all [chainB, lt, ba_iff]; done)
        | (with_reducible refine ev_eq (ih) ?_; simp_all [chainB, lt, ba_iff]; done))
    · rw [pre64 z (by omega), rdOf_nat, ahead_pos _ _ _ z]
      generalize s.getD (i - 1) ByteArray.empty = y
      repeat' (first
        | with_reducible refine Ev.bind (l2NameOk_ev _) ?_
        | with_reducible refine ev_pos (by omega) ?_
        | with_reducible refine ev_neg (by omega) ?_
        | with_reducible refine ev_b (fun c => ?_) (fun c => ?_)
        | with_reducible refine ev_split (fun c => ?_) (fun c => ?_))
      all_goals (first
        | (with_reducible refine ev_ret ?_; simp_all [chainB, lt, ba_iff]; done)
        | (with_reducible refine ev_eq (ih) ?_; simp_all [chainB, lt, ba_iff]; done))
  unfold spec_l2StuffsOk.f
  refine ev_split (fun c => ev_ret ?_) (fun c => ev_split (fun d => ev_ret ?_) (fun d => ev_eq L0 ?_))
  · rw [decide_eq_false (by omega : ¬ s.length ≤ 8)]; rfl
  · rw [decide_eq_false (by omega : ¬ f.length ≤ 12), Bool.and_false]; rfl
  · rw [decide_eq_true (by omega : s.length ≤ 8), decide_eq_true (by omega : f.length ≤ 12)]; rfl
theorem l2Places_ev (s : List ByteArray) (f : List S_impl_PlantFoe) (p : List S_impl_PlantPlace) (v : List S_impl_PlantValve) (hp : p.length ≤ 140737488351232) :
    Ev (fun k => spec_l2PlacesOk.f k s f p v) (decide (p.length ≤ 14) && placesB p) := by
  unfold spec_l2PlacesOk.f
  refine ev_split (fun c => ev_ret (by rw [decide_eq_false (by omega : ¬ p.length ≤ 14)]; rfl)) (fun c => ?_)
  rw [decide_eq_true (by omega : p.length ≤ 14), Bool.true_and]
  refine loopL z_impl_PlantPlace p (P := fun i r => Ev (fun k => spec_l2PlacesOk.l0 k p (i : Int)) (r.all placeB && chainB placeLt (ahead z_impl_PlantPlace p i) r))
    (by refine Ev.step (fun k => by rw [spec_l2PlacesOk.l0]) ?_; exact ev_neg (by omega) (ev_ret rfl)) (fun i x r hi hx _ _ ih => ?_)
  refine Ev.step (fun k => by rw [spec_l2PlacesOk.l0]) (ev_pos (by omega) (ev_pos (by omega) ?_))
  rw [wsucc hi (by omega), rdP, hx]
  rw [ahead_succ, hx] at ih
  clear hx
  by_cases z : i = 0
  · subst z
    rw [ahead_zero]
    repeat' (first
      | with_reducible refine Ev.bind (l2NameOk_ev _) ?_
      | with_reducible refine Ev.bind (l2In_ev _ _ _) ?_
      | with_reducible refine ev_pos (by omega) ?_
      | with_reducible refine ev_neg (by omega) ?_
      | with_reducible refine ev_b (fun c => ?_) (fun c => ?_)
      | with_reducible refine ev_split (fun c => ?_) (fun c => ?_))
    all_goals (first
      | (with_reducible refine ev_ret ?_; simp_all [chainB, lt, ba_iff, placeB, placeLt]; done)
      | (with_reducible refine ev_eq (ih) ?_; simp_all [chainB, lt, ba_iff, placeB, placeLt]; done))
  · rw [pre64 z (by omega), rdP, ahead_pos _ _ _ z]
    generalize p.getD (i - 1) z_impl_PlantPlace = y
    repeat' (first
      | with_reducible refine Ev.bind (l2NameOk_ev _) ?_
      | with_reducible refine Ev.bind (l2In_ev _ _ _) ?_
      | with_reducible refine ev_pos (by omega) ?_
      | with_reducible refine ev_neg (by omega) ?_
      | with_reducible refine ev_b (fun c => ?_) (fun c => ?_)
      | with_reducible refine ev_split (fun c => ?_) (fun c => ?_))
    all_goals (first
      | (with_reducible refine ev_ret ?_; simp_all [chainB, lt, ba_iff, placeB, placeLt]; done)
      | (with_reducible refine ev_eq (ih) ?_; simp_all [chainB, lt, ba_iff, placeB, placeLt]; done))
/-- where a place lies, -1 if there is none -/
def placeIx (x : ByteArray) : List S_impl_PlantPlace → Int → Int
  | [], _ => -1
  | y :: r, i => if y.f0 = x then i else placeIx x r (i + 1)
theorem placeIx_neg (x : ByteArray) : ∀ (r : List S_impl_PlantPlace) (i : Int), 0 ≤ i → (decide (placeIx x r i < 0) = !placeHas r x) ∧ (placeHas r x = true → i ≤ placeIx x r i)
  | [], i, h => ⟨rfl, fun h => by simp [placeHas] at h⟩
  | y :: r, i, h => by
    obtain ⟨h1, h2⟩ := placeIx_neg x r (i + 1) (by omega)
    rw [show placeIx x (y :: r) i = if y.f0 = x then i else placeIx x r (i + 1) from rfl, show placeHas (y :: r) x = (decide (y.f0 = x) || placeHas r x) from rfl]
    by_cases c : y.f0 = x
    · rw [if_pos c, decide_eq_true c, Bool.true_or]
      exact ⟨decide_eq_false (by omega), fun _ => Int.le_refl _⟩
    · rw [if_neg c, decide_eq_false c, Bool.false_or]
      exact ⟨h1, fun q => by have := h2 q; omega⟩
theorem l2Place_ev (s : List ByteArray) (f : List S_impl_PlantFoe) (p : List S_impl_PlantPlace) (v : List S_impl_PlantValve) (x : ByteArray) (hp : p.length ≤ 140737488351232) :
    Ev (fun k => spec_l2Place.f k s f p v x) (placeIx x p 0) := by
  unfold spec_l2Place.f
  refine loopL z_impl_PlantPlace p (P := fun i r => Ev (fun k => spec_l2Place.l0 k p x (i : Int)) (placeIx x r (i : Int)))
    (by refine Ev.step (fun k => by rw [spec_l2Place.l0]) ?_; exact ev_neg (by omega) (ev_ret rfl)) (fun i y r hi hx _ _ ih => ?_)
  refine Ev.step (fun k => by rw [spec_l2Place.l0]) (ev_pos (by omega) (ev_pos (by omega) ?_))
  rw [wsucc hi (by omega), rdP, hx]
  unfold placeIx
  refine ev_split (fun c => ev_ret (by rw [if_pos (ba_iff.1 c)])) (fun c => ev_eq ih (by rw [if_neg (fun e => c (ba_iff.2 e))]; push_cast; rfl))
theorem placeNeg_ev (x : ByteArray) (p : List S_impl_PlantPlace) : (placeIx x p 0 < 0) ↔ placeHas p x = false := by
  have := (placeIx_neg x p 0 (Int.le_refl _)).1
  cases h : placeHas p x <;> rw [h] at this <;> simpa using this
theorem l2Valves_ev (s : List ByteArray) (f : List S_impl_PlantFoe) (p : List S_impl_PlantPlace) (v : List S_impl_PlantValve) (hp : p.length ≤ 140737488351232) (hv : v.length ≤ 140737488351232) :
    Ev (fun k => spec_l2ValvesOk.f k s f p v) (decide (v.length ≤ 18) && valvesB p v) := by
  unfold spec_l2ValvesOk.f
  refine ev_split (fun c => ev_ret (by rw [decide_eq_false (by omega : ¬ v.length ≤ 18)]; rfl)) (fun c => ?_)
  rw [decide_eq_true (by omega : v.length ≤ 18), Bool.true_and]
  refine loopL z_impl_PlantValve v (P := fun i r => Ev (fun k => spec_l2ValvesOk.l0 k s f p v (i : Int)) (r.all (valveB p) && chainB valveLt (ahead z_impl_PlantValve v i) r))
    (by refine Ev.step (fun k => by rw [spec_l2ValvesOk.l0]) ?_; exact ev_neg (by omega) (ev_ret rfl)) (fun i x r hi hx _ _ ih => ?_)
  refine Ev.step (fun k => by rw [spec_l2ValvesOk.l0]) (ev_pos (by omega) (ev_pos (by omega) ?_))
  rw [wsucc hi (by omega), rdV, hx]
  rw [ahead_succ, hx] at ih
  clear hx
  by_cases z : i = 0
  · subst z
    rw [ahead_zero]
    repeat' (first
      | with_reducible refine Ev.bind (l2NameOk_ev _) ?_
      | with_reducible refine Ev.bind (l2Place_ev _ _ _ _ _ hp) ?_
      | with_reducible refine ev_pos (by omega) ?_
      | with_reducible refine ev_neg (by omega) ?_
      | with_reducible refine ev_b (fun c => ?_) (fun c => ?_)
      | with_reducible refine ev_split (fun c => ?_) (fun c => ?_))
    all_goals (first
      | (with_reducible refine ev_ret ?_; simp_all [chainB, lt, ba_iff, valveB, valveLt, placeNeg_ev]; done)
      | (with_reducible refine ev_eq (ih) ?_; simp_all [chainB, lt, ba_iff, valveB, valveLt, placeNeg_ev]; done))
  · rw [pre64 z (by omega), rdV, ahead_pos _ _ _ z]
    generalize v.getD (i - 1) z_impl_PlantValve = y
    repeat' (first
      | with_reducible refine Ev.bind (l2NameOk_ev _) ?_
      | with_reducible refine Ev.bind (l2Place_ev _ _ _ _ _ hp) ?_
      | with_reducible refine ev_pos (by omega) ?_
      | with_reducible refine ev_neg (by omega) ?_
      | with_reducible refine ev_b (fun c => ?_) (fun c => ?_)
      | with_reducible refine ev_split (fun c => ?_) (fun c => ?_))
    all_goals (first
      | (with_reducible refine ev_ret ?_; simp_all [chainB, lt, ba_iff, valveB, valveLt, placeNeg_ev]; done)
      | (with_reducible refine ev_eq (ih) ?_; simp_all [chainB, lt, ba_iff, valveB, valveLt, placeNeg_ev]; done))
theorem specValid_ev (s : List ByteArray) (f : List S_impl_PlantFoe) (p : List S_impl_PlantPlace) (v : List S_impl_PlantValve) (hs : s.length ≤ 140737488351232) (hf : f.length ≤ 140737488351232) (hp : p.length ≤ 140737488351232) (hv : v.length ≤ 140737488351232) :
    Ev (fun k => spec_PlantValid.f k s f p v) (validB s f p v) := by
  unfold spec_PlantValid.f validB
  have e1 := l2Stuffs_ev s f p v hs hf
  have e2 := l2Places_ev s f p v hp
  have e3 := l2Valves_ev s f p v hp hv
  rw [← Bool.and_assoc]
  generalize ((decide (s.length ≤ 8) && decide (f.length ≤ 12)) && (namesB s && foesB s f)) = b1 at e1 ⊢
  generalize (decide (p.length ≤ 14) && placesB p) = b2 at e2 ⊢
  generalize (decide (v.length ≤ 18) && valvesB p v) = b3 at e3 ⊢
  repeat' (first
    | with_reducible refine Ev.bind (e1) ?_
    | with_reducible refine Ev.bind (e2) ?_
    | with_reducible refine Ev.bind (e3) ?_
    | with_reducible refine ev_pos (by omega) ?_
    | with_reducible refine ev_neg (by omega) ?_
    | with_reducible refine ev_b (fun c => ?_) (fun c => ?_)
    | with_reducible refine ev_split (fun c => ?_) (fun c => ?_))
  all_goals (first
    | (with_reducible refine ev_ret ?_; simp_all [chainB, lt, ba_iff]; done)
    | (with_reducible refine ev_eq (ih) ?_; simp_all [chainB, lt, ba_iff]; done))
/-! ### plants: what the program says of them -/
def mkPair (x : S_impl_PlantFoe) : S_A2_string := ⟨x.f0, x.f1⟩
theorem rdA2 (l : List S_A2_string) (i : Nat) : rd_A2_string l (i : Int) = l.getD i z_A2_string := by unfold rd_A2_string; rw [Int.toNat_natCast]
theorem pairs_ev (s : List ByteArray) (f : List S_impl_PlantFoe) (p : List S_impl_PlantPlace) (v : List S_impl_PlantValve) (hf : f.length ≤ 4398046511104) :
    Ev (fun k => impl_Plant_pairs.f k s f p v) (f.map mkPair) := by
  unfold impl_Plant_pairs.f
  have key := loopL z_impl_PlantFoe f (P := fun i r => ∀ acc : List S_A2_string, acc.length = i → Ev (fun k => impl_Plant_pairs.l0 k f acc (i : Int)) (acc ++ r.map mkPair))
    (fun acc h => by refine Ev.step (fun k => by rw [impl_Plant_pairs.l0]) ?_; exact ev_neg (by omega) (ev_ret (by simp))) (fun i x r hi hx _ _ ih acc h => ?_)
  · simpa using key [] rfl
  refine Ev.step (fun k => by rw [impl_Plant_pairs.l0]) (ev_pos (by omega) (ev_pos (by omega) (ev_pos (by omega) ?_)))
  rw [wsucc hi (by omega), rdF, hx]
  refine ev_eq (ih _ (by simp [h])) (by simp [mkPair])
def pairLt (x y : S_A2_string) : Bool := befB x.f0 x.f1 y.f0 y.f1
def pairB (x : S_A2_string) : Bool := nameB x.f0 && (nameB x.f1 && lt x.f0 x.f1)
def pairsB (l : List S_A2_string) : Bool := l.all pairB && chainB pairLt none l
theorem befB_of {a0 a1 b0 b1 : ByteArray} (h : Op.bytesLess b0.toList a0.toList = false) : befB a0 a1 b0 b1 = (decide (a0 = b0 → Op.bytesLess a1.toList b1.toList = true)) := by
  unfold befB
  rcases lt_tri a0 b0 with c | c | c
  · rw [c, decide_eq_true (fun e => absurd e (lt_ne c))]; rfl
  · subst c; rw [lt_irr, decide_eq_true rfl]
    cases q : Op.bytesLess a1.toList b1.toList <;> simp [lt, q]
  · have : Op.bytesLess b0.toList a0.toList = true := c
    rw [h] at this; cases this
theorem befB_no {a0 a1 b0 b1 : ByteArray} (h : Op.bytesLess b0.toList a0.toList = true) : befB a0 a1 b0 b1 = false := by
  unfold befB
  rw [lt_asym h, decide_eq_false (fun e => lt_ne h e.symm)]; rfl
theorem foesOk_ev (l : List S_A2_string) (a : Int) (hn : l.length ≤ 140737488351232) (h : ∀ x ∈ l, x.f0.size ≤ 140737488351232 ∧ x.f1.size ≤ 140737488351232) :
    Ev (fun k => impl_foesOk.f k l a) (pairsB l && decide ((l.length : Int) ≤ a)) := by
  unfold impl_foesOk.f
  refine loopL z_A2_string l (P := fun i r => Ev (fun k => impl_foesOk.l0 k l a (i : Int)) ((r.all pairB && chainB pairLt (ahead z_A2_string l i) r) && decide ((l.length : Int) ≤ a)))
    (by refine Ev.step (fun k => by rw [impl_foesOk.l0]) ?_; exact ev_neg (by omega) (ev_ret rfl)) (fun i x r hi hx hm _ ih => ?_)
  refine Ev.step (fun k => by rw [impl_foesOk.l0]) (ev_pos (by omega) (ev_pos (by omega) ?_))
  obtain ⟨q0, q1⟩ := h x hm
  rw [wsucc hi (by omega), rdA2, hx]
  rw [ahead_succ, hx] at ih
  generalize decide ((l.length : Int) ≤ a) = D at ih ⊢
  clear hx h hm
  by_cases z : i = 0
  · subst z
    rw [ahead_zero]
    repeat' (first
      | with_reducible refine Ev.bind (isName_ev _ q0) ?_
      | with_reducible refine Ev.bind (isName_ev _ q1) ?_
      | with_reducible refine ev_pos (by omega) ?_
      | with_reducible refine ev_neg (by omega) ?_
      | with_reducible refine ev_b (fun c => ?_) (fun c => ?_)
      | with_reducible refine ev_split (fun c => ?_) (fun c => ?_))
    all_goals (first
      | (with_reducible refine ev_ret ?_; simp_all [chainB, lt, ba_iff, pairB, pairLt]; done)
      | (with_reducible refine ev_eq (ih) ?_; simp_all [chainB, lt, ba_iff, pairB, pairLt]; done))
  · rw [pre64 z (by omega), rdA2, ahead_pos _ _ _ z]
    generalize l.getD (i - 1) z_A2_string = y
    have hb := @befB_of y.f0 y.f1 x.f0 x.f1
    have hc := @befB_no y.f0 y.f1 x.f0 x.f1
    repeat' (first
      | with_reducible refine Ev.bind (isName_ev _ q0) ?_
      | with_reducible refine Ev.bind (isName_ev _ q1) ?_
      | with_reducible refine ev_pos (by omega) ?_
      | with_reducible refine ev_neg (by omega) ?_
      | with_reducible refine ev_b (fun c => ?_) (fun c => ?_)
      | with_reducible refine ev_split (fun c => ?_) (fun c => ?_))
    all_goals (first
      | (with_reducible refine ev_ret ?_; simp_all [chainB, lt, ba_iff, pairB, pairLt]; done)
      | (with_reducible refine ev_eq (ih) ?_; simp_all [chainB, lt, ba_iff, pairB, pairLt]; done))
/-- the first place of a name -/
def placeOf (x : ByteArray) : List S_impl_PlantPlace → ByteArray × Int × ByteArray × Bool
  | [] => ((⟨#[]⟩ : ByteArray), 0, (⟨#[]⟩ : ByteArray), false)
  | y :: r => if y.f0 = x then (y.f0, y.f1, y.f2, true) else placeOf x r
theorem placeOf_has (x : ByteArray) : ∀ l : List S_impl_PlantPlace, (placeOf x l).2.2.2 = placeHas l x
  | [] => rfl
  | y :: r => by
    rw [show placeHas (y :: r) x = (decide (y.f0 = x) || placeHas r x) from rfl, ← placeOf_has x r, show placeOf x (y :: r) = if y.f0 = x then (y.f0, y.f1, y.f2, true) else placeOf x r from rfl]
    by_cases c : y.f0 = x
    · rw [if_pos c, decide_eq_true c]; rfl
    · rw [if_neg c, decide_eq_false c]; rfl
theorem place_ev (s : List ByteArray) (f : List S_impl_PlantFoe) (p : List S_impl_PlantPlace) (v : List S_impl_PlantValve) (x : ByteArray) (hp : p.length ≤ 140737488351232) :
    Ev (fun k => impl_Plant_place.f k s f p v x) (placeOf x p) := by
  unfold impl_Plant_place.f
  refine loopL z_impl_PlantPlace p (P := fun i r => Ev (fun k => impl_Plant_place.l0 k p x (i : Int)) (placeOf x r))
    (by refine Ev.step (fun k => by rw [impl_Plant_place.l0]) ?_; exact ev_neg (by omega) (ev_ret rfl)) (fun i y r hi hx _ _ ih => ?_)
  refine Ev.step (fun k => by rw [impl_Plant_place.l0]) (ev_pos (by omega) (ev_pos (by omega) ?_))
  rw [wsucc hi (by omega), rdP, hx]
  unfold placeOf
  refine ev_split (fun c => ev_ret (by rw [if_pos (ba_iff.1 c)])) (fun c => ev_eq ih (by rw [if_neg (fun e => c (ba_iff.2 e))]))
theorem implValid2_ev (s : List ByteArray) (f : List S_impl_PlantFoe) (p : List S_impl_PlantPlace) (v : List S_impl_PlantValve) (hp : p.length ≤ 140737488351232) (hv : v.length ≤ 140737488351232)
    (hz : ∀ x ∈ v, x.f0.size ≤ 140737488351232 ∧ x.f3.size ≤ 140737488351232) : Ev (fun k => impl_PlantValid.l2 k s f p v 0) (valvesB p v) := by
  refine loopL z_impl_PlantValve v (P := fun i r => Ev (fun k => impl_PlantValid.l2 k s f p v (i : Int)) (r.all (valveB p) && chainB valveLt (ahead z_impl_PlantValve v i) r))
    (by refine Ev.step (fun k => by rw [impl_PlantValid.l2]) ?_; exact ev_neg (by omega) (ev_ret rfl)) (fun i x r hi hx hm _ ih => ?_)
  obtain ⟨q0, q1⟩ := hz x hm
  rw [ahead_succ, hx] at ih
  have j0 : ∀ (b : Bool) (R : Bool), R = (!b && (r.all (valveB p) && chainB valveLt (some x) r)) → Ev (fun k => impl_PlantValid.j0 k s f p v (i : Int) b) R := fun b R hR => by
    subst hR
    refine Ev.step (fun k => by rw [impl_PlantValid.j0]) ?_
    rw [wsucc hi (by omega)]
    cases b
    · exact ev_neg (by simp) ih
    · exact ev_pos rfl (ev_ret rfl)
  refine Ev.step (fun k => by rw [impl_PlantValid.l2]) (ev_pos (by omega) (ev_pos (by omega) ?_))
  rw [rdV, hx]
  refine Ev.bind (place_ev s f p v _ hp) (Ev.bind (place_ev s f p v _ hp) ?_)
  rw [placeOf_has, placeOf_has]
  clear hx hz hm
  by_cases z : i = 0
  · subst z
    rw [ahead_zero]
    repeat' (first | with_reducible refine Ev.bind (isName_ev _ q0) ?_ | with_reducible refine Ev.bind (isName_ev _ q1) ?_ | with_reducible refine ev_pos (by omega) ?_ | with_reducible refine ev_neg (by omega) ?_ | with_reducible refine ev_b (fun c => ?_) (fun c => ?_))
    all_goals (with_reducible refine j0 _ _ ?_; simp_all [chainB, valveB, lt])
  · rw [pre64 z (by omega), rdV, ahead_pos _ _ _ z]
    generalize v.getD (i - 1) z_impl_PlantValve = y
    repeat' (first | with_reducible refine Ev.bind (isName_ev _ q0) ?_ | with_reducible refine Ev.bind (isName_ev _ q1) ?_ | with_reducible refine ev_pos (by omega) ?_ | with_reducible refine ev_neg (by omega) ?_ | with_reducible refine ev_b (fun c => ?_) (fun c => ?_))
    all_goals (with_reducible refine j0 _ _ ?_; first | (simp_all [chainB, valveB, valveLt, lt]; done) | (simp_all [chainB, valveB, valveLt, lt, Bool.and_left_comm]; done))
theorem implValid1_ev (s : List ByteArray) (f : List S_impl_PlantFoe) (p : List S_impl_PlantPlace) (v : List S_impl_PlantValve) (hp : p.length ≤ 140737488351232) (hv : v.length ≤ 140737488351232)
    (hz : ∀ x ∈ v, x.f0.size ≤ 140737488351232 ∧ x.f3.size ≤ 140737488351232) (hy : ∀ x ∈ p, x.f0.size ≤ 140737488351232 ∧ x.f2.size ≤ 140737488351232) : Ev (fun k => impl_PlantValid.l1 k s f p v 0) (placesB p && valvesB p v) := by
  have L2 := implValid2_ev s f p v hp hv hz
  generalize valvesB p v = T at L2 ⊢
  refine loopL z_impl_PlantPlace p (P := fun i r => Ev (fun k => impl_PlantValid.l1 k s f p v (i : Int)) ((r.all placeB && chainB placeLt (ahead z_impl_PlantPlace p i) r) && T))
    (by refine Ev.step (fun k => by rw [impl_PlantValid.l1]) ?_; exact ev_neg (by omega) L2) (fun i x r hi hx hm _ ih => ?_)
  refine Ev.step (fun k => by rw [impl_PlantValid.l1]) (ev_pos (by omega) (ev_pos (by omega) ?_))
  obtain ⟨q0, q1⟩ := hy x hm
  rw [wsucc hi (by omega), rdP, hx]
  rw [ahead_succ, hx] at ih
  clear hx hz hy hm L2
  by_cases d : 0 ≤ x.f1 ∧ x.f1 ≤ 1000
  · have hd := inB_t d
    by_cases z : i = 0
    · subst z
      rw [ahead_zero]
      repeat' (first
        | with_reducible refine Ev.bind (isName_ev _ q0) ?_
        | with_reducible refine Ev.bind (isName_ev _ q1) ?_
        | with_reducible refine ev_pos (by omega) ?_
        | with_reducible refine ev_neg (by omega) ?_
        | with_reducible refine ev_b (fun c => ?_) (fun c => ?_)
        | with_reducible refine ev_split (fun c => ?_) (fun c => ?_))
      all_goals (first
        | (with_reducible refine ev_ret ?_; simp_all [chainB, lt, ba_iff, placeB, placeLt]; done)
        | (with_reducible refine ev_eq (ih) ?_; simp_all [chainB, lt, ba_iff, placeB, placeLt]; done))
    · rw [pre64 z (by omega), rdP, ahead_pos _ _ _ z]
      generalize p.getD (i - 1) z_impl_PlantPlace = y
      repeat' (first
        | with_reducible refine Ev.bind (isName_ev _ q0) ?_
        | with_reducible refine Ev.bind (isName_ev _ q1) ?_
        | with_reducible refine ev_pos (by omega) ?_
        | with_reducible refine ev_neg (by omega) ?_
        | with_reducible refine ev_b (fun c => ?_) (fun c => ?_)
        | with_reducible refine ev_split (fun c => ?_) (fun c => ?_))
      all_goals (first
        | (with_reducible refine ev_ret ?_; simp_all [chainB, lt, ba_iff, placeB, placeLt]; done)
        | (with_reducible refine ev_eq (ih) ?_; simp_all [chainB, lt, ba_iff, placeB, placeLt]; done))
  · have hd := inB_f d
    refine Ev.bind (isName_ev _ q0) (ev_b (fun c => ev_split (fun c1 => ev_ret ?_) (fun c1 => ev_pos (by omega) (ev_ret ?_))) (fun c => ev_ret ?_))
    all_goals simp_all [placeB]
theorem implValid0_ev (s : List ByteArray) (f : List S_impl_PlantFoe) (p : List S_impl_PlantPlace) (v : List S_impl_PlantValve) (hs : s.length ≤ 140737488351232) (hf : f.length ≤ 140737488351232) (hp : p.length ≤ 140737488351232) (hv : v.length ≤ 140737488351232)
    (hz : ∀ x ∈ v, x.f0.size ≤ 140737488351232 ∧ x.f3.size ≤ 140737488351232) (hy : ∀ x ∈ p, x.f0.size ≤ 140737488351232 ∧ x.f2.size ≤ 140737488351232) :
    Ev (fun k => impl_PlantValid.l0 k s f p v 0) (f.all (fun x => hasB s x.f0 && hasB s x.f1) && (placesB p && valvesB p v)) := by
  have L1 := implValid1_ev s f p v hp hv hz hy
  generalize (placesB p && valvesB p v) = T at L1 ⊢
  refine loopL z_impl_PlantFoe f (P := fun i r => Ev (fun k => impl_PlantValid.l0 k s f p v (i : Int)) (r.all (fun x => hasB s x.f0 && hasB s x.f1) && T))
    (by refine Ev.step (fun k => by rw [impl_PlantValid.l0]) ?_; exact ev_neg (by omega) L1) (fun i x r hi hx hm _ ih => ?_)
  refine Ev.step (fun k => by rw [impl_PlantValid.l0]) (ev_pos (by omega) (ev_pos (by omega) ?_))
  rw [wsucc hi (by omega), rdF, hx]
  clear hx hz hy hm L1
  repeat' (first
    | with_reducible refine Ev.bind (has_ev _ _ hs) ?_
    | with_reducible refine ev_pos (by omega) ?_
    | with_reducible refine ev_neg (by omega) ?_
    | with_reducible refine ev_b (fun c => ?_) (fun c => ?_)
    | with_reducible refine ev_split (fun c => ?_) (fun c => ?_))
  all_goals (first
    | (with_reducible refine ev_ret ?_; simp_all [chainB, lt, ba_iff]; done)
    | (with_reducible refine ev_eq (ih) ?_; simp_all [chainB, lt, ba_iff]; done))
theorem hasB_name {s : List ByteArray} {x : ByteArray} (hn : namesB s = true) (h : hasB s x = true) : nameB x = true := by
  unfold namesB at hn
  rw [Bool.and_eq_true] at hn
  exact List.all_eq_true.1 hn.1 x (hasB_iff.1 h)
theorem chain_map {α β : Type} {p : α → α → Bool} {q : β → β → Bool} (g : α → β) (h : ∀ x y, q (g x) (g y) = p x y) : ∀ (r : List α) (o : Option α), chainB q (o.map g) (r.map g) = chainB p o r
  | [], o => by cases o <;> rfl
  | x :: r, none => chain_map g h r (some x)
  | x :: r, some y => by
    show (q (g y) (g x) && chainB q (some (g x)) (r.map g)) = (p y x && chainB p (some x) r)
    rw [h]; congr 1; exact chain_map g h r (some x)
theorem foes_all (s : List ByteArray) (hn : namesB s = true) : ∀ f : List S_impl_PlantFoe, ((f.map mkPair).all pairB && f.all (fun x => hasB s x.f0 && hasB s x.f1)) = f.all (foeB s)
  | [] => rfl
  | x :: r => by
    rw [List.map_cons, List.all_cons, List.all_cons, List.all_cons, ← foes_all s hn r]
    have h0 := @hasB_name s x.f0 hn
    have h1 := @hasB_name s x.f1 hn
    unfold pairB foeB mkPair
    simp only
    generalize nameB x.f0 = a0 at *
    generalize nameB x.f1 = a1 at *
    generalize hasB s x.f0 = b0 at *
    generalize hasB s x.f1 = b1 at *
    generalize lt x.f0 x.f1 = c at *
    generalize List.all (List.map _ _) _ = d at *
    generalize List.all _ _ = d2 at *
    revert a0 a1 b0 b1 c d d2
    decide
theorem foes_same (s : List ByteArray) (f : List S_impl_PlantFoe) (hn : namesB s = true) : (pairsB (f.map mkPair) && f.all (fun x => hasB s x.f0 && hasB s x.f1)) = foesB s f := by
  unfold pairsB foesB
  rw [show chainB pairLt none (f.map mkPair) = chainB foeLt none f from chain_map mkPair (fun _ _ => rfl) f none]
  rw [← foes_all s hn f]
  generalize List.all (List.map _ _) _ = d at *
  generalize List.all _ _ = d2 at *
  generalize chainB _ _ _ = d3 at *
  revert d d2 d3
  decide
structure SzP (s : List ByteArray) (f : List S_impl_PlantFoe) (p : List S_impl_PlantPlace) (v : List S_impl_PlantValve) : Prop where
  hs : s.length ≤ 140737488351232
  hf : f.length ≤ 4398046511104
  hp : p.length ≤ 140737488351232
  hv : v.length ≤ 140737488351232
  s1 : ∀ x ∈ s, x.size ≤ 140737488351232
  f1 : ∀ x ∈ f, x.f0.size ≤ 140737488351232 ∧ x.f1.size ≤ 140737488351232
  p1 : ∀ x ∈ p, x.f0.size ≤ 140737488351232 ∧ x.f2.size ≤ 140737488351232
  v1 : ∀ x ∈ v, x.f0.size ≤ 140737488351232 ∧ x.f3.size ≤ 140737488351232
theorem implValid_ev (s : List ByteArray) (f : List S_impl_PlantFoe) (p : List S_impl_PlantPlace) (v : List S_impl_PlantValve) (z : SzP s f p v) :
    Ev (fun k => impl_PlantValid.f k s f p v) (validB s f p v) := by
  unfold impl_PlantValid.f validB
  have hf := z.hf
  have e0 := implValid0_ev s f p v z.hs (by omega) z.hp z.hv z.v1 z.p1
  have eN := names_ev s z.hs z.s1
  have eF := foesOk_ev (f.map mkPair) 12 (by rw [List.length_map]; omega) (fun x hx => by obtain ⟨y, hy, rfl⟩ := List.mem_map.1 hx; exact z.f1 y hy)
  have eP := pairs_ev s f p v hf
  have hsame := foes_same s f
  rw [List.length_map, show decide ((f.length : Int) ≤ 12) = decide (f.length ≤ 12) from decide_eq_decide.2 (by omega)] at eF
  generalize pairsB (f.map mkPair) = b1 at eF hsame
  generalize f.all (fun x => hasB s x.f0 && hasB s x.f1) = b2 at e0 hsame
  generalize foesB s f = b3 at hsame ⊢
  generalize placesB p = b4 at e0 ⊢
  generalize valvesB p v = b5 at e0 ⊢
  generalize namesB s = b6 at eN hsame ⊢
  generalize decide (f.length ≤ 12) = b7 at eF ⊢
  refine ev_split (fun c => ev_ret ?_) (fun c => Ev.bind eN (ev_b (fun c6 => ?_) (fun c6 => ev_ret ?_)))
  · rw [decide_eq_false (by omega : ¬ s.length ≤ 8)]; rfl
  · subst c6
    have hsame := hsame rfl
    subst hsame
    rw [decide_eq_true (by omega : s.length ≤ 8)]
    refine Ev.bind eP (Ev.bind eF (ev_b (fun c1 => ?_) (fun c1 => ev_ret ?_)))
    · rw [Bool.and_eq_true] at c1
      obtain ⟨rfl, rfl⟩ := c1
      refine ev_split (fun d => ev_ret ?_) (fun d => ev_split (fun d2 => ev_ret ?_) (fun d2 => ev_eq e0 ?_))
      · rw [decide_eq_false (by omega : ¬ p.length ≤ 14)]; simp
      · rw [decide_eq_false (by omega : ¬ v.length ≤ 18)]; simp
      · rw [decide_eq_true (by omega : p.length ≤ 14), decide_eq_true (by omega : v.length ≤ 18)]; simp
    · clear e0 eN eF
      generalize decide (p.length ≤ 14) = d1
      generalize decide (v.length ≤ 18) = d2
      revert b1 b2 b4 b5 b7 d1 d2
      decide
  · subst c6; simp
/-! ### lists that rise -/
def SortedL (l : List ByteArray) : Prop := l.Pairwise fun x y => lt x y = true
theorem chain_head {α : Type} {p : α → α → Bool} (ht : ∀ x y z, p x y = true → p y z = true → p x z = true) : ∀ (r : List α) (y : α), chainB p (some y) r = true → (∀ x ∈ r, p y x = true) ∧ r.Pairwise fun x y => p x y = true
  | [], _, _ => ⟨fun x h => (by cases h), List.Pairwise.nil⟩
  | x :: r, y, h => by
    have h : (p y x && chainB p (some x) r) = true := h
    rw [Bool.and_eq_true] at h
    obtain ⟨g1, g2⟩ := chain_head ht r x h.2
    refine ⟨fun z hz => ?_, List.pairwise_cons.2 ⟨g1, g2⟩⟩
    rcases List.mem_cons.1 hz with rfl | hz
    · exact h.1
    · exact ht _ _ _ h.1 (g1 z hz)
theorem chain_pair {α : Type} {p : α → α → Bool} (ht : ∀ x y z, p x y = true → p y z = true → p x z = true) (l : List α) (h : chainB p none l = true) : l.Pairwise fun x y => p x y = true := by
  cases l with
  | nil => exact List.Pairwise.nil
  | cons x r =>
    have h : chainB p (some x) r = true := h
    obtain ⟨g1, g2⟩ := chain_head ht r x h
    exact List.pairwise_cons.2 ⟨g1, g2⟩
theorem sorted_of {l : List ByteArray} (h : chainB lt none l = true) : SortedL l := chain_pair (p := lt) (fun _ _ _ h k => lt_trans h k) l h
theorem sorted_ext : ∀ (l m : List ByteArray), SortedL l → SortedL m → (∀ x, x ∈ l ↔ x ∈ m) → l = m
  | [], [], _, _, _ => rfl
  | [], y :: m, _, _, h => by have := (h y).2 (List.mem_cons_self ..); cases this
  | x :: l, [], _, _, h => by have := (h x).1 (List.mem_cons_self ..); cases this
  | x :: l, y :: m, hl, hm, h => by
    obtain ⟨l1, l2⟩ := List.pairwise_cons.1 hl
    obtain ⟨m1, m2⟩ := List.pairwise_cons.1 hm
    have e : x = y := by
      rcases List.mem_cons.1 ((h x).1 (List.mem_cons_self ..)) with e | hx
      · exact e
      · rcases List.mem_cons.1 ((h y).2 (List.mem_cons_self ..)) with e | hy
        · exact e.symm
        · have := lt_asym (l1 y hy); rw [m1 x hx] at this; cases this
    subst e
    congr 1
    refine sorted_ext l m l2 m2 (fun z => ⟨fun hz => ?_, fun hz => ?_⟩)
    · rcases List.mem_cons.1 ((h z).1 (List.mem_cons_of_mem _ hz)) with e | hz'
      · subst e; exact absurd rfl (lt_ne (l1 z hz))
      · exact hz'
    · rcases List.mem_cons.1 ((h z).2 (List.mem_cons_of_mem _ hz)) with e | hz'
      · subst e; exact absurd rfl (lt_ne (m1 z hz))
      · exact hz'
def insertL (x : ByteArray) : List ByteArray → List ByteArray
  | [] => [x]
  | y :: r => if lt y x = true then y :: insertL x r else if y = x then y :: r else x :: y :: r
theorem insertL_mem (x z : ByteArray) : ∀ l : List ByteArray, z ∈ insertL x l ↔ z = x ∨ z ∈ l
  | [] => by simp [insertL]
  | y :: r => by
    have ih := insertL_mem x z r
    unfold insertL
    split
    · rw [List.mem_cons, ih, List.mem_cons]
      constructor
      · rintro (h | h | h)
        · exact .inr (.inl h)
        · exact .inl h
        · exact .inr (.inr h)
      · rintro (h | h | h)
        · exact .inr (.inl h)
        · exact .inl h
        · exact .inr (.inr h)
    · split
      · rename_i e
        subst e
        rw [List.mem_cons]
        exact ⟨fun h => .inr h, fun h => h.elim .inl id⟩
      · rw [List.mem_cons]
theorem insertL_sorted (x : ByteArray) : ∀ l : List ByteArray, SortedL l → SortedL (insertL x l)
  | [], _ => List.pairwise_singleton _ _
  | y :: r, h => by
    obtain ⟨h1, h2⟩ := List.pairwise_cons.1 h
    unfold insertL
    split
    · rename_i c
      refine List.pairwise_cons.2 ⟨fun z hz => ?_, insertL_sorted x r h2⟩
      rcases (insertL_mem x z r).1 hz with rfl | hz
      · exact c
      · exact h1 z hz
    · rename_i c
      split
      · exact h
      · rename_i e
        have hlt : lt x y = true := by
          rcases lt_tri x y with q | q | q
          · exact q
          · exact absurd q.symm e
          · exact absurd q c
        refine List.pairwise_cons.2 ⟨fun z hz => ?_, h⟩
        rcases List.mem_cons.1 hz with rfl | hz
        · exact hlt
        · exact lt_trans hlt (h1 z hz)
theorem insertL_len (x : ByteArray) : ∀ l : List ByteArray, (insertL x l).length ≤ l.length + 1
  | [] => by simp [insertL]
  | y :: r => by
    have := insertL_len x r
    unfold insertL
    split
    · simp; omega
    · split <;> simp
theorem l4Insert_ev (l : List ByteArray) (x : ByteArray) (hn : l.length ≤ 1000000) : Ev (fun k => spec_l4Insert.f k l x) (insertL x l) := by
  unfold spec_l4Insert.f
  refine ev_eq (loopL ByteArray.empty l (P := fun i r => l.drop i = r → Ev (fun k => spec_l4Insert.l0 k l x (i : Int)) (l.take i ++ insertL x r)) (fun _ => ?_) (fun i y r hi hy _ hr ih hd => ?_) rfl) (by simp)
  · refine Ev.step (fun k => by rw [spec_l4Insert.l0]) ?_
    refine ev_neg (by omega) (ev_pos (by omega) (ev_pos (by omega) (ev_pos (by rw [Int.toNat_natCast]; omega) (ev_pos (by rw [Int.toNat_natCast]; omega) (ev_pos (by rw [Int.toNat_natCast]; omega) (ev_ret ?_))))))
    simp [insertL]
  · refine Ev.step (fun k => by rw [spec_l4Insert.l0]) (ev_pos (by omega) (ev_pos (by omega) ?_))
    rw [rdOf_nat, hy, wsucc hi (by omega), Int.toNat_natCast]
    have ht : l.take (i + 1) = l.take i ++ [y] := by rw [List.take_succ_eq_append_getElem hi, ← getD_eq ByteArray.empty l i hi, hy]
    refine ev_b (fun c => ev_eq (ih hr) ?_) (fun c => ev_split (fun e => ev_ret ?_) (fun e => ?_))
    · have c : lt y x = true := c
      rw [ht, show insertL x (y :: r) = y :: insertL x r from if_pos c]; simp
    · have c : lt y x = false := c
      rw [show insertL x (y :: r) = if lt y x = true then y :: insertL x r else if y = x then y :: r else x :: y :: r from rfl, c, if_neg (by simp), if_pos (ba_iff.1 e), ← hd, List.take_append_drop]
    · have c : lt y x = false := c
      refine ev_pos (by omega) (ev_pos (by omega) (ev_pos (by omega) (ev_pos (by omega) (ev_ret ?_))))
      rw [show insertL x (y :: r) = if lt y x = true then y :: insertL x r else if y = x then y :: r else x :: y :: r from rfl, c, if_neg (by simp), if_neg (fun q => e (ba_iff.2 q)), ← hd]
      simp
/-! ### sets of texts: rising lists -/
theorem sorted_nodup {l : List ByteArray} (h : SortedL l) : l.Nodup := List.Pairwise.imp (fun h => lt_ne h) h
theorem sortN_ev (a : List ByteArray) (h : a.length ≤ 4611686018427387903) (hn : a.Nodup) : ∃ r, Ev (fun _ => sort_Strings.f a) r ∧ SortedL r ∧ ∀ x, x ∈ r ↔ x ∈ a := by
  have e : sortSf a = some (sortS a) := by unfold sortSf; rw [if_pos (by omega)]
  refine ⟨sortS a, ?_, sortS_nd e hn, sortS_mem e⟩
  unfold sort_Strings.f
  rw [e]
  exact Ev.now _
/-- a set, and more put into it -/
def setW (a b : List ByteArray) : List ByteArray := b.foldl (fun l x => insertL x l) a
theorem setW_sorted : ∀ (b a : List ByteArray), SortedL a → SortedL (setW a b)
  | [], _, h => h
  | x :: b, a, h => setW_sorted b _ (insertL_sorted x a h)
theorem setW_mem (z : ByteArray) : ∀ (b a : List ByteArray), z ∈ setW a b ↔ z ∈ a ∨ z ∈ b
  | [], a => by simp [setW]
  | x :: b, a => by
    rw [show setW a (x :: b) = setW (insertL x a) b from rfl, setW_mem z b, insertL_mem, List.mem_cons]
    constructor
    · rintro ((h | h) | h)
      · exact .inr (.inl h)
      · exact .inl h
      · exact .inr (.inr h)
    · rintro (h | h | h)
      · exact .inl (.inr h)
      · exact .inl (.inl h)
      · exact .inr h
theorem setW_len : ∀ (b a : List ByteArray), (setW a b).length ≤ a.length + b.length
  | [], a => by simp [setW]
  | x :: b, a => by
    have := setW_len b (insertL x a)
    have := insertL_len x a
    rw [show setW a (x :: b) = setW (insertL x a) b from rfl, List.length_cons]
    omega
theorem sorted_nil : SortedL [] := List.Pairwise.nil
theorem setW_eq {a b c : List ByteArray} (hc : SortedL c) (ha : SortedL a) (h : ∀ x, x ∈ c ↔ x ∈ a ∨ x ∈ b) : c = setW a b :=
  sorted_ext _ _ hc (setW_sorted b a ha) (fun x => by rw [h, setW_mem])
theorem withN_ev (a b : List ByteArray) (ha : a.Nodup) (h : a.length + b.length ≤ 8796093022207) : ∃ r, Ev (fun k => impl_with.f k a b) r ∧ SortedL r ∧ ∀ x, x ∈ r ↔ x ∈ a ∨ x ∈ b := by
  have key := loopL ByteArray.empty b (P := fun i d => i + d.length = b.length → ∀ acc : List ByteArray, acc.Nodup → acc.length ≤ a.length + i → ∃ r, Ev (fun k => impl_with.l0 k a b acc (i : Int)) r ∧ SortedL r ∧ ∀ x, x ∈ r ↔ x ∈ acc ∨ x ∈ d)
    (fun _ acc hnd hacc => by
      obtain ⟨r, h1, h2, h3⟩ := sortN_ev acc (by omega) hnd
      refine ⟨r, Ev.step (fun k => by rw [impl_with.l0]) (ev_neg (by omega) (Ev.bind h1 (ev_ret rfl))), h2, fun x => by rw [h3]; simp⟩)
    (fun i y d hi hy hm hd ih hl acc hnd hacc => by
      rw [List.length_cons] at hl
      have hh := has_ev acc y (by omega)
      cases c : hasB acc y with
      | true =>
        rw [c] at hh
        obtain ⟨r, h1, h2, h3⟩ := ih (by omega) acc hnd (by omega)
        refine ⟨r, Ev.step (fun k => by rw [impl_with.l0]) (ev_pos (by omega) (ev_pos (by omega) ?_)), h2, fun x => ?_⟩
        · rw [wsucc hi (by omega), rdOf_nat, hy]
          exact Ev.bind hh (ev_pos rfl h1)
        · rw [h3, List.mem_cons]
          have := hasB_iff.1 c
          constructor
          · rintro (q | q)
            · exact .inl q
            · exact .inr (.inr q)
          · rintro (q | q | q)
            · exact .inl q
            · exact .inl (q ▸ this)
            · exact .inr q
      | false =>
        rw [c] at hh
        have hni : y ∉ acc := fun q => by rw [hasB_iff.2 q] at c; cases c
        obtain ⟨r, h1, h2, h3⟩ := ih (by omega) (acc ++ [y]) (List.nodup_append.2 ⟨hnd, by simp, fun u hu v hv e => by rw [List.mem_singleton] at hv; subst hv; exact hni (e ▸ hu)⟩) (by rw [List.length_append, List.length_singleton]; omega)
        refine ⟨r, Ev.step (fun k => by rw [impl_with.l0]) (ev_pos (by omega) (ev_pos (by omega) ?_)), h2, fun x => ?_⟩
        · rw [wsucc hi (by omega), rdOf_nat, hy]
          exact Ev.bind hh (ev_neg (by simp) (ev_pos (by omega) h1))
        · rw [h3, List.mem_cons, List.mem_append, List.mem_singleton, or_assoc])
  obtain ⟨r, h1, h2, h3⟩ := key (by omega) a ha (by omega)
  refine ⟨r, ?_, h2, h3⟩
  unfold impl_with.f
  exact ev_pos (by omega) h1
theorem setW_ev (a b : List ByteArray) (ha : SortedL a) (h : a.length + b.length ≤ 8796093022207) : Ev (fun k => impl_with.f k a b) (setW a b) := by
  obtain ⟨r, h1, h2, h3⟩ := withN_ev a b (sorted_nodup ha) h
  exact setW_eq h2 ha h3 ▸ h1
/-! ### plants that are handed in -/
theorem szp_of (x : S_laws_Plant) (h : ok_laws_Plant x) : SzP x.f0 (x.f1.map cv_laws_PlantFoe) (x.f2.map cv_laws_PlantPlace) (x.f3.map cv_laws_PlantValve) := by
  obtain ⟨⟨h0, k0⟩, ⟨h1, k1⟩, ⟨h2, k2⟩, ⟨h3, k3⟩⟩ := h
  refine ⟨by omega, by rw [List.length_map]; omega, by rw [List.length_map]; omega, by rw [List.length_map]; omega, k0, fun y hy => ?_, fun y hy => ?_, fun y hy => ?_⟩
  · obtain ⟨z, hz, rfl⟩ := List.mem_map.1 hy
    exact k1 z hz
  · obtain ⟨z, hz, rfl⟩ := List.mem_map.1 hy
    exact ⟨(k2 z hz).1, (k2 z hz).2.2⟩
  · obtain ⟨z, hz, rfl⟩ := List.mem_map.1 hy
    exact ⟨(k3 z hz).1, (k3 z hz).2.2.2⟩
theorem eqPlantRefl_ev (x : S_laws_Plant) (h : ok_laws_Plant x) : Ev (fun k => laws_eqPlant.f k x.f0 (x.f1.map cv_laws_PlantFoe) (x.f2.map cv_laws_PlantPlace) (x.f3.map cv_laws_PlantValve) x.f0 (x.f1.map cv_laws_PlantFoe) (x.f2.map cv_laws_PlantPlace) (x.f3.map cv_laws_PlantValve)) true := by
  obtain ⟨⟨h0, k0⟩, ⟨h1, k1⟩, ⟨h2, k2⟩, ⟨h3, k3⟩⟩ := h
  refine eqPlant_ev _ _ _ _ ⟨h0, k0⟩ ⟨by rw [List.length_map]; exact h1, fun y hy => ?_⟩ ⟨by rw [List.length_map]; exact h2, fun y hy => ?_⟩ ⟨by rw [List.length_map]; exact h3, fun y hy => ?_⟩
  · obtain ⟨z, hz, rfl⟩ := List.mem_map.1 hy
    exact k1 z hz
  · obtain ⟨z, hz, rfl⟩ := List.mem_map.1 hy
    exact k2 z hz
  · obtain ⟨z, hz, rfl⟩ := List.mem_map.1 hy
    exact k3 z hz
theorem specValid_of (x : S_laws_Plant) (h : ok_laws_Plant x) : Ev (fun k => spec_PlantValid.f k x.f0 (x.f1.map cv_laws_PlantFoe) (x.f2.map cv_laws_PlantPlace) (x.f3.map cv_laws_PlantValve)) (validB x.f0 (x.f1.map cv_laws_PlantFoe) (x.f2.map cv_laws_PlantPlace) (x.f3.map cv_laws_PlantValve)) := by
  have z := szp_of x h
  have := z.hf
  exact specValid_ev _ _ _ _ z.hs (by omega) z.hp z.hv
theorem valid_v {s : List ByteArray} {f : List S_impl_PlantFoe} {p : List S_impl_PlantPlace} {v : List S_impl_PlantValve} (h : validB s f p v = true) : v.length ≤ 18 := by
  simp only [validB, Bool.and_eq_true, decide_eq_true_eq] at h; exact h.2.2.2.1
theorem valid_p {s : List ByteArray} {f : List S_impl_PlantFoe} {p : List S_impl_PlantPlace} {v : List S_impl_PlantValve} (h : validB s f p v = true) : p.length ≤ 14 := by
  simp only [validB, Bool.and_eq_true, decide_eq_true_eq] at h; exact h.2.2.1.1
theorem markPlant_of (x : S_laws_Plant) (h : ok_laws_Plant x) : ∃ r, 0 ≤ r.1 ∧ r.1 ≤ 100000000000000 ∧ Ev (fun k => laws_markPlant.f k x.f0 (x.f1.map cv_laws_PlantFoe) (x.f2.map cv_laws_PlantPlace) (x.f3.map cv_laws_PlantValve) 1) r := by
  obtain ⟨⟨h0, k0⟩, ⟨h1, k1⟩, ⟨h2, k2⟩, ⟨h3, k3⟩⟩ := h
  have e := markPlant_ev x.f0 (x.f1.map cv_laws_PlantFoe) (x.f2.map cv_laws_PlantPlace) (x.f3.map cv_laws_PlantValve) 1 (by omega) (by omega) (by omega) (by rw [List.length_map]; omega) (by rw [List.length_map]; omega) (by rw [List.length_map]; omega)
  exact ⟨_, by simp only [List.length_map]; omega, by simp only [List.length_map]; omega, e⟩
/-! ### lists without doubles -/
theorem nodup_len : ∀ (l m : List ByteArray), l.Nodup → l ⊆ m → l.length ≤ m.length
  | [], m, _, _ => Nat.zero_le _
  | x :: l, m, h, hs => by
    obtain ⟨h1, h2⟩ := List.nodup_cons.1 h
    obtain ⟨s, r, rfl⟩ := List.append_of_mem (hs (List.mem_cons_self ..))
    have := nodup_len l (s ++ r) h2 (fun z hz => by
      have hz2 := hs (List.mem_cons_of_mem _ hz)
      rcases List.mem_append.1 hz2 with q | q
      · exact List.mem_append_left _ q
      · rcases List.mem_cons.1 q with q | q
        · rw [q] at hz; exact absurd hz h1
        · exact List.mem_append_right _ q)
    rw [List.length_append] at this
    rw [List.length_append, List.length_cons, List.length_cons]; omega
/-! ### places that are joined -/
def sweepS (o : List ByteArray) (a : List ByteArray × Bool) (y : S_impl_PlantValve) : List ByteArray × Bool :=
  if (hasB o y.f0 && (hasB a.1 y.f1 != hasB a.1 y.f2)) = true then (insertL y.f2 (insertL y.f1 a.1), true) else a
def sweepL (o : List ByteArray) (v : List S_impl_PlantValve) (a : List ByteArray × Bool) : List ByteArray × Bool := v.foldl (sweepS o) a
theorem sweep_cons (o : List ByteArray) (y : S_impl_PlantValve) (v : List S_impl_PlantValve) (a : List ByteArray × Bool) : sweepL o (y :: v) a = sweepL o v (sweepS o a y) := rfl
theorem insertL_len_of {x : ByteArray} : ∀ l : List ByteArray, l.length ≤ (insertL x l).length
  | [] => by simp [insertL]
  | y :: r => by
    have := insertL_len_of (x := x) r
    unfold insertL
    split
    · simp; omega
    · split <;> simp
theorem insertL_new {x : ByteArray} : ∀ l : List ByteArray, x ∉ l → (insertL x l).length = l.length + 1
  | [], _ => by simp [insertL]
  | y :: r, h => by
    have ih := insertL_new r (fun q => h (List.mem_cons_of_mem _ q))
    have hne : ¬ y = x := fun e => h (e ▸ List.mem_cons_self ..)
    unfold insertL
    split
    · simp [ih]
    · first | (rw [if_neg hne]; simp) | simp
theorem sweepS_grows (o : List ByteArray) (a : List ByteArray × Bool) (y : S_impl_PlantValve) : sweepS o a y = a ∨ ((sweepS o a y).2 = true ∧ a.1.length < (sweepS o a y).1.length) := by
  unfold sweepS
  split
  · rename_i h
    refine .inr ⟨rfl, ?_⟩
    show a.1.length < (insertL y.f2 (insertL y.f1 a.1)).length
    rw [Bool.and_eq_true] at h
    have h2 := h.2
    by_cases c : y.f1 ∈ a.1
    · have c2 : y.f2 ∉ a.1 := fun q => by rw [hasB_iff.2 c, hasB_iff.2 q] at h2; cases h2
      by_cases e : y.f2 = y.f1
      · exact absurd (e ▸ c) c2
      · have : y.f2 ∉ insertL y.f1 a.1 := fun q => by rcases (insertL_mem y.f1 y.f2 a.1).1 q with q | q; exact e q; exact c2 q
        rw [insertL_new _ this]
        have := insertL_len_of (x := y.f1) a.1
        omega
    · have h3 := insertL_new a.1 c
      have := insertL_len_of (x := y.f2) (insertL y.f1 a.1)
      omega
  · exact .inl rfl
theorem sweep_grows (o : List ByteArray) : ∀ (v : List S_impl_PlantValve) (a : List ByteArray × Bool), sweepL o v a = a ∨ ((sweepL o v a).2 = true ∧ a.1.length < (sweepL o v a).1.length)
  | [], a => .inl rfl
  | y :: v, a => by
    rw [sweep_cons]
    rcases sweep_grows o v (sweepS o a y) with h | ⟨h1, h2⟩
    · rw [h]; exact sweepS_grows o a y
    · rcases sweepS_grows o a y with k | ⟨_, k2⟩
      · rw [k] at h1 h2 ⊢; exact .inr ⟨h1, h2⟩
      · exact .inr ⟨h1, by omega⟩
theorem sweepS_ok (o N : List ByteArray) (a : List ByteArray × Bool) (y : S_impl_PlantValve) (h1 : SortedL a.1) (h2 : ∀ x ∈ a.1, x ∈ N) (hy : y.f1 ∈ N ∧ y.f2 ∈ N) : SortedL (sweepS o a y).1 ∧ ∀ x ∈ (sweepS o a y).1, x ∈ N := by
  unfold sweepS
  split
  · refine ⟨insertL_sorted _ _ (insertL_sorted _ _ h1), fun x hx => ?_⟩
    rcases (insertL_mem _ _ _).1 hx with rfl | hx
    · exact hy.2
    · rcases (insertL_mem _ _ _).1 hx with rfl | hx
      · exact hy.1
      · exact h2 x hx
  · exact ⟨h1, h2⟩
theorem sweep_ok (o N : List ByteArray) : ∀ (v : List S_impl_PlantValve) (a : List ByteArray × Bool), SortedL a.1 → (∀ x ∈ a.1, x ∈ N) → (∀ y ∈ v, y.f1 ∈ N ∧ y.f2 ∈ N) → SortedL (sweepL o v a).1 ∧ ∀ x ∈ (sweepL o v a).1, x ∈ N
  | [], a, h1, h2, _ => ⟨h1, h2⟩
  | y :: v, a, h1, h2, hv => by
    obtain ⟨k1, k2⟩ := sweepS_ok o N a y h1 h2 (hv y (List.mem_cons_self ..))
    exact sweep_ok o N v _ k1 k2 (fun z hz => hv z (List.mem_cons_of_mem _ hz))
theorem sweep_flag (o : List ByteArray) : ∀ (v : List S_impl_PlantValve) (l : List ByteArray) (c : Bool), (sweepL o v (l, c)).1 = (sweepL o v (l, false)).1 ∧ (sweepL o v (l, c)).2 = (c || (sweepL o v (l, false)).2)
  | [], l, c => by cases c <;> simp [sweepL]
  | y :: v, l, c => by
    rw [sweep_cons, sweep_cons]
    by_cases h : (hasB o y.f0 && (hasB l y.f1 != hasB l y.f2)) = true
    · rw [show sweepS o (l, c) y = (insertL y.f2 (insertL y.f1 l), true) from if_pos h, show sweepS o (l, false) y = (insertL y.f2 (insertL y.f1 l), true) from if_pos h]
      refine ⟨rfl, ?_⟩
      obtain ⟨_, q⟩ := sweep_flag o v (insertL y.f2 (insertL y.f1 l)) true
      rw [q]; simp
    · rw [show sweepS o (l, c) y = (l, c) from if_neg h, show sweepS o (l, false) y = (l, false) from if_neg h]
      exact sweep_flag o v l c
def growN (o : List ByteArray) (v : List S_impl_PlantValve) : Nat → List ByteArray → List ByteArray
  | 0, l => l
  | n + 1, l => growN o v n (sweepL o v (l, false)).1
theorem growN_fix (o : List ByteArray) (v : List S_impl_PlantValve) (l : List ByteArray) (h : sweepL o v (l, false) = (l, false)) : ∀ n, growN o v n l = l
  | 0 => rfl
  | n + 1 => by rw [show growN o v (n + 1) l = growN o v n (sweepL o v (l, false)).1 from rfl, h]; exact growN_fix o v l h n
theorem growN_ok (o N : List ByteArray) (v : List S_impl_PlantValve) (hv : ∀ y ∈ v, y.f1 ∈ N ∧ y.f2 ∈ N) : ∀ (n : Nat) (l : List ByteArray), SortedL l → (∀ x ∈ l, x ∈ N) → SortedL (growN o v n l) ∧ ∀ x ∈ growN o v n l, x ∈ N
  | 0, l, h1, h2 => ⟨h1, h2⟩
  | n + 1, l, h1, h2 => by
    obtain ⟨k1, k2⟩ := sweep_ok o N v (l, false) h1 h2 hv
    exact growN_ok o N v hv n _ k1 k2
/-- all that is joined with a place -/
def groupL (o : List ByteArray) (p : List S_impl_PlantPlace) (v : List S_impl_PlantValve) (x : ByteArray) : List ByteArray := growN o v p.length [x]
theorem group_len (N : List ByteArray) {l : List ByteArray} (h1 : SortedL l) (h2 : ∀ x ∈ l, x ∈ N) : l.length ≤ N.length := nodup_len l N (sorted_nodup h1) h2
theorem specGroup_ev (s : List ByteArray) (f : List S_impl_PlantFoe) (p : List S_impl_PlantPlace) (v : List S_impl_PlantValve) (o : List ByteArray) (x : ByteArray) (hp : p.length ≤ 1000) (hv : v.length ≤ 1000) (ho : o.length ≤ 140737488351232) (hx : x ∈ p.map (·.f0)) (hN : ∀ y ∈ v, y.f1 ∈ p.map (·.f0) ∧ y.f2 ∈ p.map (·.f0)) :
    Ev (fun k => spec_l4Group.f k s f p v o x) (groupL o p v x) := by
  unfold spec_l4Group.f groupL
  have inner : ∀ (i : Nat) (R : List ByteArray) (a : List ByteArray), SortedL a → (∀ x ∈ a, x ∈ p.map (·.f0)) → Ev (fun k => spec_l4Group.l0 k p v o (sweepL o v (a, false)).1 (wrap64 ((i : Int) + 1))) R → Ev (fun k => spec_l4Group.l1 k p v o a (i : Int) 0) R := fun i R a h1 h2 hk => by
    have key := loopL z_impl_PlantValve v (P := fun j r => ∀ a : List ByteArray, SortedL a → (∀ x ∈ a, x ∈ p.map (·.f0)) → Ev (fun k => spec_l4Group.l0 k p v o (sweepL o r (a, false)).1 (wrap64 ((i : Int) + 1))) R → Ev (fun k => spec_l4Group.l1 k p v o a (i : Int) (j : Int)) R)
      (fun a _ _ hk => by refine Ev.step (fun k => by rw [spec_l4Group.l1]) ?_; exact ev_neg (by omega) hk) (fun j y r hj hy hm _ ih a h1 h2 hk => ?_)
    · exact key a h1 h2 hk
    have hal := group_len _ h1 h2
    rw [List.length_map] at hal
    refine Ev.step (fun k => by rw [spec_l4Group.l1]) (ev_pos (by omega) (ev_pos (by omega) ?_))
    rw [wsucc hj (by omega), rdV, hy]
    rw [sweep_cons] at hk
    obtain ⟨q1, q2⟩ := sweepS_ok o (p.map (·.f0)) (a, false) y h1 h2 (hN y hm)
    refine Ev.bind (l2Has_ev o y.f0 ho) (ev_b (fun c => ?_) (fun c => ?_))
    · refine Ev.bind (l2Has_ev a y.f1 (by omega)) (Ev.bind (l2Has_ev a y.f2 (by omega)) (ev_b (fun d => ?_) (fun d => ?_)))
      · have e : sweepS o (a, false) y = (insertL y.f2 (insertL y.f1 a), true) := if_pos (by show (hasB o y.f0 && (hasB a y.f1 != hasB a y.f2)) = true; rw [c, d]; rfl)
        rw [e] at hk q1 q2
        rw [(sweep_flag o r _ true).1] at hk
        have := insertL_len y.f1 a
        exact Ev.bind (l4Insert_ev a y.f1 (by omega)) (Ev.bind (l4Insert_ev _ y.f2 (by omega)) (ih _ q1 q2 hk))
      · have e : sweepS o (a, false) y = (a, false) := if_neg (by show ¬ (hasB o y.f0 && (hasB a y.f1 != hasB a y.f2)) = true; rw [c, d]; simp)
        rw [e] at hk
        exact ih a h1 h2 hk
    · have e : sweepS o (a, false) y = (a, false) := if_neg (by show ¬ (hasB o y.f0 && (hasB a y.f1 != hasB a y.f2)) = true; rw [c]; simp)
      rw [e] at hk
      exact ih a h1 h2 hk
  have key : ∀ (n i : Nat), i + n = p.length → ∀ a : List ByteArray, SortedL a → (∀ x ∈ a, x ∈ p.map (·.f0)) → Ev (fun k => spec_l4Group.l0 k p v o a (i : Int)) (growN o v n a) := fun n => by
    induction n with
    | zero =>
      intro i hi a _ _
      refine Ev.step (fun k => by rw [spec_l4Group.l0]) ?_
      exact ev_neg (by omega) (ev_ret rfl)
    | succ n ih =>
      intro i hi a h1 h2
      obtain ⟨q1, q2⟩ := sweep_ok o (p.map (·.f0)) v (a, false) h1 h2 hN
      refine Ev.step (fun k => by rw [spec_l4Group.l0]) (ev_pos (by omega) (inner i _ a h1 h2 ?_))
      rw [wsucc (show i < p.length by omega) (by omega)]
      exact ih (i + 1) (by omega) _ q1 q2
  exact key p.length 0 (by omega) [x] (List.pairwise_singleton _ _) (fun z hz => by rw [List.mem_singleton] at hz; subst hz; exact hx)
theorem implGroup_ev (s : List ByteArray) (f : List S_impl_PlantFoe) (p : List S_impl_PlantPlace) (v : List S_impl_PlantValve) (o : List ByteArray) (x : ByteArray) (hp : p.length ≤ 1000) (hv : v.length ≤ 1000) (ho : o.length ≤ 140737488351232) (hN : ∀ y ∈ v, y.f1 ∈ p.map (·.f0) ∧ y.f2 ∈ p.map (·.f0)) :
    Ev (fun k => impl_group.f k s f p v o x) (if placeHas p x = true then groupL o p v x else []) := by
  unfold impl_group.f groupL
  refine Ev.bind (place_ev s f p v x (by omega)) ?_
  rw [placeOf_has]
  refine ev_b (fun hx => ?_) (fun hx => ev_ret (by rw [hx]; rfl))
  rw [if_pos hx]
  have hx : x ∈ p.map (·.f0) := by
    unfold placeHas at hx
    obtain ⟨y, hy, e⟩ := List.any_eq_true.1 hx
    exact List.mem_map.2 ⟨y, hy, of_decide_eq_true e⟩
  have inner : ∀ (R : List ByteArray) (a : List ByteArray), SortedL a → (∀ x ∈ a, x ∈ p.map (·.f0)) → Ev (fun k => impl_group.l0 k v o (sweepL o v (a, false)).1 (sweepL o v (a, false)).2) R → Ev (fun k => impl_group.l1 k v o a false 0) R := fun R a h1 h2 hk => by
    have key := loopL z_impl_PlantValve v (P := fun j r => ∀ (a : List ByteArray) (c : Bool), SortedL a → (∀ x ∈ a, x ∈ p.map (·.f0)) → Ev (fun k => impl_group.l0 k v o (sweepL o r (a, c)).1 (sweepL o r (a, c)).2) R → Ev (fun k => impl_group.l1 k v o a c (j : Int)) R)
      (fun a c _ _ hk => by refine Ev.step (fun k => by rw [impl_group.l1]) ?_; exact ev_neg (by omega) hk) (fun j y r hj hy hm _ ih a c h1 h2 hk => ?_)
    · exact key a false h1 h2 hk
    have hal := group_len _ h1 h2
    rw [List.length_map] at hal
    refine Ev.step (fun k => by rw [impl_group.l1]) (ev_pos (by omega) (ev_pos (by omega) ?_))
    rw [wsucc hj (by omega), rdV, hy]
    rw [sweep_cons] at hk
    obtain ⟨q1, q2⟩ := sweepS_ok o (p.map (·.f0)) (a, c) y h1 h2 (hN y hm)
    refine Ev.bind (has_ev o y.f0 ho) (ev_b (fun d0 => ?_) (fun d0 => ?_))
    · refine Ev.bind (has_ev a y.f1 (by omega)) (Ev.bind (has_ev a y.f2 (by omega)) (ev_b (fun d => ?_) (fun d => ?_)))
      · have e : sweepS o (a, c) y = (insertL y.f2 (insertL y.f1 a), true) := if_pos (by show (hasB o y.f0 && (hasB a y.f1 != hasB a y.f2)) = true; rw [d0, d]; rfl)
        rw [e] at hk q1 q2
        exact Ev.bind (setW_ev a [y.f1, y.f2] h1 (by simp; omega)) (ih _ true q1 q2 hk)
      · have e : sweepS o (a, c) y = (a, c) := if_neg (by show ¬ (hasB o y.f0 && (hasB a y.f1 != hasB a y.f2)) = true; rw [d0, d]; simp)
        rw [e] at hk
        exact ih a c h1 h2 hk
    · have e : sweepS o (a, c) y = (a, c) := if_neg (by show ¬ (hasB o y.f0 && (hasB a y.f1 != hasB a y.f2)) = true; rw [d0]; simp)
      rw [e] at hk
      exact ih a c h1 h2 hk
  have key : ∀ (n : Nat) (a : List ByteArray), p.length < n + a.length → SortedL a → (∀ x ∈ a, x ∈ p.map (·.f0)) → Ev (fun k => impl_group.l0 k v o a true) (growN o v n a) := fun n => by
    induction n with
    | zero =>
      intro a ha h1 h2
      have hal := group_len _ h1 h2
      rw [List.length_map] at hal
      omega
    | succ n ih =>
      intro a ha h1 h2
      obtain ⟨q1, q2⟩ := sweep_ok o (p.map (·.f0)) v (a, false) h1 h2 hN
      refine Ev.step (fun k => by rw [impl_group.l0]) (ev_pos rfl (inner _ a h1 h2 ?_))
      rcases sweep_grows o v (a, false) with e | ⟨e1, e2⟩
      · rw [e, growN_fix o v a e]
        refine Ev.step (fun k => by rw [impl_group.l0]) ?_
        exact ev_neg (by simp) (ev_ret rfl)
      · rw [e1]
        have e2 : a.length < (sweepL o v (a, false)).1.length := e2
        exact ih _ (by omega) q1 q2
  exact key p.length [x] (by simp) (List.pairwise_singleton _ _) (fun z hz => by rw [List.mem_singleton] at hz; subst hz; exact hx)
theorem valid_ends {s : List ByteArray} {f : List S_impl_PlantFoe} {p : List S_impl_PlantPlace} {v : List S_impl_PlantValve} (h : validB s f p v = true) : ∀ y ∈ v, y.f1 ∈ p.map (·.f0) ∧ y.f2 ∈ p.map (·.f0) := fun y hy => by
  simp only [validB, valvesB, Bool.and_eq_true, List.all_eq_true] at h
  have := h.2.2.2.2.1 y hy
  simp only [valveB, Bool.and_eq_true] at this
  have mem : ∀ x, placeHas p x = true → x ∈ p.map (·.f0) := fun x hx => by
    unfold placeHas at hx
    obtain ⟨y, hy, e⟩ := List.any_eq_true.1 hx
    exact List.mem_map.2 ⟨y, hy, of_decide_eq_true e⟩
  exact ⟨mem _ this.2.2.1, mem _ this.2.2.2.1⟩
theorem group_ok {s : List ByteArray} {f : List S_impl_PlantFoe} {p : List S_impl_PlantPlace} {v : List S_impl_PlantValve} (h : validB s f p v = true) (o : List ByteArray) {x : ByteArray} (hx : placeHas p x = true) : SortedL (groupL o p v x) ∧ (groupL o p v x).length ≤ 14 ∧ ∀ z ∈ groupL o p v x, z ∈ p.map (·.f0) := by
  have hx : x ∈ p.map (·.f0) := by
    unfold placeHas at hx
    obtain ⟨y, hy, e⟩ := List.any_eq_true.1 hx
    exact List.mem_map.2 ⟨y, hy, of_decide_eq_true e⟩
  obtain ⟨h1, h2⟩ := growN_ok o (p.map (·.f0)) v (valid_ends h) p.length [x] (List.pairwise_singleton _ _) (fun z hz => by rw [List.mem_singleton] at hz; subst hz; exact hx)
  have := group_len _ h1 h2
  rw [List.length_map] at this
  have := valid_p h
  exact ⟨h1, by unfold groupL; omega, h2⟩
/-! ### all groups -/
theorem place_in {p : List S_impl_PlantPlace} {x : S_impl_PlantPlace} (h : x ∈ p) : placeHas p x.f0 = true := by
  unfold placeHas
  exact List.any_eq_true.2 ⟨x, h, decide_eq_true rfl⟩
theorem group_full {s : List ByteArray} {f : List S_impl_PlantFoe} {p : List S_impl_PlantPlace} {v : List S_impl_PlantValve} (h : validB s f p v = true) (o : List ByteArray) {x : ByteArray} (hx : placeHas p x = true) : 0 < (groupL o p v x).length := by
  have hm : ∀ (n : Nat) (a : List ByteArray), x ∈ a → x ∈ growN o v n a := fun n => by
    induction n with
    | zero => intro a h; exact h
    | succ n ih =>
      intro a h
      have sw : ∀ (w : List S_impl_PlantValve) (a : List ByteArray × Bool), x ∈ a.1 → x ∈ (sweepL o w a).1 := fun w => by
        induction w with
        | nil => intro a h; exact h
        | cons y w ihw =>
          intro a h
          refine ihw _ ?_
          unfold sweepS
          split
          · exact (insertL_mem _ _ _).2 (.inr ((insertL_mem _ _ _).2 (.inr h)))
          · exact h
      exact ih _ (sw v (a, false) h)
  exact List.length_pos_of_mem (hm p.length [x] (List.mem_singleton.2 rfl))
def setsL (o : List ByteArray) (p : List S_impl_PlantPlace) (v : List S_impl_PlantValve) : List S_impl_PlantPlace → List S_impl_PlantSet
  | [] => []
  | x :: r => if (groupL o p v x.f0).getD 0 ByteArray.empty = x.f0 then ⟨groupL o p v x.f0⟩ :: setsL o p v r else setsL o p v r
theorem sets_len (o : List ByteArray) (p : List S_impl_PlantPlace) (v : List S_impl_PlantValve) (r : List S_impl_PlantPlace) : (setsL o p v r).length ≤ r.length := by
  induction r with
  | nil => exact Nat.le_refl _
  | cons x r ih => unfold setsL; split <;> simp <;> omega
theorem sets_each {s : List ByteArray} {f : List S_impl_PlantFoe} {p : List S_impl_PlantPlace} {v : List S_impl_PlantValve} (hV : validB s f p v = true) (o : List ByteArray) : ∀ r : List S_impl_PlantPlace, (∀ x ∈ r, x ∈ p) → ∀ t ∈ setsL o p v r, t.f0.length ≤ 14
  | [], _, t, ht => by cases ht
  | x :: r, hr, t, ht => by
    have ih := sets_each hV o r (fun x hx => hr x (List.mem_cons_of_mem _ hx)) t
    unfold setsL at ht
    split at ht
    · rcases List.mem_cons.1 ht with rfl | ht
      · exact (group_ok hV o (place_in (hr x (List.mem_cons_self ..)))).2.1
      · exact ih ht
    · exact ih ht
theorem sets_cons (o : List ByteArray) (p : List S_impl_PlantPlace) (v : List S_impl_PlantValve) (x : S_impl_PlantPlace) (r : List S_impl_PlantPlace) : setsL o p v (x :: r) = if (groupL o p v x.f0).getD 0 ByteArray.empty = x.f0 then ⟨groupL o p v x.f0⟩ :: setsL o p v r else setsL o p v r := rfl
theorem specGroups_ev {s : List ByteArray} {f : List S_impl_PlantFoe} {p : List S_impl_PlantPlace} {v : List S_impl_PlantValve} (hV : validB s f p v = true) (o : List ByteArray) (ho : o.length ≤ 140737488351232) (hI : Ev (fun k => spec_PlantValid.f k s f p v) true) : Ev (fun k => spec_PlantGroups.f k s f p v o) (setsL o p v p) := by
  have hp := valid_p hV
  have hv := valid_v hV
  unfold spec_PlantGroups.f
  refine Ev.bind hI (ev_pos rfl ?_)
  have key := loopL z_impl_PlantPlace p (P := fun i r => ∀ acc : List S_impl_PlantSet, acc.length ≤ i → Ev (fun k => spec_PlantGroups.l0 k s f p v o acc (i : Int)) (acc ++ setsL o p v r))
    (fun acc h => by refine Ev.step (fun k => by rw [spec_PlantGroups.l0]) ?_; exact ev_neg (by omega) (ev_ret (by simp [setsL]))) (fun i x r hi hx hm _ ih acc h => ?_)
  · exact key [] (Nat.zero_le _)
  have hfull := group_full hV o (place_in hm)
  refine Ev.step (fun k => by rw [spec_PlantGroups.l0]) (ev_pos (by omega) (ev_pos (by omega) ?_))
  rw [wsucc hi (by omega), rdP, hx]
  refine Ev.bind (specGroup_ev s f p v o x.f0 (by omega) (by omega) ho (List.mem_map.2 ⟨x, hm, rfl⟩) (valid_ends hV)) (ev_pos (by omega) ?_)
  rw [show rdOf ByteArray.empty (groupL o p v x.f0) 0 = (groupL o p v x.f0).getD 0 ByteArray.empty from rdOf_nat ByteArray.empty _ 0, sets_cons]
  refine ev_split (fun c => ev_pos (by omega) (ev_eq (ih _ (by rw [List.length_append, List.length_singleton]; omega)) ?_)) (fun c => ev_eq (ih acc (by omega)) ?_)
  · rw [if_pos (ba_iff.1 c)]; simp
  · rw [if_neg (fun e => c (ba_iff.2 e))]
theorem implGroups_ev {s : List ByteArray} {f : List S_impl_PlantFoe} {p : List S_impl_PlantPlace} {v : List S_impl_PlantValve} (hV : validB s f p v = true) (o : List ByteArray) (ho : o.length ≤ 140737488351232) (hI : Ev (fun k => impl_PlantValid.f k s f p v) true) : Ev (fun k => impl_PlantGroups.f k s f p v o) (setsL o p v p) := by
  have hp := valid_p hV
  have hv := valid_v hV
  unfold impl_PlantGroups.f
  refine Ev.bind hI (ev_pos rfl ?_)
  have key := loopL z_impl_PlantPlace p (P := fun i r => ∀ acc : List S_impl_PlantSet, acc.length ≤ i → Ev (fun k => impl_PlantGroups.l0 k s f p v o acc (i : Int)) (acc ++ setsL o p v r))
    (fun acc h => by refine Ev.step (fun k => by rw [impl_PlantGroups.l0]) ?_; exact ev_neg (by omega) (ev_ret (by simp [setsL]))) (fun i x r hi hx hm _ ih acc h => ?_)
  · exact key [] (Nat.zero_le _)
  have hfull := group_full hV o (place_in hm)
  refine Ev.step (fun k => by rw [impl_PlantGroups.l0]) (ev_pos (by omega) (ev_pos (by omega) ?_))
  rw [wsucc hi (by omega), rdP, hx]
  have hg := implGroup_ev s f p v o x.f0 (by omega) (by omega) ho (valid_ends hV)
  rw [if_pos (place_in hm)] at hg
  refine Ev.bind hg (ev_pos (by omega) ?_)
  rw [show rdOf ByteArray.empty (groupL o p v x.f0) 0 = (groupL o p v x.f0).getD 0 ByteArray.empty from rdOf_nat ByteArray.empty _ 0, sets_cons]
  refine ev_split (fun c => ev_pos (by omega) (ev_eq (ih _ (by rw [List.length_append, List.length_singleton]; omega)) ?_)) (fun c => ev_eq (ih acc (by omega)) ?_)
  · rw [if_pos (ba_iff.1 c)]; simp
  · rw [if_neg (fun e => c (ba_iff.2 e))]
/-! ### marks of slices in elements -/
theorem getD_mid {α : Type} (d : α) (pre : List α) (x : α) (r : List α) (i : Nat) (h : pre.length = i) : (pre ++ x :: r).getD i d = x := by
  subst h
  rw [List.getD_eq_getElem?_getD, List.getElem?_append_right (Nat.le_refl _), Nat.sub_self]; rfl
theorem set_mid {α : Type} (pre : List α) (x y : α) (r : List α) (i : Nat) (h : pre.length = i) : (pre ++ x :: r).set i y = (pre ++ [y]) ++ r := by
  subst h
  rw [List.set_append_right _ _ (Nat.le_refl _), Nat.sub_self]
  simp
theorem eqSet_ev (x : S_impl_PlantSet) (h : x.f0.length ≤ 140737488351232) : Ev (fun k => laws_eqPlantSet.f k x.f0 x.f0) true := by
  unfold laws_eqPlantSet.f
  exact Ev.bind (eqStringS_ev _ h) (ev_pos rfl (ev_ret rfl))
theorem eqSets_ev (l : List S_impl_PlantSet) (hl : l.length ≤ 140737488351232) (h : ∀ z ∈ l, z.f0.length ≤ 140737488351232) : Ev (fun k => laws_eqPlantSetS.f k l l) true := by
  unfold laws_eqPlantSetS.f
  refine ev_pos rfl ?_
  refine loopL z_impl_PlantSet l (P := fun i _ => Ev (fun k => laws_eqPlantSetS.l0 k l l (i : Int)) true)
    (Ev.step (fun k => by rw [laws_eqPlantSetS.l0]) (ev_neg (by omega) (ev_ret rfl)))
    (fun i x r hi hx hm _ ih => Ev.step (fun k => by rw [laws_eqPlantSetS.l0]) (ev_pos (by omega) (ev_pos (by omega) (ev_pos (by omega) (by
      rw [wsucc hi (by omega)]
      rw [show rd_impl_PlantSet l (i : Int) = x from by unfold rd_impl_PlantSet; simpa using hx]
      exact Ev.bind (eqSet_ev x (h x hm)) (ev_pos rfl ih))))))
noncomputable def mkSets : List S_impl_PlantSet → Int → List S_impl_PlantSet
  | [], _ => []
  | x :: r, a => ⟨mk_StringS x.f0.length a⟩ :: mkSets r (a + 1 * (x.f0.length : Int))
def totSets : List S_impl_PlantSet → Nat
  | [] => 0
  | x :: r => x.f0.length + totSets r
theorem tot_le (c : Nat) : ∀ l : List S_impl_PlantSet, (∀ z ∈ l, z.f0.length ≤ c) → totSets l ≤ l.length * c
  | [], _ => by simp [totSets]
  | x :: r, h => by
    have := tot_le c r (fun z hz => h z (List.mem_cons_of_mem _ hz))
    have := h x (List.mem_cons_self ..)
    simp only [totSets, List.length_cons, Nat.succ_mul]; omega
theorem mkSets_length : ∀ (l : List S_impl_PlantSet) (a : Int), (mkSets l a).length = l.length
  | [], _ => rfl
  | x :: r, a => by simp [mkSets, mkSets_length r]
theorem markSets_ev (l : List S_impl_PlantSet) (hl : l.length ≤ 1000) (a : Int) (ha : 0 ≤ a) (hb : a + (totSets l : Int) ≤ 100000000000) : Ev (fun k => laws_markPlantSetS.f k l a) (a + (totSets l : Int), mkSets l a) := by
  unfold laws_markPlantSetS.f
  have key := loopL z_impl_PlantSet l (P := fun i r => ∀ (pre : List S_impl_PlantSet) (b : Int), pre.length = i → (pre ++ r).length = l.length → 0 ≤ b → b + (totSets r : Int) ≤ 100000000000 → Ev (fun k => laws_markPlantSetS.l0 k l b (i : Int) (pre ++ r)) (b + (totSets r : Int), pre ++ mkSets r b))
    (fun pre b h1 h2 h3 h4 => by
      refine Ev.step (fun k => by rw [laws_markPlantSetS.l0]) (ev_pos h2 (ev_neg (by omega) (ev_ret ?_)))
      simp [totSets, mkSets])
    (fun i x r hi hx hm _ ih pre b h1 h2 h3 h4 => by
      have h4' : b + ((x.f0.length : Int) + (totSets r : Int)) ≤ 100000000000 := by simp only [totSets] at h4; omega
      refine Ev.step (fun k => by rw [laws_markPlantSetS.l0]) (ev_pos h2 (ev_pos (by omega) (ev_pos (by omega) ?_)))
      rw [wsucc hi (by omega), show rd_impl_PlantSet (pre ++ x :: r) (i : Int) = x from by unfold rd_impl_PlantSet; rw [Int.toNat_natCast]; exact getD_mid _ _ _ _ _ h1, Int.toNat_natCast]
      refine Ev.bind (markStringS_ev x.f0 b h3 (by omega) (by omega)) ?_
      simp only
      rw [set_mid pre x _ r i h1]
      refine ev_eq (ih (pre ++ [⟨mk_StringS x.f0.length b⟩]) (b + 1 * (x.f0.length : Int)) (by simp [h1]) (by simpa using h2) (by omega) (by omega)) ?_
      simp only [totSets, mkSets, List.append_assoc, List.singleton_append]
      congr 1
      omega)
  simpa using key [] a rfl (by simp) ha hb
theorem heldSets_ev (l : List S_impl_PlantSet) (hl : l.length ≤ 1000) (a : Int) (ha : 0 ≤ a) (hb : a + (totSets l : Int) ≤ 100000000000) : Ev (fun k => laws_heldPlantSetS.f k (mkSets l a) a) (a + (totSets l : Int)) := by
  unfold laws_heldPlantSetS.f
  have hlen := mkSets_length l a
  generalize hL : mkSets l a = L at *
  have key := loopL z_impl_PlantSet L (P := fun i r => ∀ (r0 : List S_impl_PlantSet) (b : Int), r = mkSets r0 b → 0 ≤ b → b + (totSets r0 : Int) ≤ 100000000000 → Ev (fun k => laws_heldPlantSetS.l0 k L b (i : Int)) (b + (totSets r0 : Int)))
    (fun r0 b h1 h2 h3 => by
      cases r0 with
      | nil => exact Ev.step (fun k => by rw [laws_heldPlantSetS.l0]) (ev_neg (by omega) (ev_ret (by simp [totSets])))
      | cons x r0 => simp [mkSets] at h1)
    (fun i x r hi hx hm _ ih r0 b h1 h2 h3 => by
      cases r0 with
      | nil => simp [mkSets] at h1
      | cons x0 r0 =>
        simp only [mkSets, List.cons.injEq] at h1
        obtain ⟨rfl, h1⟩ := h1
        have h3' : b + ((x0.f0.length : Int) + (totSets r0 : Int)) ≤ 100000000000 := by simp only [totSets] at h3; omega
        refine Ev.step (fun k => by rw [laws_heldPlantSetS.l0]) (ev_pos (by omega) (ev_pos (by omega) ?_))
        rw [wsucc hi (by omega), show rd_impl_PlantSet L (i : Int) = ⟨mk_StringS x0.f0.length b⟩ from by unfold rd_impl_PlantSet; rw [Int.toNat_natCast]; exact hx]
        refine Ev.bind (heldStringS_ev x0.f0.length b h2 (by omega) (by omega)) (ev_neg (by omega) ?_)
        refine ev_eq (ih r0 _ h1 (by omega) (by omega)) ?_
        simp only [totSets]; omega)
  exact key l a hL.symm ha hb
theorem FnExactPlantGroups : ∀ (x0 : S_laws_Plant) (x1 : List ByteArray), (ok_laws_Plant x0) → ((x1.length ≤ 9223372036854775807 ∧ x1.length * 16 ≤ 140737488351232) ∧ ∀ z ∈ x1, z.size ≤ 140737488351232) → ∃ k, laws_FnExactPlantGroups.f k x0.f0 x0.f1 x0.f2 x0.f3 x1 = some true := by
  intro x o hx ho
  obtain ⟨q, hq⟩ := szPlant_ev x hx 1048576
  obtain ⟨⟨ol, ol2⟩, ok⟩ := ho
  obtain ⟨q2, hq2⟩ := szStringS_ev o (by omega) ok q
  have ht := toPlant_ev x hx
  have ht2 := toStringS_ev o (by omega)
  have hS := specValid_of x hx
  have hI := implValid_ev _ _ _ _ (szp_of x hx)
  have hE := eqPlantRefl_ev x hx
  have hE2 := eqStringS_ev o (by omega)
  obtain ⟨m, hm0, hm1, hm⟩ := markPlant_of x hx
  have hm2 := markStringS_ev o m.1 (by omega) (by omega) (by omega)
  generalize x.f1.map cv_laws_PlantFoe = f at *
  generalize x.f2.map cv_laws_PlantPlace = p at *
  generalize x.f3.map cv_laws_PlantValve = v at *
  have hp := @valid_p x.f0 f p v
  have hG := @sets_each x.f0 f p v
  have hgS := @specGroups_ev x.f0 f p v
  have hgI := @implGroups_ev x.f0 f p v
  generalize hb : validB x.f0 f p v = b at *
  have eS : Ev (fun k => spec_PlantGroups.f k x.f0 f p v o) (if b = true then setsL o p v p else []) := by
    cases b
    · unfold spec_PlantGroups.f
      exact Ev.bind hS (ev_neg (by simp) (ev_ret rfl))
    · exact hgS rfl o (by omega) hS
  have eI : Ev (fun k => impl_PlantGroups.f k x.f0 f p v o) (if b = true then setsL o p v p else []) := by
    cases b
    · unfold impl_PlantGroups.f
      exact Ev.bind hI (ev_neg (by simp) (ev_ret rfl))
    · exact hgI rfl o (by omega) hI
  have hl : (if b = true then setsL o p v p else []).length ≤ 14 := by
    cases b
    · simp
    · have := sets_len o p v p
      have := hp rfl
      simp; omega
  have hz : ∀ z ∈ (if b = true then setsL o p v p else []), z.f0.length ≤ 14 := fun z hz => by
    cases b
    · simp at hz
    · exact hG rfl o p (fun _ h => h) z (by simpa using hz)
  generalize (if b = true then setsL o p v p else []) = R at *
  have htot : totSets R ≤ 196 := Nat.le_trans (tot_le 14 R hz) (Nat.mul_le_mul_right 14 hl)
  have e2 := eqSets_ev R (by omega) (fun z h => by have := hz z h; omega)
  have e3 := markSets_ev R (by omega) 1 (by omega) (by omega)
  have e4 := heldSets_ev R (by omega) 1 (by omega) (by omega)
  clear hS hI hp hG hgS hgI hb hl hx hz
  refine Ev.rounds ?_
  unfold laws_FnExactPlantGroups.f
  refine Ev.bind hq (ev_split (fun _ => ev_ret rfl) (fun _ => Ev.bind hq2 (ev_split (fun _ => ev_ret rfl) (fun _ => ?_))))
  repeat' (first
    | with_reducible refine Ev.bind ht ?_
    | with_reducible refine Ev.bind ht2 ?_
    | with_reducible refine Ev.bind eS ?_
    | with_reducible refine Ev.bind eI ?_
    | with_reducible refine Ev.bind e2 ?_
    | with_reducible refine Ev.bind hE ?_
    | with_reducible refine Ev.bind hE2 ?_
    | with_reducible refine Ev.bind hm ?_
    | with_reducible refine Ev.bind hm2 ?_
    | with_reducible refine Ev.bind e3 ?_
    | with_reducible refine Ev.bind e4 ?_
    | with_reducible refine ev_neg (by first | omega | (dsimp only; omega)) ?_
    | with_reducible refine ev_pos rfl ?_
    | with_reducible exact ev_ret rfl)
end Go.Proofs.Ytodeegjblililaa.Pure
